/- Parts of the walk, put together by a program. By an AI agent. -/
import Derived.Test.YtnldjikcnahioaaGreatDoorPaSourceLexes1
import Derived.Shelf.LaysM
import Derived.Shelf.Strconv.Itoa3
import Derived.Shelf.Strconv.AtoiAll
import Derived.Lib.ItoaLen
import Derived.Lib.AtoiErrMem
import Derived.MapKept
import Derived.WideMake
import Derived.ChangeKeysEq
import Derived.WideKeyRuns
set_option linter.unusedSimpArgs false
set_option linter.unusedVariables false
namespace Go.Proofs.YtnldjikcnahioaaGreatDoor
open Go Go.Eng Go.Proofs
open Fm
theorem isLet_int (c : UInt8) : isLet c = ((decide ((97 : Int) ≤ c.toNat) && decide ((c.toNat : Int) ≤ 122)) || (decide ((65 : Int) ≤ c.toNat) && decide ((c.toNat : Int) ≤ 90))) := by
 unfold isLet
 rw [Bool.eq_iff_iff]
 simp only [Bool.or_eq_true, Bool.and_eq_true, decide_eq_true_eq]
 omega
theorem isDig_int (c : UInt8) : isDig c = (decide ((48 : Int) ≤ c.toNat) && decide ((c.toNat : Int) ≤ 57)) := by
 unfold isDig
 rw [Bool.eq_iff_iff]
 simp only [Bool.or_eq_true, Bool.and_eq_true, decide_eq_true_eq]
 omega
theorem u8_is {a : UInt8} {n : Nat} (hn : n < 256) : a = UInt8.ofNat n ↔ (a.toNat : Int) = (n : Int) := by
 rw [← UInt8.toNat_inj, UInt8.toNat_ofNat', Nat.mod_eq_of_lt (by omega)]; omega
theorem u8_dec (a : UInt8) {n : Nat} (hn : n < 256) : decide (a = UInt8.ofNat n) = ((a.toNat : Int) == (n : Int)) := by
 rw [Bool.eq_iff_iff, decide_eq_true_eq, beq_iff_eq]; exact u8_is hn
theorem isPrt_int (c : UInt8) : isPrt c = (isLet c || isDig c || ((c.toNat : Int) == 95)) := by
 unfold isPrt
 rw [show decide (c = 95) = ((c.toNat : Int) == 95) from u8_dec c (n := 95) (by decide)]
theorem isBlk_int (c : UInt8) : isBlk c = (((c.toNat : Int) == 32) || ((c.toNat : Int) == 9)) := by
 unfold isBlk
 rw [show decide (c = 32) = ((c.toNat : Int) == 32) from u8_dec c (n := 32) (by decide), show decide (c = 9) = ((c.toNat : Int) == 9) from u8_dec c (n := 9) (by decide)]
theorem okC_int (c : UInt8) : okC c = (((c.toNat : Int) == 9) || (decide ((32 : Int) ≤ c.toNat) && decide ((c.toNat : Int) ≤ 126))) := by
 unfold okC
 rw [show decide (c = 9) = ((c.toNat : Int) == 9) from u8_dec c (n := 9) (by decide), Bool.eq_iff_iff]
 simp only [Bool.or_eq_true, Bool.and_eq_true, decide_eq_true_eq, beq_iff_eq]
 omega
theorem isLetter_c (c : UInt8) (w : World) : Pure Tryz.prog 63 [.int .u8 c.toNat] w (.bool (isLet c)) := by
 refine enter Tryz.func63 rfl Tryz.ntmps63 rfl (St.init _) ?_
 refine jN 14 ?_
 refine WA.splitB (i := 5) rfl (fun g5 => ?_) (fun g5 => ?_)
 ·refine jN 10 ?_
  refine WA.splitB (i := 9) rfl (fun g9 => ?_) (fun g9 => ?_)
  ·refine jN 19 ?_
   exact WQ.ret (rs := [.tmp 2]) rfl (.tmp rfl .nil) (fun w hS => ⟨by simp [tup, isLet_int, isDig_int, isBlk_int, *], hS⟩)
  ·refine jN 9 ?_
   refine WA.splitB (i := 12) rfl (fun g12 => ?_) (fun g12 => ?_)
   ·refine jN 16 ?_
    exact WQ.ret (rs := [.tmp 2]) rfl (.tmp rfl .nil) (fun w hS => ⟨by simp [tup, isLet_int, isDig_int, isBlk_int, *], hS⟩)
   ·refine jN 14 ?_
    exact WQ.ret (rs := [.tmp 2]) rfl (.tmp rfl .nil) (fun w hS => ⟨by simp [tup, isLet_int, isDig_int, isBlk_int, *], hS⟩)
 ·refine jN 17 ?_
  refine WA.splitB (i := 12) rfl (fun g12 => ?_) (fun g12 => ?_)
  ·refine jN 16 ?_
   exact WQ.ret (rs := [.tmp 2]) rfl (.tmp rfl .nil) (fun w hS => ⟨by simp [tup, isLet_int, isDig_int, isBlk_int, *], hS⟩)
  ·refine jN 14 ?_
   exact WQ.ret (rs := [.tmp 2]) rfl (.tmp rfl .nil) (fun w hS => ⟨by simp [tup, isLet_int, isDig_int, isBlk_int, *], hS⟩)
theorem isDigit_c (c : UInt8) (w : World) : Pure Tryz.prog 64 [.int .u8 c.toNat] w (.bool (isDig c)) := by
 refine enter Tryz.func64 rfl Tryz.ntmps64 rfl (St.init _) ?_
 refine jN 14 ?_
 refine WA.splitB (i := 5) rfl (fun g5 => ?_) (fun g5 => ?_)
 ·refine jN 13 ?_
  exact WQ.ret (rs := [.tmp 2]) rfl (.tmp rfl .nil) (fun w hS => ⟨by simp [tup, isLet_int, isDig_int, isBlk_int, *], hS⟩)
 ·refine jN 11 ?_
  exact WQ.ret (rs := [.tmp 2]) rfl (.tmp rfl .nil) (fun w hS => ⟨by simp [tup, isLet_int, isDig_int, isBlk_int, *], hS⟩)
theorem isBlank_c (c : UInt8) (w : World) : Pure Tryz.prog 38 [.int .u8 c.toNat] w (.bool (isBlk c)) := by
 refine enter Tryz.func38 rfl Tryz.ntmps38 rfl (St.init _) ?_
 refine jN 14 ?_
 refine WA.splitB (i := 5) rfl (fun g5 => ?_) (fun g5 => ?_)
 ·refine jN 11 ?_
  exact WQ.ret (rs := [.tmp 2]) rfl (.tmp rfl .nil) (fun w hS => ⟨by simp [tup, isLet_int, isDig_int, isBlk_int, *], hS⟩)
 ·refine jN 13 ?_
  exact WQ.ret (rs := [.tmp 2]) rfl (.tmp rfl .nil) (fun w hS => ⟨by simp [tup, isLet_int, isDig_int, isBlk_int, *], hS⟩)
theorem rLetter_c (c : UInt8) (w : World) : Pure Tryz.prog 68 [.int .u8 c.toNat] w (.bool (isLet c)) := by
 refine enter Tryz.func68 rfl Tryz.ntmps68 rfl (St.init _) ?_
 refine jN 14 ?_
 refine WA.splitB (i := 5) rfl (fun g5 => ?_) (fun g5 => ?_)
 ·refine jN 10 ?_
  refine WA.splitB (i := 9) rfl (fun g9 => ?_) (fun g9 => ?_)
  ·refine jN 19 ?_
   exact WQ.ret (rs := [.tmp 2]) rfl (.tmp rfl .nil) (fun w hS => ⟨by simp [tup, isLet_int, isDig_int, isBlk_int, *], hS⟩)
  ·refine jN 9 ?_
   refine WA.splitB (i := 12) rfl (fun g12 => ?_) (fun g12 => ?_)
   ·refine jN 16 ?_
    exact WQ.ret (rs := [.tmp 2]) rfl (.tmp rfl .nil) (fun w hS => ⟨by simp [tup, isLet_int, isDig_int, isBlk_int, *], hS⟩)
   ·refine jN 14 ?_
    exact WQ.ret (rs := [.tmp 2]) rfl (.tmp rfl .nil) (fun w hS => ⟨by simp [tup, isLet_int, isDig_int, isBlk_int, *], hS⟩)
 ·refine jN 17 ?_
  refine WA.splitB (i := 12) rfl (fun g12 => ?_) (fun g12 => ?_)
  ·refine jN 16 ?_
   exact WQ.ret (rs := [.tmp 2]) rfl (.tmp rfl .nil) (fun w hS => ⟨by simp [tup, isLet_int, isDig_int, isBlk_int, *], hS⟩)
  ·refine jN 14 ?_
   exact WQ.ret (rs := [.tmp 2]) rfl (.tmp rfl .nil) (fun w hS => ⟨by simp [tup, isLet_int, isDig_int, isBlk_int, *], hS⟩)
theorem rDigit_c (c : UInt8) (w : World) : Pure Tryz.prog 41 [.int .u8 c.toNat] w (.bool (isDig c)) := by
 refine enter Tryz.func41 rfl Tryz.ntmps41 rfl (St.init _) ?_
 refine jN 14 ?_
 refine WA.splitB (i := 5) rfl (fun g5 => ?_) (fun g5 => ?_)
 ·refine jN 13 ?_
  exact WQ.ret (rs := [.tmp 2]) rfl (.tmp rfl .nil) (fun w hS => ⟨by simp [tup, isLet_int, isDig_int, isBlk_int, *], hS⟩)
 ·refine jN 11 ?_
  exact WQ.ret (rs := [.tmp 2]) rfl (.tmp rfl .nil) (fun w hS => ⟨by simp [tup, isLet_int, isDig_int, isBlk_int, *], hS⟩)
theorem isPart_c (c : UInt8) (w : World) : Pure Tryz.prog 31 [.int .u8 c.toNat] w (.bool (isPrt c)) := by
 refine enter Tryz.func31 rfl Tryz.ntmps31 rfl (St.init _) ?_
 refine jN 11 ?_
 refine WL.callV F.fun63 rfl rfl (fun w hS => isLetter_c c w) ?_
 refine jN 2 ?_
 refine WA.splitB (i := 5) rfl (fun g5 => ?_) (fun g5 => ?_)
 ·refine jN 19 ?_
  exact WQ.ret (rs := [.tmp 2]) rfl (.tmp rfl .nil) (fun w hS => ⟨by simp [tup, isPrt_int, *], hS⟩)
 ·refine jN 5 ?_
  refine WL.callV F.fun64 rfl rfl (fun w hS => isDigit_c c w) ?_
  refine jN 4 ?_
  refine WA.splitB (i := 9) rfl (fun g9 => ?_) (fun g9 => ?_)
  ·refine jN 11 ?_
   exact WQ.ret (rs := [.tmp 2]) rfl (.tmp rfl .nil) (fun w hS => ⟨by simp [tup, isPrt_int, *], hS⟩)
  ·refine jN 13 ?_
   exact WQ.ret (rs := [.tmp 2]) rfl (.tmp rfl .nil) (fun w hS => ⟨by simp [tup, isPrt_int, *], hS⟩)
theorem rPart_c (c : UInt8) (w : World) : Pure Tryz.prog 40 [.int .u8 c.toNat] w (.bool (isPrt c)) := by
 refine enter Tryz.func40 rfl Tryz.ntmps40 rfl (St.init _) ?_
 refine jN 11 ?_
 refine WL.callV F.fun68 rfl rfl (fun w hS => rLetter_c c w) ?_
 refine jN 2 ?_
 refine WA.splitB (i := 5) rfl (fun g5 => ?_) (fun g5 => ?_)
 ·refine jN 19 ?_
  exact WQ.ret (rs := [.tmp 2]) rfl (.tmp rfl .nil) (fun w hS => ⟨by simp [tup, isPrt_int, *], hS⟩)
 ·refine jN 5 ?_
  refine WL.callV F.fun41 rfl rfl (fun w hS => rDigit_c c w) ?_
  refine jN 4 ?_
  refine WA.splitB (i := 9) rfl (fun g9 => ?_) (fun g9 => ?_)
  ·refine jN 11 ?_
   exact WQ.ret (rs := [.tmp 2]) rfl (.tmp rfl .nil) (fun w hS => ⟨by simp [tup, isPrt_int, *], hS⟩)
  ·refine jN 13 ?_
   exact WQ.ret (rs := [.tmp 2]) rfl (.tmp rfl .nil) (fun w hS => ⟨by simp [tup, isPrt_int, *], hS⟩)
open Go Go.Eng Go.Proofs
open Fm
theorem take_all2 {q : UInt8 → Bool} {l : List UInt8} {k : Nat} {c : UInt8} (h : l[k]? = some c) : (l.take (k + 1)).all q = ((l.take k).all q && q c) := by
 rw [List.take_add_one, h]; simp
theorem okC_a {c : UInt8} (h1 : ((c.toNat : Int) != 9) = true) (h2 : decide ((c.toNat : Int) < 32) = true) : (!okC c) = true := by
 rw [okC_int]
 simp only [bne_iff_ne, ne_eq, decide_eq_true_eq] at h1 h2
 have e1 : ((c.toNat : Int) == 9) = false := beq_eq_false_iff_ne.2 h1
 have e2 : decide ((32 : Int) ≤ c.toNat) = false := decide_eq_false (by omega)
 rw [e1, e2]; rfl
theorem okC_b {c : UInt8} (h1 : ((c.toNat : Int) != 9) = true) (h2 : decide ((c.toNat : Int) < 32) = false) : (!okC c) = decide ((126 : Int) < c.toNat) := by
 rw [okC_int]
 simp only [bne_iff_ne, ne_eq, decide_eq_false_iff_not] at h1 h2
 have e1 : ((c.toNat : Int) == 9) = false := beq_eq_false_iff_ne.2 h1
 have e2 : decide ((32 : Int) ≤ c.toNat) = true := decide_eq_true (by omega)
 rw [e1, e2, Bool.false_or, Bool.true_and, Bool.eq_iff_iff]
 simp only [Bool.not_eq_true', decide_eq_false_iff_not, decide_eq_true_eq]
 omega
theorem okC_c {c : UInt8} (h1 : ((c.toNat : Int) != 9) = false) : (!okC c) = false := by
 rw [okC_int]
 have e1 : ((c.toNat : Int) == 9) = true := by rw [beq_iff_eq]; simpa using h1
 rw [e1]; rfl
def namBad (l : List UInt8) : Bool := match l with
 | [] => true
 | c :: _ => decide (32 < l.length) || isDig c
theorem namB_bad (l : List UInt8) : namB l = (!namBad l && l.all isPrt) := by
 cases l with
 | nil => rfl
 | cons c r =>
  have e : decide ((c :: r).length ≤ 32) = !decide (32 < (c :: r).length) := by
   rw [Bool.eq_iff_iff]; simp
  simp only [namB, namBad, e, Bool.not_or]
theorem namBad_len {l : List UInt8} (h : namBad l = false) : l.length ≤ 32 := by
 cases l with
 | nil => cases h
 | cons c r =>
  simp only [namBad, Bool.or_eq_false_iff, decide_eq_false_iff_not] at h
  omega
theorem namBad_nil {l : List UInt8} (h : (l == []) = true) : namBad l = true := by
 have : l = [] := by simpa using h
 subst this; rfl
theorem namBad_nil2 {l : List UInt8} (h : decide ((l.length : Int) < 1) = true) : namBad l = true := by
 have : l = [] := List.eq_nil_of_length_eq_zero (by simp at h; omega)
 subst this; rfl
theorem namBad_long {l : List UInt8} (h : decide ((32 : Int) < l.length) = true) : namBad l = true := by
 have h1 : 32 < l.length := by simp at h; omega
 cases l with
 | nil => rfl
 | cons c r => simp only [namBad, decide_eq_true h1, Bool.true_or]
theorem namBad_dig {l : List UInt8} {c : UInt8} (hc : l[0]? = some c) (h : decide ((32 : Int) < l.length) = false) : namBad l = isDig c := by
 have h1 : ¬ 32 < l.length := by simp at h; omega
 cases l with
 | nil => simp at hc
 | cons a r =>
  simp at hc; subst hc
  simp only [namBad, decide_eq_false h1, Bool.false_or]
theorem isName6_c (l : List UInt8) (w : World) : Pure Tryz.prog 33 [.string (str l)] w (.bool (namB l)) := by
 refine enter Tryz.func33 rfl Tryz.ntmps33 rfl (St.init _) ?_
 refine jN 8 ?_
 refine WC.cutF [(15, .bool (namBad l)), (0, .string (str l))] (fun Q' hQ => ?_) ?_
 ·refine jN 7 ?_
  refine WA.splitB (i := 6) rfl (fun h6 => ?_) (fun h6 => ?_)
  ·refine jN 19 ?_
   refine WQ.byCut hQ (subF_bool ?_ ⟨rfl, trivial⟩ rfl)
   first | exact namBad_nil h6 | exact namBad_long h11 | exact namBad_dig hc0 h11
  ·have hpos : 0 < l.length := by cases l with | nil => cases h6 | cons => simp
   obtain ⟨c0, hc0⟩ : ∃ c, l[0]? = some c := ⟨l[0], by simp [hpos]⟩
   refine jN 13 ?_
   refine WA.splitB (i := 11) rfl (fun h11 => ?_) (fun h11 => ?_)
   ·refine jN 9 ?_
    refine WQ.byCut hQ (subF_bool ?_ ⟨rfl, trivial⟩ rfl)
    first | exact namBad_nil h6 | exact namBad_long h11 | exact namBad_dig hc0 h11
   ·refine jN 5 ?_
    refine WL.indexS (i := 0) F.und9 rfl rfl rfl hc0 ?_
    refine jN 2 ?_
    refine WL.callV F.fun64 rfl rfl (fun w hS => isDigit_c c0 w) ?_
    refine jN 3 ?_
    refine WQ.byCut hQ (subF_bool ?_ ⟨rfl, trivial⟩ rfl)
    first | exact namBad_nil h6 | exact namBad_long h11 | exact namBad_dig hc0 h11
 refine jN 1 ?_
 refine WC.cond rfl (fun h21 => ?_) (fun h21 => ?_)
 ·refine jN 8 ?_
  exact WQ.ret (rs := [.tmp 2]) rfl (.tmp rfl .nil) (fun w hS => ⟨by simp [tup, namB_bad, h21], hS⟩)
 ·have hl : l.length ≤ 32 := namBad_len h21
  refine jN 14 ?_
  refine WC.loop (α := Nat) (fun k => k ≤ l.length ∧ (l.take k).all isPrt = true) (fun k => [(0, .string (str l)), (17, .int .i64 l.length), (18, .int .i64 k)]) (fun _ => []) (fun k => l.length - k) (0) ?_ ?_ ?_ ?_
  ·exact ⟨by omega, by simp⟩
  ·exact ⟨rfl, rfl, rfl, trivial⟩
  ·rfl
  rintro k ⟨hk, hal⟩
  refine jN 7 ?_
  refine WC.cond rfl (fun h25 => ?_) (fun h25 => ?_)
  ·have hlt : k < l.length := by simpa using h25
   obtain ⟨c, hc⟩ : ∃ c, l[k]? = some c := ⟨l[k], by simp [hlt]⟩
   refine jN 19 ?_
   refine WL.indexS F.und9 rfl rfl rfl (by assumption) ?_
   refine jN 1 ?_
   refine WL.callV F.fun31 rfl rfl (fun w hS => isPart_c c w) ?_
   refine jN 4 ?_
   refine WC.cond rfl (fun h31 => ?_) (fun h31 => ?_)
   ·have hcw : isPrt c = false := by simpa using h31
    refine jN 12 ?_
    exact WQ.ret (rs := [.tmp 2]) rfl (.tmp rfl .nil) (fun w hS => ⟨by simp [tup, namB_bad]; intro _; exact ⟨c, List.mem_of_getElem? hc, hcw⟩, hS⟩)
   ·have hcw : isPrt c = true := by simpa using h31
    refine jN 9 ?_
    refine WQ.back (k + 1) ?_ ?_ ?_ ?_
    ·exact ⟨by omega, by rw [take_all2 hc, hal, hcw]; rfl⟩
    ·omega
    ·exact ⟨rfl, rfl, rfl, trivial⟩
    ·rfl
  ·have hkl : k = l.length := by simp at h25; omega
   subst hkl
   rw [List.take_length] at hal
   refine jN 12 ?_
   exact WQ.ret (rs := [.tmp 2]) rfl (.tmp rfl .nil) (fun w hS => ⟨by simp [tup, namB_bad, h21, hal], hS⟩)
theorem rIsName_c (l : List UInt8) (w : World) : Pure Tryz.prog 42 [.string (str l)] w (.bool (namB l)) := by
 refine enter Tryz.func42 rfl Tryz.ntmps42 rfl (St.init _) ?_
 refine jN 8 ?_
 refine WC.cutF [(16, .bool (namBad l)), (0, .string (str l))] (fun Q' hQ => ?_) ?_
 ·refine jN 9 ?_
  refine WA.splitB (i := 7) rfl (fun h7 => ?_) (fun h7 => ?_)
  ·refine jN 19 ?_
   refine WQ.byCut hQ (subF_bool ?_ ⟨rfl, trivial⟩ rfl)
   first | exact namBad_nil2 h7 | exact namBad_long h12 | exact namBad_dig hc0 h12
  ·have hpos : 0 < l.length := by simp at h7; omega
   obtain ⟨c0, hc0⟩ : ∃ c, l[0]? = some c := ⟨l[0], by simp [hpos]⟩
   refine jN 13 ?_
   refine WA.splitB (i := 12) rfl (fun h12 => ?_) (fun h12 => ?_)
   ·refine jN 9 ?_
    refine WQ.byCut hQ (subF_bool ?_ ⟨rfl, trivial⟩ rfl)
    first | exact namBad_nil2 h7 | exact namBad_long h12 | exact namBad_dig hc0 h12
   ·refine jN 5 ?_
    refine WL.indexS (i := 0) F.und9 rfl rfl rfl hc0 ?_
    refine jN 2 ?_
    refine WL.callV F.fun41 rfl rfl (fun w hS => rDigit_c c0 w) ?_
    refine jN 3 ?_
    refine WQ.byCut hQ (subF_bool ?_ ⟨rfl, trivial⟩ rfl)
    first | exact namBad_nil2 h7 | exact namBad_long h12 | exact namBad_dig hc0 h12
 refine jN 1 ?_
 refine WC.cond rfl (fun h21 => ?_) (fun h21 => ?_)
 ·refine jN 8 ?_
  exact WQ.ret (rs := [.tmp 2]) rfl (.tmp rfl .nil) (fun w hS => ⟨by simp [tup, namB_bad, h21], hS⟩)
 ·have hl : l.length ≤ 32 := namBad_len h21
  refine jN 10 ?_
  refine WC.loop (α := Nat) (fun k => k ≤ l.length ∧ (l.take k).all isPrt = true) (fun k => [(0, .string (str l)), (3, .int .i64 k)]) (fun _ => []) (fun k => l.length - k) (0) ?_ ?_ ?_ ?_
  ·exact ⟨by omega, by simp⟩
  ·exact ⟨rfl, rfl, trivial⟩
  ·rfl
  rintro k ⟨hk, hal⟩
  refine jN 13 ?_
  refine WC.cond rfl (fun h25 => ?_) (fun h25 => ?_)
  ·have hlt : k < l.length := by simpa using h25
   obtain ⟨c, hc⟩ : ∃ c, l[k]? = some c := ⟨l[k], by simp [hlt]⟩
   refine jN 11 ?_
   refine WL.indexS F.und9 rfl rfl rfl (by assumption) ?_
   refine jN 1 ?_
   refine WL.callV F.fun40 rfl rfl (fun w hS => rPart_c c w) ?_
   refine jN 4 ?_
   refine WC.cond rfl (fun h31 => ?_) (fun h31 => ?_)
   ·have hcw : isPrt c = false := by simpa using h31
    refine jN 12 ?_
    exact WQ.ret (rs := [.tmp 2]) rfl (.tmp rfl .nil) (fun w hS => ⟨by simp [tup, namB_bad]; intro _; exact ⟨c, List.mem_of_getElem? hc, hcw⟩, hS⟩)
   ·have hcw : isPrt c = true := by simpa using h31
    refine jN 11 ?_
    refine WQ.back (k + 1) ?_ ?_ ?_ ?_
    ·exact ⟨by omega, by rw [take_all2 hc, hal, hcw]; rfl⟩
    ·omega
    ·exact ⟨rfl, rfl, trivial⟩
    ·rfl
  ·have hkl : k = l.length := by simp at h25; omega
   subst hkl
   rw [List.take_length] at hal
   refine jN 12 ?_
   exact WQ.ret (rs := [.tmp 2]) rfl (.tmp rfl .nil) (fun w hS => ⟨by simp [tup, namB_bad, h21, hal], hS⟩)
theorem allowed_c (l : List UInt8) (hl : l.length ≤ 1000000000) (w : World) : Pure Tryz.prog 29 [.string (str l)] w (.bool (l.all okC)) := by
 refine enter Tryz.func29 rfl Tryz.ntmps29 rfl (St.init _) ?_
 refine jN 18 ?_
 refine WC.loop (α := Nat) (fun k => k ≤ l.length ∧ (l.take k).all okC = true) (fun k => [(0, .string (str l)), (5, .int .i64 l.length), (6, .int .i64 k)]) (fun _ => []) (fun k => l.length - k) (0) ?_ ?_ ?_ ?_
 ·exact ⟨by omega, by simp⟩
 ·exact ⟨rfl, rfl, rfl, trivial⟩
 ·rfl
 rintro k ⟨hk, hal⟩
 refine jN 7 ?_
 refine WC.cond rfl (fun h7 => ?_) (fun h7 => ?_)
 ·have hlt : k < l.length := by simpa using h7
  obtain ⟨c, hc⟩ : ∃ c, l[k]? = some c := ⟨l[k], by simp [hlt]⟩
  refine jN 13 ?_
  refine WC.cutF [(24, .bool (!okC c)), (0, .string (str l)), (5, .int .i64 l.length), (6, .int .i64 k)] (fun Q' hQ => ?_) ?_
  ·refine jN 6 ?_
   refine WL.indexS (i := k) F.und9 rfl rfl rfl hc ?_
   refine jN 4 ?_
   refine WA.splitB (i := 13) rfl (fun g13 => ?_) (fun g13 => ?_)
   ·refine jN 8 ?_
    refine WL.indexS (i := k) F.und9 rfl rfl rfl hc ?_
    refine jN 6 ?_
    refine WA.splitB (i := 18) rfl (fun g18 => ?_) (fun g18 => ?_)
    ·refine jN 14 ?_
     refine WQ.byCut hQ (subF_bool ?_ ⟨rfl, rfl, rfl, trivial⟩ rfl)
     first | exact okC_a g13 g18 | exact okC_b g13 g18 | exact okC_c g13
    ·refine jN 8 ?_
     refine WL.indexS (i := k) F.und9 rfl rfl rfl hc ?_
     refine jN 9 ?_
     refine WQ.byCut hQ (subF_bool ?_ ⟨rfl, rfl, rfl, trivial⟩ rfl)
     first | exact okC_a g13 g18 | exact okC_b g13 g18 | exact okC_c g13
   ·refine jN 23 ?_
    refine WQ.byCut hQ (subF_bool ?_ ⟨rfl, rfl, rfl, trivial⟩ rfl)
    first | exact okC_a g13 g18 | exact okC_b g13 g18 | exact okC_c g13
  refine jN 1 ?_
  refine WC.cond rfl (fun h24 => ?_) (fun h24 => ?_)
  ·have hcw : okC c = false := by simpa using h24
   refine jN 12 ?_
   exact WQ.ret (rs := [.tmp 2]) rfl (.tmp rfl .nil) (fun w hS => ⟨by rw [show l.all okC = false from List.all_eq_false.2 ⟨c, List.mem_of_getElem? hc, by rw [hcw]; simp⟩]; rfl, hS⟩)
  ·have hcw : okC c = true := by simpa using h24
   refine jN 9 ?_
   refine WQ.back (k + 1) ?_ ?_ ?_ ?_
   ·exact ⟨by omega, by rw [take_all2 hc, hal, hcw]; rfl⟩
   ·omega
   ·exact ⟨rfl, rfl, rfl, trivial⟩
   ·rfl
 ·have hkl : k = l.length := by simp at h7; omega
  subst hkl
  rw [List.take_length] at hal
  refine jN 12 ?_
  exact WQ.ret (rs := [.tmp 2]) rfl (.tmp rfl .nil) (fun w hS => ⟨by rw [hal]; rfl, hS⟩)
end Go.Proofs.YtnldjikcnahioaaGreatDoor
namespace Fm
open Go
theorem itoa_nat (n : Nat) : Lib.itoa (n : Int) = Lib.decDigits n := by
 rcases itoa_cases (n : Int) with ⟨h, _⟩ | ⟨_, e⟩
 ·omega
 ·rw [e]; congr 1
theorem numB_iff {s : List UInt8} : numB s = true ↔ ∃ n : Nat, n ≤ 2147483647 ∧ s = Lib.decDigits n := by
 unfold numB
 rw [Bool.and_eq_true, decide_eq_true_eq, decide_eq_true_eq, itoa_nat]
 constructor
 ·rintro ⟨h1, h2⟩; exact ⟨_, h2, h1.symm⟩
 ·rintro ⟨n, h, rfl⟩; rw [digV_dec]; exact ⟨rfl, h⟩
theorem atoiAll_nat {n : Nat} (h : n ≤ 2147483647) : Lib.atoiAll (Lib.decDigits n) = .ok (n : Int) := by
 have hp : Lib.parseMag (Lib.decDigits n) = .ok n := by
  unfold Lib.parseMag
  rw [if_neg (dec_ne _)]
  have e := digV_dec n
  unfold digV at e
  rw [parse_dig _ 0 (dec_dig _) (by rw [e]; omega), e]
 cases hl : Lib.decDigits n with
 | nil => exact absurd hl (dec_ne _)
 | cons c r =>
  have hc := dec_dig n c (by rw [hl]; simp)
  rw [hl] at hp
  unfold Lib.atoiAll
  have h43 : ¬ c.toNat = 43 := by omega
  have h45 : ¬ c.toNat = 45 := by omega
  simp only [h43, h45, or_self, if_false, hp, not_false_eq_true, true_and, false_and]
  rw [if_neg (by omega)]
theorem numB_no {s : List UInt8} (h : ∀ x, Lib.atoiAll s ≠ .ok x) : numB s = false := by
 cases hb : numB s with
 | false => rfl
 | true =>
  obtain ⟨n, h1, rfl⟩ := numB_iff.1 hb
  exact absurd (atoiAll_nat h1) (h _)
theorem numB_ok {s : List UInt8} {v : Int} (h : Lib.atoiAll s = .ok v) {c : UInt8} (hc : s[0]? = some c) : numB s = (decide (v ≤ 2147483647) && (Lib.itoa v == s) && isDig c) := by
 rw [Bool.eq_iff_iff]
 simp only [Bool.and_eq_true, decide_eq_true_eq, beq_iff_eq]
 constructor
 ·intro hb
  obtain ⟨n, h1, rfl⟩ := numB_iff.1 hb
  have e := atoiAll_nat h1
  rw [h] at e
  cases e
  refine ⟨⟨by omega, itoa_nat n⟩, ?_⟩
  have := dec_dig n c (List.mem_of_getElem? hc)
  unfold isDig
  rw [decide_eq_true this.1, decide_eq_true this.2]; rfl
 ·rintro ⟨⟨h1, h2⟩, h3⟩
  rcases itoa_cases v with ⟨hv, e⟩ | ⟨hv, e⟩
  ·rw [← h2, e] at hc
   simp only [List.getElem?_cons_zero, Option.some.injEq] at hc
   subst hc
   exact absurd h3 (by decide)
  ·rw [← h2, e]
   exact numB_iff.2 ⟨v.natAbs, by omega, rfl⟩
theorem atoi_ne {s : List UInt8} {v : Int} (h : Lib.atoiAll s = .ok v) : s ≠ [] := by
 rintro rfl
 revert h
 unfold Lib.atoiAll
 simp
def numBad (s : List UInt8) : Bool := decide (s.length < 1) || decide (10 < s.length) || (decide (1 < s.length) && decide (s.head? = some 48))
theorem dig_u8 {c : UInt8} (h1 : 48 ≤ c.toNat) (h2 : c.toNat ≤ 57) : UInt8.ofNat (48 + (c.toNat - 48)) = c := by
 rw [← UInt8.toNat_inj, UInt8.toNat_ofNat']
 omega
theorem digV_pos : ∀ {s : List UInt8} {c : UInt8}, s.head? = some c → 49 ≤ c.toNat → 1 ≤ digV s
 | [], c, h, _ => by cases h
 | a :: r, c, h, hc => by
  cases h
  have hm : ∀ (l : List UInt8) (n : Nat), n ≤ l.foldl (fun n c => 10 * n + (c.toNat - 48)) n := by
   intro l
   induction l with
   | nil => intro a; exact Nat.le_refl _
   | cons x l ih => intro n; exact Nat.le_trans (by omega) (ih (10 * n + (x.toNat - 48)))
  have := hm r (10 * 0 + (a.toNat - 48))
  exact Nat.le_trans (by omega) this
theorem dec_canon : ∀ (k : Nat) {s : List UInt8}, s.length = k → s ≠ [] → (∀ c ∈ s, 48 ≤ c.toNat ∧ c.toNat ≤ 57) → (s.length = 1 ∨ s.head? ≠ some 48) → Lib.decDigits (digV s) = s
 | 0, s, hk, hne, _, _ => absurd (List.length_eq_zero_iff.1 hk) hne
 | k + 1, s, hk, hne, hd, hz => by
  obtain ⟨l, c, rfl⟩ : ∃ l c, s = l ++ [c] := ⟨s.dropLast, s.getLast hne, (List.dropLast_concat_getLast hne).symm⟩
  have hc := hd c (by simp)
  have hu := dig_u8 hc.1 hc.2
  rw [digV_snoc]
  cases l with
  | nil =>
   have hu2 : digV [] = 0 := rfl
   rw [hu2, Nat.mul_zero, Nat.zero_add, Lib.decDigits, dif_pos (by omega), hu]
   rfl
  | cons a r =>
   have hz2 : (a :: r ++ [c]).head? ≠ some 48 := by
    rcases hz with h | h
    ·simp at h
    ·exact h
   have ha := hd a (by simp)
   have ha2 : 49 ≤ a.toNat := by
    have : a.toNat ≠ 48 := fun e => hz2 (by
     have : a = 48 := by rw [← UInt8.toNat_inj]; exact e
     rw [this]; rfl)
    omega
   have hp : 1 ≤ digV (a :: r) := digV_pos rfl ha2
   have e1 : (10 * digV (a :: r) + (c.toNat - 48)) / 10 = digV (a :: r) := by omega
   have e2 : (10 * digV (a :: r) + (c.toNat - 48)) % 10 = c.toNat - 48 := by omega
   have hl : (a :: r).length = k := by simp at hk ⊢; omega
   rw [Lib.decDigits, dif_neg (by omega), e1, e2, hu, dec_canon k hl (by simp) (fun x hx => hd x (List.mem_append_left _ hx)) (.inr (by
    intro h; exact hz2 (by simpa using h)))]
theorem dec_len10 {n : Nat} (h : n ≤ 2147483647) : (Lib.decDigits n).length ≤ 10 := by
 rw [Lib.decDigits_length]
 exact nDigits_le 10 n (by decide) (by omega)
theorem dec_zero {n : Nat} (h : (Lib.decDigits n).head? = some 48) (hl : 1 < (Lib.decDigits n).length) : False := by
 have hlen := Lib.decDigits_length n
 -- the first digit of a numeral of two digits or more is not 0
 have key : ∀ (k n : Nat), n < k → 10 ≤ n → (Lib.decDigits n).head? ≠ some 48 := by
  intro k
  induction k with
  | zero => intro n h; omega
  | succ k ih =>
   intro n hn h10 he
   rw [Lib.decDigits, dif_neg (by omega)] at he
   by_cases h2 : n / 10 < 10
   ·rw [Lib.decDigits, dif_pos h2] at he
    simp only [List.cons_append, List.nil_append, List.head?_cons, Option.some.injEq] at he
    have := congrArg UInt8.toNat he
    rw [u8_dig h2] at this
    have : (48 : UInt8).toNat = 48 := rfl
    omega
   ·refine ih (n / 10) (by omega) (by omega) ?_
    cases hd : Lib.decDigits (n / 10) with
    | nil => exact absurd hd (dec_ne _)
    | cons a r => rw [hd] at he; simpa using he
 by_cases h10 : n < 10
 ·rw [Lib.decDigits, dif_pos h10] at hl
  simp at hl
 ·exact key (n + 1) n (by omega) (by omega) h
theorem numB_bad {s : List UInt8} (h : numBad s = true) : numB s = false := by
 cases hb : numB s with
 | false => rfl
 | true =>
  obtain ⟨n, h1, rfl⟩ := numB_iff.1 hb
  have h2 := dec_len10 h1
  have h3 : 1 ≤ (Lib.decDigits n).length := List.length_pos_iff.2 (dec_ne n)
  unfold numBad at h
  simp only [Bool.or_eq_true, Bool.and_eq_true, decide_eq_true_eq] at h
  rcases h with (h | h) | ⟨h, h4⟩
  ·omega
  ·omega
  ·exact (dec_zero h4 h).elim
theorem numB_nodig {s : List UInt8} {c : UInt8} (hc : c ∈ s) (h : isDig c = false) : numB s = false := by
 cases hb : numB s with
 | false => rfl
 | true =>
  obtain ⟨n, h1, rfl⟩ := numB_iff.1 hb
  have := dec_dig n c hc
  unfold isDig at h
  rw [decide_eq_true this.1, decide_eq_true this.2] at h
  cases h
theorem numB_good {s : List UInt8} (h : numBad s = false) (hd : s.all isDig = true) : numB s = decide (digV s ≤ 2147483647) := by
 unfold numBad at h
 simp only [Bool.or_eq_false_iff, Bool.and_eq_false_iff, decide_eq_false_iff_not] at h
 have hne : s ≠ [] := fun e => h.1.1 (by rw [e]; simp)
 have hc : ∀ c ∈ s, 48 ≤ c.toNat ∧ c.toNat ≤ 57 := fun c hc => by
  have := List.all_eq_true.1 hd c hc
  unfold isDig at this
  simpa using this
 have hz : s.length = 1 ∨ s.head? ≠ some 48 := by
  rcases h.2 with h2 | h2
  ·left; omega
  ·exact .inr h2
 unfold numB
 rw [itoa_nat, dec_canon s.length rfl hne hc hz]
 simp
theorem digV_lt : ∀ (k : Nat) {s : List UInt8}, s.length = k → s.all isDig = true → digV s < 10 ^ k
 | 0, s, hk, _ => by rw [List.length_eq_zero_iff.1 hk]; decide
 | k + 1, s, hk, hd => by
  have hne : s ≠ [] := fun e => by rw [e] at hk; cases hk
  obtain ⟨l, c, rfl⟩ : ∃ l c, s = l ++ [c] := ⟨s.dropLast, s.getLast hne, (List.dropLast_concat_getLast hne).symm⟩
  rw [List.all_append, Bool.and_eq_true] at hd
  have ih := digV_lt k (s := l) (by simpa using hk) hd.1
  have hc : isDig c = true := by simpa using hd.2
  unfold isDig at hc
  simp only [Bool.and_eq_true, decide_eq_true_eq] at hc
  rw [digV_snoc, Nat.pow_succ]
  omega
theorem digV_take {s : List UInt8} {k : Nat} {c : UInt8} (h : s[k]? = some c) : digV (s.take (k + 1)) = 10 * digV (s.take k) + (c.toNat - 48) := by
 rw [List.take_add_one, h]
 exact digV_snoc _ _
end Fm
namespace Go.Proofs
open Go.Shelf
def Tryz.laysM171_ren : Go.Shelf.Ren := ⟨fun | 171 => 66 | 243 => 101 | 246 => 138 | 283 => 168 | 284 => 169 | 285 => 170 | 286 => 171 | 129 => 188 | 317 => 187 | 318 => 189 | 319 => 190 | 320 => 191 | 337 => 206 | 338 => 207 | n => n, fun | 3 => 3 | 9 => 9 | 2 => 2 | 4 => 4 | 171 => 260 | 0 => 0 | 53 => 253 | 37 => 209 | 5 => 5 | 173 => 263 | 212 => 284 | 51 => 51 | 20 => 20 | 213 => 285 | 46 => 256 | 232 => 315 | 233 => 316 | n => n, fun | 17 => 3 | 18 => 4 | 19 => 5 | n => n⟩
theorem Tryz.laysM171 : Go.Proofs.LaysM.n171 Tryz.prog Tryz.laysM171_ren := {
 mixed := by kernel_rfl
 f129 := Tryz.func188.trans (congrArg some (by kernel_rfl))
 f171 := Tryz.func66.trans (congrArg some (by kernel_rfl))
 f243 := Tryz.func101.trans (congrArg some (by kernel_rfl))
 f246 := Tryz.func138.trans (congrArg some (by kernel_rfl))
 f283 := Tryz.func168.trans (congrArg some (by kernel_rfl))
 f284 := Tryz.func169.trans (congrArg some (by kernel_rfl))
 f285 := Tryz.func170.trans (congrArg some (by kernel_rfl))
 f286 := Tryz.func171.trans (congrArg some (by kernel_rfl))
 f317 := Tryz.func187.trans (congrArg some (by kernel_rfl))
 f318 := Tryz.func189.trans (congrArg some (by kernel_rfl))
 f319 := Tryz.func190.trans (congrArg some (by kernel_rfl))
 f320 := Tryz.func191.trans (congrArg some (by kernel_rfl))
 f337 := Tryz.func206.trans (congrArg some (by kernel_rfl))
 f338 := Tryz.func207.trans (congrArg some (by kernel_rfl))
 t0 := Tryz.underlying0
 a0 := Tryz.isAgg0
 z0 := Tryz.sizeOf0
 v0 := Tryz.zeroValue0
 t2 := Tryz.underlying2
 a2 := Tryz.isAgg2
 z2 := Tryz.sizeOf2
 v2 := Tryz.zeroValue2
 t3 := Tryz.underlying3
 a3 := Tryz.isAgg3
 z3 := Tryz.sizeOf3
 v3 := Tryz.zeroValue3
 t4 := Tryz.underlying4
 a4 := Tryz.isAgg4
 z4 := Tryz.sizeOf4
 v4 := Tryz.zeroValue4
 t5 := Tryz.underlying5
 a5 := Tryz.isAgg5
 z5 := Tryz.sizeOf5
 v5 := Tryz.zeroValue5
 t9 := Tryz.underlying9
 a9 := Tryz.isAgg9
 z9 := Tryz.sizeOf9
 v9 := Tryz.zeroValue9
 t20 := Tryz.underlying20
 a20 := Tryz.isAgg20
 z20 := Tryz.sizeOf20
 v20 := Tryz.zeroValue20
 t37 := Tryz.underlying209
 a37 := Tryz.isAgg209
 z37 := Tryz.sizeOf209
 v37 := Tryz.zeroValue209
 t46 := Tryz.underlying256
 a46 := Tryz.isAgg256
 z46 := Tryz.sizeOf256
 v46 := Tryz.zeroValue256
 t51 := Tryz.underlying51
 a51 := Tryz.isAgg51
 z51 := Tryz.sizeOf51
 v51 := Tryz.zeroValue51
 t53 := Tryz.underlying253
 a53 := Tryz.isAgg253
 z53 := Tryz.sizeOf253
 v53 := Tryz.zeroValue253
 t171 := Tryz.underlying260
 a171 := Tryz.isAgg260
 z171 := Tryz.sizeOf260
 v171 := Tryz.zeroValue260
 t173 := Tryz.underlying263
 a173 := Tryz.isAgg263
 z173 := Tryz.sizeOf263
 v173 := Tryz.zeroValue263
 t212 := Tryz.underlying284
 a212 := Tryz.isAgg284
 z212 := Tryz.sizeOf284
 v212 := Tryz.zeroValue284
 t213 := Tryz.underlying285
 a213 := Tryz.isAgg285
 z213 := Tryz.sizeOf285
 t232 := Tryz.underlying315
 a232 := Tryz.isAgg315
 z232 := Tryz.sizeOf315
 v232 := Tryz.zeroValue315
 t233 := Tryz.underlying316
 a233 := Tryz.isAgg316
 z233 := Tryz.sizeOf316
 v233 := Tryz.zeroValue316
 g17 := by kernel_rfl
 g18 := by kernel_rfl
 g19 := by kernel_rfl
 i0 := by kernel_rfl
 i2 := by kernel_rfl
 i3 := by kernel_rfl
 i4 := by kernel_rfl
 i5 := by kernel_rfl
 i9 := by kernel_rfl
 i20 := by kernel_rfl
 i37 := by kernel_rfl
 i46 := by kernel_rfl
 i51 := by kernel_rfl
 i53 := by kernel_rfl
 i171 := by kernel_rfl
 i173 := by kernel_rfl
 i212 := by kernel_rfl
 i232 := by kernel_rfl
 i233 := by kernel_rfl
 m17 := by kernel_rfl
 m18 := by kernel_rfl
 m19 := by kernel_rfl }
theorem Tryz.strconv_Itoa (n : Int) (h0 : -9223372036854775808 ≤ n) (h1 : n ≤ 9223372036854775807) (w : World) (htab : Lib.TabIs Tryz.prog w "internal/strconv.uint64pow10" .u64 Lib.pow10Tab) :
  Calls Tryz.prog 66 #[.int .i64 n] w fun e w' => e = .returned (.string ⟨(Lib.itoa n).toArray⟩) ∧ ∃ k os, w' = Go.Sort.grow (w.drewN k) os := Any.strconv_Itoa Tryz.laysM171 n h0 h1 w htab
def Tryz.laysC172_ren : Go.Shelf.Ren := ⟨fun | 172 => 65 | 244 => 99 | 245 => 100 | 247 => 133 | 279 => 134 | 280 => 135 | 281 => 136 | 282 => 137 | 287 => 165 | 316 => 166 | 171 => 66 | 205 => 167 | 321 => 185 | 322 => 186 | 243 => 101 | 246 => 138 | 283 => 168 | 284 => 169 | 285 => 170 | 286 => 171 | 129 => 188 | 317 => 187 | 318 => 189 | 319 => 190 | 320 => 191 | 337 => 206 | 338 => 207 | n => n, fun | 9 => 9 | 3 => 3 | 75 => 131 | 76 => 132 | 4 => 4 | 5 => 5 | 167 => 208 | 37 => 209 | 0 => 0 | 85 => 210 | 2 => 2 | 168 => 212 | 53 => 253 | 175 => 254 | 46 => 256 | 210 => 258 | 127 => 279 | 145 => 282 | 143 => 280 | 21 => 21 | 171 => 260 | 173 => 263 | 212 => 284 | 51 => 51 | 20 => 20 | 213 => 285 | 232 => 315 | 233 => 316 | 80 => 314 | n => n, fun | 15 => 1 | 16 => 2 | 17 => 3 | 18 => 4 | 19 => 5 | n => n⟩
theorem Tryz.laysC172 : Go.Proofs.LaysC.n172 Tryz.prog Tryz.laysC172_ren := {
 mixed := by kernel_rfl
 f129 := Tryz.func188.trans (congrArg some (by kernel_rfl))
 f171 := Tryz.func66.trans (congrArg some (by kernel_rfl))
 f172 := Tryz.func65.trans (congrArg some (by kernel_rfl))
 f205 := Tryz.func167.trans (congrArg some (by kernel_rfl))
 f243 := Tryz.func101.trans (congrArg some (by kernel_rfl))
 f244 := Tryz.func99.trans (congrArg some (by kernel_rfl))
 f245 := Tryz.func100.trans (congrArg some (by kernel_rfl))
 f246 := Tryz.func138.trans (congrArg some (by kernel_rfl))
 f247 := Tryz.func133.trans (congrArg some (by kernel_rfl))
 f279 := Tryz.func134.trans (congrArg some (by kernel_rfl))
 f280 := Tryz.func135.trans (congrArg some (by kernel_rfl))
 f281 := Tryz.func136.trans (congrArg some (by kernel_rfl))
 f282 := Tryz.func137.trans (congrArg some (by kernel_rfl))
 f283 := Tryz.func168.trans (congrArg some (by kernel_rfl))
 f284 := Tryz.func169.trans (congrArg some (by kernel_rfl))
 f285 := Tryz.func170.trans (congrArg some (by kernel_rfl))
 f286 := Tryz.func171.trans (congrArg some (by kernel_rfl))
 f287 := Tryz.func165.trans (congrArg some (by kernel_rfl))
 f316 := Tryz.func166.trans (congrArg some (by kernel_rfl))
 f317 := Tryz.func187.trans (congrArg some (by kernel_rfl))
 f318 := Tryz.func189.trans (congrArg some (by kernel_rfl))
 f319 := Tryz.func190.trans (congrArg some (by kernel_rfl))
 f320 := Tryz.func191.trans (congrArg some (by kernel_rfl))
 f321 := Tryz.func185.trans (congrArg some (by kernel_rfl))
 f322 := Tryz.func186.trans (congrArg some (by kernel_rfl))
 f337 := Tryz.func206.trans (congrArg some (by kernel_rfl))
 f338 := Tryz.func207.trans (congrArg some (by kernel_rfl))
 t0 := Tryz.underlying0
 a0 := Tryz.isAgg0
 z0 := Tryz.sizeOf0
 v0 := Tryz.zeroValue0
 t2 := Tryz.underlying2
 a2 := Tryz.isAgg2
 z2 := Tryz.sizeOf2
 v2 := Tryz.zeroValue2
 t3 := Tryz.underlying3
 a3 := Tryz.isAgg3
 z3 := Tryz.sizeOf3
 v3 := Tryz.zeroValue3
 t4 := Tryz.underlying4
 a4 := Tryz.isAgg4
 z4 := Tryz.sizeOf4
 v4 := Tryz.zeroValue4
 t5 := Tryz.underlying5
 a5 := Tryz.isAgg5
 z5 := Tryz.sizeOf5
 v5 := Tryz.zeroValue5
 t9 := Tryz.underlying9
 a9 := Tryz.isAgg9
 z9 := Tryz.sizeOf9
 v9 := Tryz.zeroValue9
 t20 := Tryz.underlying20
 a20 := Tryz.isAgg20
 z20 := Tryz.sizeOf20
 v20 := Tryz.zeroValue20
 t21 := Tryz.underlying21
 a21 := Tryz.isAgg21
 z21 := Tryz.sizeOf21
 v21 := Tryz.zeroValue21
 t37 := Tryz.underlying209
 a37 := Tryz.isAgg209
 z37 := Tryz.sizeOf209
 v37 := Tryz.zeroValue209
 t46 := Tryz.underlying256
 a46 := Tryz.isAgg256
 z46 := Tryz.sizeOf256
 v46 := Tryz.zeroValue256
 t51 := Tryz.underlying51
 a51 := Tryz.isAgg51
 z51 := Tryz.sizeOf51
 v51 := Tryz.zeroValue51
 t53 := Tryz.underlying253
 a53 := Tryz.isAgg253
 z53 := Tryz.sizeOf253
 v53 := Tryz.zeroValue253
 t75 := Tryz.underlying131
 a75 := Tryz.isAgg131
 z75 := Tryz.sizeOf131
 v75 := Tryz.zeroValue131
 t76 := Tryz.underlying132
 a76 := Tryz.isAgg132
 z76 := Tryz.sizeOf132
 v76 := Tryz.zeroValue132
 t85 := Tryz.underlying210
 a85 := Tryz.isAgg210
 z85 := Tryz.sizeOf210
 v85 := Tryz.zeroValue210
 t127 := Tryz.underlying279
 a127 := Tryz.isAgg279
 z127 := Tryz.sizeOf279
 v127 := Tryz.zeroValue279
 t143 := Tryz.underlying280
 a143 := Tryz.isAgg280
 z143 := Tryz.sizeOf280
 v143 := Tryz.zeroValue280
 t145 := Tryz.underlying282
 a145 := Tryz.isAgg282
 z145 := Tryz.sizeOf282
 v145 := Tryz.zeroValue282
 t167 := Tryz.underlying208
 a167 := Tryz.isAgg208
 z167 := Tryz.sizeOf208
 v167 := Tryz.zeroValue208
 t168 := Tryz.underlying212
 a168 := Tryz.isAgg212
 z168 := Tryz.sizeOf212
 v168 := Tryz.zeroValue212
 t171 := Tryz.underlying260
 a171 := Tryz.isAgg260
 z171 := Tryz.sizeOf260
 v171 := Tryz.zeroValue260
 t173 := Tryz.underlying263
 a173 := Tryz.isAgg263
 z173 := Tryz.sizeOf263
 v173 := Tryz.zeroValue263
 t175 := Tryz.underlying254
 a175 := Tryz.isAgg254
 z175 := Tryz.sizeOf254
 v175 := Tryz.zeroValue254
 t210 := Tryz.underlying258
 a210 := Tryz.isAgg258
 z210 := Tryz.sizeOf258
 v210 := Tryz.zeroValue258
 t212 := Tryz.underlying284
 a212 := Tryz.isAgg284
 z212 := Tryz.sizeOf284
 v212 := Tryz.zeroValue284
 t213 := Tryz.underlying285
 a213 := Tryz.isAgg285
 z213 := Tryz.sizeOf285
 t232 := Tryz.underlying315
 a232 := Tryz.isAgg315
 z232 := Tryz.sizeOf315
 v232 := Tryz.zeroValue315
 t233 := Tryz.underlying316
 a233 := Tryz.isAgg316
 z233 := Tryz.sizeOf316
 v233 := Tryz.zeroValue316
 g15 := by kernel_rfl
 g16 := by kernel_rfl
 g17 := by kernel_rfl
 g18 := by kernel_rfl
 g19 := by kernel_rfl
 t80 := Tryz.underlying314
 a80 := Tryz.isAgg314
 z80 := Tryz.sizeOf314
 v80 := Tryz.zeroValue314
 i0 := by kernel_rfl
 i2 := by kernel_rfl
 i3 := by kernel_rfl
 i4 := by kernel_rfl
 i5 := by kernel_rfl
 i9 := by kernel_rfl
 i20 := by kernel_rfl
 i21 := by kernel_rfl
 i37 := by kernel_rfl
 i46 := by kernel_rfl
 i51 := by kernel_rfl
 i53 := by kernel_rfl
 i75 := by kernel_rfl
 i76 := by kernel_rfl
 i80 := by kernel_rfl
 i85 := by kernel_rfl
 i127 := by kernel_rfl
 i143 := by kernel_rfl
 i145 := by kernel_rfl
 i167 := by kernel_rfl
 i168 := by kernel_rfl
 i171 := by kernel_rfl
 i173 := by kernel_rfl
 i175 := by kernel_rfl
 i210 := by kernel_rfl
 i212 := by kernel_rfl
 i232 := by kernel_rfl
 i233 := by kernel_rfl
 m15 := by kernel_rfl
 m16 := by kernel_rfl
 m17 := by kernel_rfl
 m18 := by kernel_rfl
 m19 := by kernel_rfl
 c0 := by kernel_rfl
 c2 := by kernel_rfl
 c3 := by kernel_rfl
 c4 := by kernel_rfl
 c5 := by kernel_rfl
 c9 := by kernel_rfl
 c20 := by kernel_rfl
 c21 := by kernel_rfl
 c37 := by kernel_rfl
 c46 := by kernel_rfl
 c51 := by kernel_rfl
 c53 := by kernel_rfl
 c75 := by kernel_rfl
 c76 := by kernel_rfl
 c80 := by kernel_rfl
 c85 := by kernel_rfl
 c127 := by kernel_rfl
 c143 := by kernel_rfl
 c145 := by kernel_rfl
 c167 := by kernel_rfl
 c168 := by kernel_rfl
 c171 := by kernel_rfl
 c173 := by kernel_rfl
 c175 := by kernel_rfl
 c210 := by kernel_rfl
 c212 := by kernel_rfl
 c213 := by kernel_rfl
 c232 := by kernel_rfl
 c233 := by kernel_rfl }
open Go.RowKit in
theorem Tryz.strconv_Atoi_ok (s : ByteArray) (hmax : s.size ≤ 9223372036854775806) (v : Int) (h : Lib.atoiAll s.data.toList = .ok v) (w : World) :
  Calls Tryz.prog 65 #[.string s] w fun e w' => e = .returned (.tuple #[.int .i64 v, .nilIface]) ∧ (w' = w ∨ ∃ t, w' = Lib.bytesWorld w 5 t) := Any.strconv_Atoi_ok Tryz.laysC172 s hmax v h w
open Go.RowKit in
theorem Tryz.strconv_Atoi_syntax (s : ByteArray) (hlim : s.size ≤ 281474976710656) (h : Lib.atoiAll s.data.toList = Lib.NumEnd.syntax) (ev : Value) (w : World) (hv : w.cell? ⟨1, 0, none⟩ = some ev) (hev : ev = .nilIface ∨ ∃ te pe, ev = .iface te pe) :
  Calls Tryz.prog 65 #[.string s] w fun e w' => ∃ N, e = .returned (.tuple #[.int .i64 (0), .iface 212 (.pointer (some ⟨N, 0, none⟩))]) ∧ w.heap.size ≤ N ∧ w'.heap[N]? = some (.cells #[.string ⟨#[65, 116, 111, 105]⟩, .string s, ev] 258 (0, 0)) ∧ Below w.heap.size w w' := Any.strconv_Atoi_syntax Tryz.laysC172 s hlim h ev w hv hev
open Go.RowKit in
theorem Tryz.strconv_Atoi_range (s : ByteArray) (hlim : s.size ≤ 281474976710656) (h : Lib.atoiAll s.data.toList = .range) (ev : Value) (w : World) (hv : w.cell? ⟨2, 0, none⟩ = some ev) (hev : ev = .nilIface ∨ ∃ te pe, ev = .iface te pe) :
  Calls Tryz.prog 65 #[.string s] w fun e w' => ∃ N, e = .returned (.tuple #[.int .i64 (Lib.atoiSat s.data.toList), .iface 212 (.pointer (some ⟨N, 0, none⟩))]) ∧ w.heap.size ≤ N ∧ w'.heap[N]? = some (.cells #[.string ⟨#[65, 116, 111, 105]⟩, .string s, ev] 258 (0, 0)) ∧ Below w.heap.size w w' := Any.strconv_Atoi_range Tryz.laysC172 s hlim h ev w hv hev
end Go.Proofs
namespace Go.Proofs.YtnldjikcnahioaaGreatDoor
open Go Go.Eng Go.Proofs Go.RowKit Fm
def Tab (w : World) : Prop := Lib.TabIs Tryz.prog w "internal/strconv.uint64pow10" .u64 Lib.pow10Tab
theorem Tab.next {w0 w : World} {C : List Chunk} (h : Tab w0) (hS : St w0 [] C w) : Tab w := by
 unfold Tab Lib.TabIs World.var? at h ⊢
 cases hg : Tryz.prog.globalNamed "internal/strconv.uint64pow10" with
 | none => rw [hg] at h; cases h
 | some g =>
  rw [hg] at h
  simp only [Option.bind_some] at h ⊢
  have hlt : g < w0.heap.size := by
   rcases Nat.lt_or_ge g w0.heap.size with hl | hl
   ·exact hl
   ·rw [Array.getElem?_eq_none hl] at h; cases h
  rw [hS.old g hlt (by simp)]
  exact h
theorem Itoa_c (n : Int) (h0 : -9223372036854775808 ≤ n) (h1 : n < 9223372036854775808) (w : World) (ht : Tab w) : Pure Tryz.prog 66 [.int .i64 n] w (.string (str (Lib.itoa n))) := by
 refine (Tryz.strconv_Itoa n h0 (by omega) w ht).mono ?_
 rintro e w' ⟨rfl, k, os, rfl⟩
 refine ⟨rfl, rfl, rfl, rfl, ?_, ?_, by simp, by simp, .nil⟩
 ·show w.heap.size ≤ (w.heap ++ os).size
  simp
 ·intro j hj _
  show (w.heap ++ os)[j]? = w.heap[j]?
  rw [Array.getElem?_append_left hj]
structure LibW (w : World) : Prop where
 tab : Tab w
 es : ∃ ev, w.cell? ⟨1, 0, none⟩ = some ev ∧ (ev = .nilIface ∨ ∃ te pe, ev = .iface te pe)
 er : ∃ ev, w.cell? ⟨2, 0, none⟩ = some ev ∧ (ev = .nilIface ∨ ∃ te pe, ev = .iface te pe)
theorem LibW.next {w0 w : World} {C : List Chunk} (h : LibW w0) (hS : St w0 [] C w) : LibW w := by
 obtain ⟨e1, h1, h1'⟩ := h.es
 obtain ⟨e2, h2, h2'⟩ := h.er
 exact ⟨h.tab.next hS, ⟨e1, hS.oldc h1 (by simp), h1'⟩, ⟨e2, hS.oldc h2 (by simp), h2'⟩⟩
theorem St.of_below {w w' : World} (h : Below w.heap.size w w') : St w [] [] w' :=
 ⟨h.os, h.tape, h.output, h.size, fun k hk _ => h.block k hk, by simp, by simp, .nil⟩
def AtoiIs (s : List UInt8) (v : Int) (er : Value) : Prop := (er = .nilIface ∧ Lib.atoiAll s = .ok v) ∨ ((∃ t p, er = .iface t p) ∧ ∀ x, Lib.atoiAll s ≠ .ok x)
theorem Atoi_c (s : List UInt8) (hs : s.length ≤ 1000000000) (w : World) (hl : LibW w) :
  Calls Tryz.prog 65 [.string (str s)].toArray w fun e w' => ∃ x : { x : Int × Value // AtoiIs s x.1 x.2 }, e = .returned (.tuple #[.int .i64 x.1.1, x.1.2]) ∧ St w [] [] w' := by
 have e1 : (str s).data.toList = s := by simp [str]
 have hsz : (str s).size = s.length := str_size s
 rcases h : Lib.atoiAll s with v | _ | _
 ·refine (Tryz.strconv_Atoi_ok (str s) (by rw [hsz]; omega) v (by rw [e1]; exact h) w).mono ?_
  rintro e w' ⟨rfl, hw⟩
  refine ⟨⟨(v, .nilIface), .inl ⟨rfl, h⟩⟩, rfl, ?_⟩
  rcases hw with rfl | ⟨t, rfl⟩
  ·exact St.init _
  ·exact St.of_below (Lib.bytesWorld_below _ _ _)
 ·obtain ⟨ev, h1, h2⟩ := hl.es
  refine (Tryz.strconv_Atoi_syntax (str s) (by rw [hsz]; omega) (by rw [e1]; exact h) ev w h1 h2).mono ?_
  rintro e w' ⟨N, rfl, _, _, hb⟩
  exact ⟨⟨(0, _), .inr ⟨⟨_, _, rfl⟩, fun x hx => by rw [h] at hx; cases hx⟩⟩, rfl, St.of_below hb⟩
 ·obtain ⟨ev, h1, h2⟩ := hl.er
  refine (Tryz.strconv_Atoi_range (str s) (by rw [hsz]; omega) (by rw [e1]; exact h) ev w h1 h2).mono ?_
  rintro e w' ⟨N, rfl, _, _, hb⟩
  exact ⟨⟨(_, _), .inr ⟨⟨_, _, rfl⟩, fun x hx => by rw [h] at hx; cases hx⟩⟩, rfl, St.of_below hb⟩
theorem atoi_bd {s : List UInt8} {v : Int} (h : Lib.atoiAll s = .ok v) : -9223372036854775808 ≤ v ∧ v < 9223372036854775808 := by
 unfold Lib.atoiAll at h
 simp only [] at h
 repeat' (split at h)
 all_goals first | (cases h; done) | (simp only [Lib.AtoiEnd.ok.injEq] at h; omega) | (cases h; omega)
theorem isNumber_c (s : List UInt8) (hs : s.length ≤ 1000000000) (w : World) (hl : LibW w) :
  Pure Tryz.prog 35 [.string (str s)] w (.bool (numB s)) := by
 refine enter Tryz.func35 rfl Tryz.ntmps35 rfl (St.init _) ?_
 refine jN 11 ?_
 refine jC (β := { x : Int × Value // AtoiIs s x.1 x.2 }) (res := fun x => .tuple #[.int .i64 x.1.1, x.1.2]) (cs := fun _ => []) F.fun65 rfl (fun w hS _ => Atoi_c s hs w (hl.next hS)) (fun x8 => ?_)
 obtain ⟨⟨v, er⟩, hx8⟩ := x8
 dsimp only at hx8 ⊢
 refine jN 13 ?_
 rcases hx8 with ⟨rfl, hok⟩ | ⟨⟨t, q, rfl⟩, hno⟩
 ·have hbd := atoi_bd hok
  have hne := atoi_ne hok
  obtain ⟨c0, hc0⟩ : ∃ c, s[0]? = some c := by cases s with | nil => exact absurd rfl hne | cons a r => exact ⟨a, rfl⟩
  have hnb := numB_ok hok hc0
  refine jN 4 ?_
  refine WL.bin rfl rfl rfl (v := .bool true) (fun w => by kernel_rfl) ?_
  refine jN 2 ?_
  refine WA.splitB (i := 12) rfl (fun g12 => ?_) (fun g12 => ?_)
  ·refine jN 10 ?_
   refine WA.splitB (i := 16) rfl (fun g16 => ?_) (fun g16 => ?_)
   ·refine jN 5 ?_
    refine WL.callV F.fun66 rfl rfl (fun w hS => Itoa_c v hbd.1 hbd.2 w (hl.next hS).tab) ?_
    refine jN 10 ?_
    refine WA.splitB (i := 22) rfl (fun g22 => ?_) (fun g22 => ?_)
    ·refine jN 5 ?_
     refine WL.indexS (i := 0) F.und9 rfl rfl rfl hc0 ?_
     refine jN 2 ?_
     refine WL.callV F.fun64 rfl rfl (fun w hS => isDigit_c c0 w) ?_
     refine jN 7 ?_
     exact WQ.ret (rs := [.tmp 2]) rfl (.tmp rfl .nil) (fun w hS => ⟨by rw [hnb]; simp [tup, *], hS⟩)
    ·refine jN 13 ?_
     exact WQ.ret (rs := [.tmp 2]) rfl (.tmp rfl .nil) (fun w hS => ⟨by rw [hnb]; simp [tup, *], hS⟩)
   ·refine jN 25 ?_
    exact WQ.ret (rs := [.tmp 2]) rfl (.tmp rfl .nil) (fun w hS => ⟨by rw [hnb]; simp [tup, *], hS⟩)
  ·cases g12
 ·have hnb := numB_no hno
  refine jN 4 ?_
  refine WL.bin rfl rfl rfl (v := .bool false) (fun w => by kernel_rfl) ?_
  refine jN 2 ?_
  refine WA.splitB (i := 12) rfl (fun g12 => ?_) (fun g12 => ?_)
  ·cases g12
  ·refine jN 33 ?_
   exact WQ.ret (rs := [.tmp 2]) rfl (.tmp rfl .nil) (fun w hS => ⟨by rw [hnb]; simp [tup, *], hS⟩)
theorem numBad_a {l : List UInt8} (h : decide ((l.length : Int) < 1) = true) : numBad l = true := by
 have h1 : l.length < 1 := by simp at h; omega
 unfold numBad
 rw [decide_eq_true h1]; rfl
theorem numBad_b {l : List UInt8} (h : decide ((10 : Int) < l.length) = true) : numBad l = true := by
 have h1 : 10 < l.length := by simp at h; omega
 unfold numBad
 rw [decide_eq_true h1, Bool.or_true]; rfl
theorem numBad_c {l : List UInt8} {c : UInt8} (hc : l[0]? = some c) (h1 : decide ((l.length : Int) < 1) = false) (h2 : decide ((10 : Int) < l.length) = false) (h3 : decide ((1 : Int) < l.length) = true) : numBad l = ((c.toNat : Int) == 48) := by
 have g1 : ¬ l.length < 1 := by simp at h1; omega
 have g2 : ¬ 10 < l.length := by simp at h2; omega
 have g3 : 1 < l.length := by simp at h3; omega
 have g4 : l.head? = some c := by cases l with | nil => cases hc | cons a r => simpa using hc
 unfold numBad
 rw [decide_eq_false g1, decide_eq_false g2, decide_eq_true g3, g4, Bool.false_or, Bool.false_or, Bool.true_and]
 rw [show decide (some c = some (48 : UInt8)) = decide (c = 48) from decide_eq_decide.2 (by simp)]
 exact u8_dec c (n := 48) (by decide)
theorem numBad_d {l : List UInt8} (h1 : decide ((l.length : Int) < 1) = false) (h2 : decide ((10 : Int) < l.length) = false) (h3 : decide ((1 : Int) < l.length) = false) : numBad l = false := by
 have g1 : ¬ l.length < 1 := by simp at h1; omega
 have g2 : ¬ 10 < l.length := by simp at h2; omega
 have g3 : ¬ 1 < l.length := by simp at h3; omega
 unfold numBad
 rw [decide_eq_false g1, decide_eq_false g2, decide_eq_false g3]; rfl
theorem convU8 {n : Nat} (hn : n < 256) (w : World) : (convert 5 3 (.int .u8 (n : Int))).run Tryz.prog w = .ok (.int .i64 (n : Int)) w := by
 have h := run_convert_int (P := Tryz.prog) w 5 3 .u8 (n : Int) (by kernel_rfl) (by kernel_rfl)
 rw [h]
 have h2 : IntKind.i64.wrap (n : Int) = (n : Int) := by
  unfold IntKind.wrap
  simp [IntKind.signed, IntKind.bits]
  omega
 rw [show Tryz.prog.intKind 3 = .i64 by kernel_rfl, h2]
theorem run_mul10 {m : Nat} (hm : m < 10000000000) (t : TypeId) (x y : Operand) (w : World) :
  (do eqGuard .mul t x y (.int .i64 10) (.int .i64 (m : Int)); binOp .mul t (.int .i64 10) (.int .i64 (m : Int)) : Sem Value).run Tryz.prog w = .ok (.int .i64 ((10 * m : Nat) : Int)) w := by
 have h2 : IntKind.i64.wrap (10 * (m : Int)) = 10 * (m : Int) := by
  unfold IntKind.wrap
  simp [IntKind.signed, IntKind.bits]
  omega
 simp [eqGuard, binOp, Op.intArith, h2]
theorem run_sub48 {n : Nat} (hn : 48 ≤ n) (t : TypeId) (x y : Operand) (w : World) (h : n < 256 := by exact UInt8.toNat_lt _) :
  (do eqGuard .sub t x y (.int .u8 (n : Int)) (.int .u8 48); binOp .sub t (.int .u8 (n : Int)) (.int .u8 48) : Sem Value).run Tryz.prog w = .ok (.int .u8 ((n - 48 : Nat) : Int)) w := by
 have h2 : IntKind.u8.wrap ((n : Int) - 48) = ((n - 48 : Nat) : Int) := by
  unfold IntKind.wrap
  simp [IntKind.signed, IntKind.bits]
  omega
 simp [eqGuard, binOp, Op.intArith, h2]
theorem run_addN {m n : Nat} (hm : m < 1000000000000) (hn : n < 1000) (t : TypeId) (x y : Operand) (w : World) :
  (do eqGuard .add t x y (.int .i64 (m : Int)) (.int .i64 (n : Int)); binOp .add t (.int .i64 (m : Int)) (.int .i64 (n : Int)) : Sem Value).run Tryz.prog w = .ok (.int .i64 ((m + n : Nat) : Int)) w := by
 have h2 : IntKind.i64.wrap ((m : Int) + (n : Int)) = (m : Int) + (n : Int) := by
  unfold IntKind.wrap
  simp [IntKind.signed, IntKind.bits]
  omega
 simp [eqGuard, binOp, Op.intArith, h2]
theorem rIsNumber_c (l : List UInt8) (w : World) : Pure Tryz.prog 43 [.string (str l)] w (.bool (numB l)) := by
 refine enter Tryz.func43 rfl Tryz.ntmps43 rfl (St.init _) ?_
 refine jN 8 ?_
 refine WC.cutF [(22, .bool (numBad l)), (0, .string (str l))] (fun Q' hQ => ?_) ?_
 ·refine jN 9 ?_
  refine WA.splitB (i := 8) rfl (fun g7 => ?_) (fun g7 => ?_)
  ·refine jN 29 ?_
   refine WQ.byCut hQ (subF_bool ?_ ⟨rfl, trivial⟩ rfl)
   first | exact numBad_a g7 | exact numBad_b g12 | exact numBad_c hc0 g7 g12 g16 | exact numBad_d g7 g12 g16
  ·have hpos : 0 < l.length := by simp at g7; omega
   obtain ⟨c0, hc0⟩ : ∃ c, l[0]? = some c := ⟨l[0], by simp [hpos]⟩
   refine jN 13 ?_
   refine WA.splitB (i := 13) rfl (fun g12 => ?_) (fun g12 => ?_)
   ·refine jN 19 ?_
    refine WQ.byCut hQ (subF_bool ?_ ⟨rfl, trivial⟩ rfl)
    first | exact numBad_a g7 | exact numBad_b g12 | exact numBad_c hc0 g7 g12 g16 | exact numBad_d g7 g12 g16
   ·refine jN 12 ?_
    refine WA.splitB (i := 17) rfl (fun g16 => ?_) (fun g16 => ?_)
    ·refine jN 5 ?_
     refine WL.indexS (i := 0) F.und9 rfl rfl rfl hc0 ?_
     refine jN 9 ?_
     refine WQ.byCut hQ (subF_bool ?_ ⟨rfl, trivial⟩ rfl)
     first | exact numBad_a g7 | exact numBad_b g12 | exact numBad_c hc0 g7 g12 g16 | exact numBad_d g7 g12 g16
    ·refine jN 12 ?_
     refine WQ.byCut hQ (subF_bool ?_ ⟨rfl, trivial⟩ rfl)
     first | exact numBad_a g7 | exact numBad_b g12 | exact numBad_c hc0 g7 g12 g16 | exact numBad_d g7 g12 g16
 refine jN 1 ?_
 refine WC.cond rfl (fun h21 => ?_) (fun h21 => ?_)
 ·refine jN 8 ?_
  exact WQ.ret (rs := [.tmp 2]) rfl (.tmp rfl .nil) (fun w hS => ⟨by rw [numB_bad h21]; rfl, hS⟩)
 ·have hnb : numBad l = false := h21
  have hl10 : l.length ≤ 10 := by unfold numBad at hnb; simp only [Bool.or_eq_false_iff, decide_eq_false_iff_not] at hnb; omega
  refine jN 16 ?_
  refine WC.loop (α := Nat) (fun k => k ≤ l.length ∧ (l.take k).all isDig = true) (fun k => [(0, .string (str l)), (3, .int .i64 (digV (l.take k) : Int)), (4, .int .i64 k)]) (fun _ => []) (fun k => l.length - k) (0) ?_ ?_ ?_ ?_
  ·exact ⟨by omega, by simp⟩
  ·exact ⟨rfl, rfl, rfl, trivial⟩
  ·rfl
  rintro k ⟨hk, hal⟩
  refine jN 13 ?_
  refine WC.cond rfl (fun h25 => ?_) (fun h25 => ?_)
  ·have hlt : k < l.length := by simpa using h25
   obtain ⟨c, hc⟩ : ∃ c, l[k]? = some c := ⟨l[k], by simp [hlt]⟩
   have hdv := digV_lt k (s := l.take k) (by simp; omega) hal
   have hdv2 : digV (l.take k) < 10000000000 := Nat.lt_of_lt_of_le hdv (Nat.le_trans (Nat.pow_le_pow_right (by decide) (show k ≤ 10 by omega)) (by decide))
   refine jN 12 ?_
   refine WL.indexS (i := k) F.und9 rfl rfl rfl hc ?_
   refine jN 1 ?_
   refine WL.callV F.fun41 rfl rfl (fun w hS => rDigit_c c w) ?_
   refine jN 4 ?_
   refine WC.cond rfl (fun h31 => ?_) (fun h31 => ?_)
   ·have hcw : isDig c = false := by simpa using h31
    refine jN 13 ?_
    exact WQ.ret (rs := [.tmp 2]) rfl (.tmp rfl .nil) (fun w hS => ⟨by rw [numB_nodig (List.mem_of_getElem? hc) hcw]; rfl, hS⟩)
   ·have hcw : isDig c = true := by simpa using h31
    have hcr : 48 ≤ c.toNat ∧ c.toNat ≤ 57 := by unfold isDig at hcw; simpa using hcw
    refine jN 6 ?_
    refine WL.bin rfl rfl rfl (v := .int .i64 ((10 * digV (l.take k) : Nat) : Int)) (fun w => run_mul10 hdv2 _ _ _ w) ?_
    refine jN 5 ?_
    refine WL.indexS (i := k) F.und9 rfl rfl rfl hc ?_
    refine jN 1 ?_
    refine WL.bin rfl rfl rfl (v := .int .u8 ((c.toNat - 48 : Nat) : Int)) (fun w => run_sub48 hcr.1 _ _ _ w) ?_
    refine jN 1 ?_
    refine WL.convert rfl rfl (v := .int .i64 ((c.toNat - 48 : Nat) : Int)) (fun w hS => convU8 (by omega) w) ?_
    refine jN 1 ?_
    refine WL.bin rfl rfl rfl (v := .int .i64 (digV (l.take (k + 1)) : Int)) (fun w => by rw [digV_take hc]; exact run_addN (by omega) (by omega) _ _ _ w) ?_
    refine jN 13 ?_
    refine WQ.back (k + 1) ?_ ?_ ?_ ?_
    ·exact ⟨by omega, by rw [take_all2 hc, hal, hcw]; rfl⟩
    ·omega
    ·exact ⟨rfl, rfl, rfl, trivial⟩
    ·rfl
  ·have hkl : k = l.length := by simp at h25; omega
   subst hkl
   rw [List.take_length] at hal
   refine jN 16 ?_
   exact WQ.ret (rs := [.tmp 2]) rfl (.tmp rfl .nil) (fun w hS => ⟨by rw [numB_good hnb hal, List.take_length]; simp [tup]; omega, hS⟩)
open Go Go.Eng Go.Proofs
open Fm
theorem runP_take {s : List UInt8} {i j : Nat} (ha : ((s.drop i).take j).all isPrt = true) (he : i + j = s.length ∨ ∃ c, s[i + j]? = some c ∧ isPrt c = false) : runP (s.drop i) = (s.drop i).take j := by
 unfold runP
 generalize hu : s.drop i = u at ha
 have he2 : u.length ≤ j ∨ ∃ c, u[j]? = some c ∧ isPrt c = false := by
  rw [← hu]
  rcases he with h | ⟨c, h1, h2⟩
  ·left; rw [List.length_drop]; omega
  ·right; exact ⟨c, by rw [List.getElem?_drop]; exact h1, h2⟩
 clear he hu
 induction u generalizing j with
 | nil => simp
 | cons a r ih =>
  cases j with
  | zero =>
   rcases he2 with h | ⟨c, h1, h2⟩
   ·simp at h
   ·simp at h1; subst h1
    rw [List.takeWhile_cons, h2]; rfl
  | succ j =>
   simp only [List.take_succ_cons, List.all_cons, Bool.and_eq_true] at ha
   rw [List.takeWhile_cons, if_pos ha.1, List.take_succ_cons, ih ha.2]
   rcases he2 with h | ⟨c, h1, h2⟩
   ·left; simp at h; omega
   ·right; exact ⟨c, by simpa using h1, h2⟩
theorem take_drop_all {s : List UInt8} {i j : Nat} {c : UInt8} (h : s[i + j]? = some c) (ha : ((s.drop i).take j).all isPrt = true) (hc : isPrt c = true) : ((s.drop i).take (j + 1)).all isPrt = true := by
 rw [take_all2 (c := c) (by rw [List.getElem?_drop]; exact h), ha, hc]; rfl
theorem run_c (s : List UInt8) (hs : s.length ≤ 1000000000) (i : Nat) (hi : i ≤ s.length) (bs : Nat) (w : World) (hb : w.heap[bs]? = some (.cells [Value.string (str s)].toArray 9 (0, 0))) :
  Pure Tryz.prog 30 [.int .i64 (i : Int), pp bs] w (.string (str (runP (s.drop i)))) := by
 refine enter Tryz.func30 rfl Tryz.ntmps30 rfl (St.init _) ?_
 refine jN 16 ?_
 refine WC.loop (α := Nat) (fun j => i + j ≤ s.length ∧ ((s.drop i).take j).all isPrt = true) (fun j => [(0, .int .i64 (i : Int)), (1, pp bs), (4, .int .i64 ((i + j : Nat) : Int))]) (fun _ => []) (fun j => s.length - (i + j)) (0) ?_ ?_ ?_ ?_
 ·exact ⟨by omega, by simp⟩
 ·exact ⟨rfl, rfl, rfl, trivial⟩
 ·rfl
 rintro j ⟨hk, hal⟩
 refine jN 2 ?_
 refine WC.cutF [(15, .bool (match s[i + j]? with | some c => isPrt c | none => false)), (0, .int .i64 (i : Int)), (1, pp bs), (4, .int .i64 ((i + j : Nat) : Int))] (fun Q' hQ => ?_) ?_
 ·refine jN 4 ?_
  refine WL.load1 F.one9 rfl rfl (v := .string (str s)) (fun w hS => hS.oldc (cell_of_heap hb rfl) (by simp)) ?_
  refine jN 6 ?_
  refine WA.splitB (i := 10) rfl (fun g10 => ?_) (fun g10 => ?_)
  ·have hlt : i + j < s.length := by simp at g10; omega
   obtain ⟨c, hc⟩ : ∃ c, s[i + j]? = some c := ⟨s[i + j], by simp [hlt]⟩
   refine jN 2 ?_
   refine WL.load1 F.one9 rfl rfl (v := .string (str s)) (fun w hS => hS.oldc (cell_of_heap hb rfl) (by simp)) ?_
   refine jN 5 ?_
   refine WL.indexS (i := i + j) F.und9 rfl rfl rfl hc ?_
   refine jN 2 ?_
   refine WL.callV F.fun31 rfl rfl (fun w hS => isPart_c c w) ?_
   refine jN 3 ?_
   refine WQ.byCut hQ (subF_bool ?_ ⟨rfl, rfl, rfl, trivial⟩ rfl)
   first | (rw [hc]; done) | (rw [List.getElem?_eq_none (show s.length ≤ i + j by simp at g10; omega)])
  ·refine jN 11 ?_
   refine WQ.byCut hQ (subF_bool ?_ ⟨rfl, rfl, rfl, trivial⟩ rfl)
   first | (rw [hc]; done) | (rw [List.getElem?_eq_none (show s.length ≤ i + j by simp at g10; omega)])
 refine jN 1 ?_
 refine WC.cond rfl (fun h15 => ?_) (fun h15 => ?_)
 ·obtain ⟨c, hc, hcw⟩ : ∃ c, s[i + j]? = some c ∧ isPrt c = true := by cases hq : s[i + j]? with | none => rw [hq] at h15; cases h15 | some c => rw [hq] at h15; exact ⟨c, rfl, h15⟩
  have hlt : i + j < s.length := (List.getElem?_eq_some_iff.1 hc).1
  refine jN 12 ?_
  refine WQ.back (j + 1) ?_ ?_ ?_ ?_
  ·exact ⟨by omega, take_drop_all hc hal hcw⟩
  ·omega
  ·exact ⟨rfl, rfl, rfl, trivial⟩
  ·rfl
 ·have he : i + j = s.length ∨ ∃ c, s[i + j]? = some c ∧ isPrt c = false := by cases hq : s[i + j]? with | none => (have := List.getElem?_eq_none_iff.1 hq; left; omega) | some c => rw [hq] at h15; exact .inr ⟨c, rfl, h15⟩
  have hrun := runP_take hal he
  refine jN 8 ?_
  refine WL.load1 F.one9 rfl rfl (v := .string (str s)) (fun w hS => hS.oldc (cell_of_heap hb rfl) (by simp)) ?_
  refine jN 5 ?_
  refine WL.y (F := fun _ => True) (Yl.sliceFT (m := i) (n := i + j) F.und9 rfl rfl rfl (by omega) (by omega)) rfl (fun _ _ => trivial) ?_
  refine jN 5 ?_
  exact WQ.ret (rs := [.tmp 3]) rfl (.tmp rfl .nil) (fun w hS => ⟨by rw [hrun]; simp [tup], hS⟩)
theorem runP_len (s : List UInt8) : (runP s).length ≤ s.length := (runP_pre s).length_le
def namF (s : List UInt8) : Option (Nat × List UInt8) := if namB (runP s) then some (1, runP s) else none
def numF (s : List UInt8) : Option (Nat × List UInt8) := if numB (runP s) then some (2, runP s) else none
def sgnF (s : List UInt8) : Option (Nat × List UInt8) := (signF s).map fun x => (3, x)
abbrev kt (o : Option (Nat × List UInt8)) : Value := match o with
 | some t => .tuple #[.int .u8 (t.1 : Int), .string (str t.2)]
 | none => .tuple #[.int .u8 0, .string (str [])]
theorem tok1_or (s : List UInt8) : tok1 s = match namF s with
 | some t => some t
 | none => match numF s with
  | some t => some t
  | none => sgnF s := by
 unfold tok1 namF numF sgnF
 split
 ·rfl
 ·split <;> rfl
theorem name_c (s : List UInt8) (hs : s.length ≤ 1000000000) (i : Nat) (hi : i ≤ s.length) (bs br : Nat) (w : World) (hb : w.heap[bs]? = some (.cells [Value.string (str s)].toArray 9 (0, 0))) (hr : w.heap[br]? = some (.cells [.func (.func 30) [].toArray [pp bs].toArray].toArray 87 (0, 0))) :
  Pure Tryz.prog 32 [.int .i64 (i : Int), pp br] w (kt (namF (s.drop i))) := by
 refine enter Tryz.func32 rfl Tryz.ntmps32 rfl (St.init _) ?_
 refine jN 12 ?_
 refine WL.load1 F.one87 rfl rfl (v := .func (.func 30) [].toArray [pp bs].toArray) (fun w hS => hS.oldc (cell_of_heap hr rfl) (by simp)) ?_
 refine jN 3 ?_
 refine WL.callFC (β := Unit) (res := fun _ => .string (str (runP (s.drop i)))) (cs := fun _ => []) (Cs := []) (O' := []) (us := []) (cap := [pp bs]) F.fun30 (fun d h => by cases h; rfl) rfl rfl (List.Perm.refl _) (by simp) (by simp) (fun w hS _ => (run_c s hs i hi bs w (hS.oldh hb (by simp))).mono (fun e w2 h => ⟨(), h⟩)) (fun _ => ?_)
 refine jN 9 ?_
 refine WL.callV F.fun33 rfl rfl (fun w hS => isName6_c (runP (s.drop i)) w) ?_
 refine jN 2 ?_
 refine WC.cond rfl (fun h10 => ?_) (fun h10 => ?_)
 ·refine jN 12 ?_
  exact WQ.ret (rs := [.tmp 3, .tmp 4]) rfl (.tmp rfl (.tmp rfl .nil)) (fun w hS => ⟨by show _ = Ending.returned (kt (namF _)); unfold namF; rw [if_pos h10]; rfl, hS⟩)
 ·refine jN 11 ?_
  exact WQ.ret (rs := [.tmp 3, .tmp 4]) rfl (.tmp rfl (.tmp rfl .nil)) (fun w hS => ⟨by show _ = Ending.returned (kt (namF _)); unfold namF; rw [if_neg (by rw [h10]; simp)]; rfl, hS⟩)
theorem number6_c (s : List UInt8) (hs : s.length ≤ 1000000000) (i : Nat) (hi : i ≤ s.length) (bs br : Nat) (w : World) (hl : LibW w) (hb : w.heap[bs]? = some (.cells [Value.string (str s)].toArray 9 (0, 0))) (hr : w.heap[br]? = some (.cells [.func (.func 30) [].toArray [pp bs].toArray].toArray 87 (0, 0))) :
  Pure Tryz.prog 34 [.int .i64 (i : Int), pp br] w (kt (numF (s.drop i))) := by
 refine enter Tryz.func34 rfl Tryz.ntmps34 rfl (St.init _) ?_
 refine jN 12 ?_
 refine WL.load1 F.one87 rfl rfl (v := .func (.func 30) [].toArray [pp bs].toArray) (fun w hS => hS.oldc (cell_of_heap hr rfl) (by simp)) ?_
 refine jN 3 ?_
 refine WL.callFC (β := Unit) (res := fun _ => .string (str (runP (s.drop i)))) (cs := fun _ => []) (Cs := []) (O' := []) (us := []) (cap := [pp bs]) F.fun30 (fun d h => by cases h; rfl) rfl rfl (List.Perm.refl _) (by simp) (by simp) (fun w hS _ => (run_c s hs i hi bs w (hS.oldh hb (by simp))).mono (fun e w2 h => ⟨(), h⟩)) (fun _ => ?_)
 refine jN 9 ?_
 refine WL.callV F.fun35 rfl rfl (fun w hS => isNumber_c (runP (s.drop i)) (by have := runP_len (s.drop i); rw [List.length_drop] at this; omega) w (hl.next hS)) ?_
 refine jN 2 ?_
 refine WC.cond rfl (fun h10 => ?_) (fun h10 => ?_)
 ·refine jN 12 ?_
  exact WQ.ret (rs := [.tmp 3, .tmp 4]) rfl (.tmp rfl (.tmp rfl .nil)) (fun w hS => ⟨by show _ = Ending.returned (kt (numF _)); unfold numF; rw [if_pos h10]; rfl, hS⟩)
 ·refine jN 11 ?_
  exact WQ.ret (rs := [.tmp 3, .tmp 4]) rfl (.tmp rfl (.tmp rfl .nil)) (fun w hS => ⟨by show _ = Ending.returned (kt (numF _)); unfold numF; rw [if_neg (by rw [h10]; simp)]; rfl, hS⟩)
open Go Go.Eng Go.Proofs
open Fm
def sgV : List Value := signsL.map fun x => Value.string (str x)
def SgW (w : World) : Prop := ∀ j v, sgV[j]? = some v → w.cell? ⟨0, j, none⟩ = some v
theorem SgW.next {w0 w : World} {C : List Chunk} (h : SgW w0) (hS : St w0 [] C w) : SgW w := fun j v hv => hS.oldc (h j v hv) (by simp)
theorem sgV_len : sgV.length = 22 := by unfold sgV; rw [List.length_map]; rfl
theorem pre_is (s x : List UInt8) : Fm.pre s x = x.isPrefixOf s := by
 unfold Fm.pre
 rw [Bool.eq_iff_iff, List.isPrefixOf_iff_prefix, List.prefix_iff_eq_take]
 simp only [Bool.and_eq_true, decide_eq_true_eq, beq_iff_eq]
 constructor
 ·rintro ⟨_, h⟩; exact h.symm
 ·intro h
  refine ⟨?_, h.symm⟩
  have := congrArg List.length h
  rw [List.length_take] at this
  omega
theorem find_at {α : Type} {q : α → Bool} : ∀ {l : List α} {k : Nat} {x : α}, l[k]? = some x → (∀ y ∈ l.take k, q y = false) → q x = true → l.find? q = some x
 | [], k, x, h, _, _ => by simp at h
 | a :: r, 0, x, h, _, hq => by
  simp at h; subst h
  rw [List.find?_cons, hq]
 | a :: r, k + 1, x, h, hn, hq => by
  have ha : q a = false := hn a (by simp)
  rw [List.find?_cons, ha]
  exact find_at (by simpa using h) (fun y hy => hn y (by simp [hy])) hq
theorem find_no {α : Type} {q : α → Bool} {l : List α} {k : Nat} (hk : l.length ≤ k) (hn : ∀ y ∈ l.take k, q y = false) : l.find? q = none := by
 rw [List.find?_eq_none]
 intro y hy
 rw [hn y (by rw [List.take_of_length_le hk]; exact hy)]
 simp
theorem take_no {α : Type} {q : α → Bool} {l : List α} {k : Nat} {x : α} (h : l[k]? = some x) (hn : ∀ y ∈ l.take k, q y = false) (hx : q x = false) : ∀ y ∈ l.take (k + 1), q y = false := by
 intro y hy
 rw [List.take_add_one, h] at hy
 rcases List.mem_append.1 hy with hy | hy
 ·exact hn y hy
 ·simp at hy; subst hy; exact hx
theorem sgV_at {k : Nat} {x : List UInt8} (h : signsL[k]? = some x) : sgV[k]? = some (Value.string (str x)) := by
 unfold sgV; rw [List.getElem?_map, h]; rfl
theorem sign_c (s : List UInt8) (hs : s.length ≤ 1000000000) (i : Nat) (hi : i ≤ s.length) (bs : Nat) (w : World) (hg : SgW w) (hb : w.heap[bs]? = some (.cells [Value.string (str s)].toArray 9 (0, 0))) :
  Pure Tryz.prog 36 [.int .i64 (i : Int), pp bs] w (kt (sgnF (s.drop i))) := by
 refine enter Tryz.func36 rfl Tryz.ntmps36 rfl (St.init _) ?_
 refine jN 12 ?_
 refine WL.loadN F.agg89 rfl rfl sgV_len (fun w hS j v hv => by rw [Nat.zero_add]; exact hS.oldc (hg j v hv) (by simp)) ?_
 refine jN 5 ?_
 refine WC.loop (α := Nat) (fun k => k ≤ 22 ∧ ∀ y ∈ signsL.take k, (fun x => x.isPrefixOf (s.drop i)) y = false) (fun k => [(0, .int .i64 (i : Int)), (1, pp bs), (7, .agg sgV.toArray), (8, .int .i64 (k : Int))]) (fun _ => []) (fun k => 22 - k) (0) ?_ ?_ ?_ ?_
 ·exact ⟨by omega, by simp⟩
 ·exact ⟨rfl, rfl, rfl, rfl, trivial⟩
 ·rfl
 rintro k ⟨hk, hno⟩
 refine jN 7 ?_
 refine WC.cond rfl (fun h9 => ?_) (fun h9 => ?_)
 ·have h22 : signsL.length = 22 := rfl
  have hlt : k < signsL.length := by simp at h9; omega
  obtain ⟨x, hx⟩ : ∃ x, signsL[k]? = some x := ⟨_, List.getElem?_eq_getElem hlt⟩
  rw [h22] at hlt
  refine jN 7 ?_
  refine WL.indexA1 F.und89 F.one9 rfl rfl rfl (by simp at h9; omega) (sgV_at hx) ?_
  refine jN 7 ?_
  refine WL.load1 F.one9 rfl rfl (v := .string (str s)) (fun w hS => hS.oldc (cell_of_heap hb rfl) (by simp)) ?_
  refine jN 3 ?_
  refine WL.y (F := fun _ => True) (Yl.sliceFrom (n := i) F.und9 rfl rfl hi) rfl (fun _ _ => trivial) ?_
  refine jN 3 ?_
  refine WL.callV F.fun37 rfl rfl (fun w hS => hasPrefix_c (s.drop i) x w) ?_
  refine jN 2 ?_
  refine WC.cond rfl (fun h15 => ?_) (fun h15 => ?_)
  ·have hsn : signF (s.drop i) = some x := find_at hx hno (by rw [← pre_is]; exact h15)
   refine jN 16 ?_
   exact WQ.ret (rs := [.tmp 3, .tmp 4]) rfl (.tmp rfl (.tmp rfl .nil)) (fun w hS => ⟨by show _ = Ending.returned (kt (sgnF _)); unfold sgnF; rw [hsn]; rfl, hS⟩)
  ·refine jN 9 ?_
   refine WQ.back (k + 1) ?_ ?_ ?_ ?_
   ·exact ⟨by omega, take_no hx hno (by rw [← pre_is]; exact h15)⟩
   ·omega
   ·exact ⟨rfl, rfl, rfl, rfl, trivial⟩
   ·rfl
 ·have hke : 22 ≤ k := by simp at h9; omega
  have hsn : signF (s.drop i) = none := find_no (k := k) hke hno
  refine jN 14 ?_
  exact WQ.ret (rs := [.tmp 3, .tmp 4]) rfl (.tmp rfl (.tmp rfl .nil)) (fun w hS => ⟨by show _ = Ending.returned (kt (sgnF _)); unfold sgnF; rw [hsn]; rfl, hS⟩)
open Go Go.Eng Go.Proofs
structure SG where
 f : Nat
 path : List Int
 ss : List (List Int)
 vs : List Value
 hs : List Value
 ps : List Value
 F : List Nat
 aa : Option Addr
 pa : Option Addr
 ta : Option Addr
 ca : Nat
 pc : Nat
 tc : Nat
 nA : Nat
 nP : Nat
 nT : Nat
structure SInv (n : Nat) (ls : List (List Int)) (us : List Value) (r : Fm.Ans) (mode : Bool) (g : SG) : Prop where
 sol : Fm.solveF n g.f mode (ls ++ g.ss) g.path g.ss = some r
 hhs : g.hs = us ++ g.vs
 hps : g.ps = g.path.map (Value.int .i64)
 hA : g.nA = ls.length + g.ss.length
 hP : g.nP = g.ss.length
 hT : g.nT = g.path.length
 lit : ∀ x ∈ g.path, x ≠ 0 ∧ -24 ≤ x ∧ x ≤ 24
 slit : ∀ c ∈ g.ss, ∀ x ∈ c, Lit x
 slen : ∀ c ∈ g.ss, c.length ≤ 1099511627776
 bp : g.path.length + g.f ≤ 1073741824
 bs : g.ss.length + g.f ≤ 1073741824
def stepAt (path : List Int) (i : Nat) : List Value := ((path.map (fun x => -x)).take i).map (Value.int .i64) ++ List.replicate (path.length - i) (.int .i64 0)
def SolvePost (w : World) (r : Fm.Ans) (e : Ending) (w' : World) : Prop :=
 ∃ (x : Option Addr × Nat) (F : List Nat) (vs : List Value), e = .returned (.tuple #[.agg #[.bool r.ok, .int .u32 (r.model : Int), .slice x.1 r.proof.length x.2], .int .i64 0]) ∧
  St w [] [rowc (.slice x.1 r.proof.length x.2) r.proof.length 30 1 vs, stepsC F vs r.proof] w'
namespace F
end F
end Go.Proofs.YtnldjikcnahioaaGreatDoor
namespace Go.Eng
open Go Go.RowKit
section
variable {P : Program} {w0 : World} {O : List Nat} {ops : Array Oper} {Q : Exit → Act → World → Prop} {N : Nat} {D : List Deferred} {L : FL} {C : List Chunk} {K : Act → World → Prop}
variable {d : Nat} {ty : TypeId} {pos : String} {af : Array Edge}
theorem run_append_zero {t e : TypeId} {sz : Nat} (ht : P.underlying t = some (.slice e)) (hs : sizeB P e = some sz) {a0 a1 : Option Addr} {n cap c : Nat} (hn : n ≤ cap) (w : World) :
  (Builtin.append_ #[t, t] ty #[.slice a1 n cap, .slice a0 0 c]).run P w = .ok (.slice a1 n cap) w := by
 have hf : ∀ a : Option Addr, (Builtin.firstCells sz 0 (.slice a 0 c)).run P w = .ok #[] w := fun a => by
  cases a with
  | none => simp [Builtin.firstCells]
  | some a => simp [Builtin.firstCells, loadCells, loadCellsFrom]
 cases a1 with
 | none => simp [Builtin.append_, run_underlying ht, run_sizeOf hs, Builtin.lenOf, hn, hf]
 | some a1 => simp [Builtin.append_, run_underlying ht, run_sizeOf hs, Builtin.lenOf, hn, hf, storeCells]
end
end Go.Eng
namespace Go.Proofs.YtnldjikcnahioaaGreatDoor
open Go Go.Eng Go.Proofs
theorem RdC.of_row {w : World} {c : List Int} {a : Option Addr} {n cap : Nat} {e : TypeId} (hn : n = c.length) (h : (rowc (.slice a n cap) n e 1 (c.map (Value.int .i64))).ok w) : RdC w c a := fun j x hx => by
 have hlt := (List.getElem?_eq_some_iff.1 hx).1
 obtain ⟨g, hg, _, _⟩ := rowc_addr h (by omega)
 subst hg
 exact ⟨g, 0, rfl, by rw [Nat.zero_add]; exact rowc_cell h (by simp [hx])⟩
theorem RdC.news {w : World} {c : List Int} {a : Option Addr} (h : RdC w c a) (hc : c.length ≠ 0) : ∃ bx ox, a = some ⟨bx, ox, none⟩ ∧ ∀ j u, (c.map (Value.int .i64))[j]? = some u → w.cell? ⟨bx, ox + j, none⟩ = some u := by
 obtain ⟨x, hx⟩ : ∃ x, c[0]? = some x := ⟨c[0]'(by omega), List.getElem?_eq_getElem _⟩
 obtain ⟨b, off, ha, _⟩ := h 0 x hx
 refine ⟨b, off, ha, fun j u hu => ?_⟩
 rw [List.getElem?_map] at hu
 cases hj : c[j]? with
 | none => rw [hj] at hu; simp at hu
 | some y =>
  rw [hj] at hu; simp at hu; subst hu
  obtain ⟨b', off', ha', hc'⟩ := h j y hj
  rw [ha] at ha'
  injection ha' with ha'
  injection ha' with e1 e2
  subst e1; subst e2
  exact hc'
theorem RdLL.news {w : World} {ls : List (List Int)} {a : Option Addr} {us : List Value} (h : RdLL w ls a us) (hc : ls.length ≠ 0) : ∃ bx ox, a = some ⟨bx, ox, none⟩ ∧ ∀ j u, us[j]? = some u → w.cell? ⟨bx, ox + j, none⟩ = some u := by
 have hl := h.len
 obtain ⟨b, off, ha, _⟩ := h.hd 0 (us[0]'(by omega)) (List.getElem?_eq_getElem _)
 refine ⟨b, off, ha, fun j u hu => ?_⟩
 obtain ⟨b', off', ha', hc'⟩ := h.hd j u hu
 rw [ha] at ha'
 injection ha' with ha'
 injection ha' with e1 e2
 subst e1; subst e2
 exact hc'
theorem RdLL.one {w : World} {ls : List (List Int)} {a : Option Addr} {us : List Value} (h : RdLL w ls a us) : ∀ u ∈ us, u.oneCell' = true := by
 intro u hu
 obtain ⟨i, hi, he⟩ := List.getElem_of_mem hu
 have h1 : us[i]? = some u := by rw [List.getElem?_eq_getElem hi, he]
 have h2 : ls[i]? = some (ls[i]'(by rw [← h.len]; exact hi)) := List.getElem?_eq_getElem _
 obtain ⟨a1, c1, h3, _⟩ := h.rd i _ u h2 h1
 subst h3; rfl
theorem RdLL.of_row {w : World} {ls : List (List Int)} {aa : Option Addr} {hs : List Value} {n cap : Nat} (hn : n = ls.length) (hl : hs.length = ls.length) (h : (rowc (.slice aa n cap) n 30 1 hs).ok w)
  (hr : ∀ (i : Nat) (c : List Int) (u : Value), ls[i]? = some c → hs[i]? = some u → ∃ (a1 : Option Addr) (cap : Nat), u = Value.slice a1 c.length cap ∧ RdC w c a1) : RdLL w ls aa hs := by
 refine ⟨hl, fun i u hu => ?_, hr⟩
 have hlt := (List.getElem?_eq_some_iff.1 hu).1
 obtain ⟨g, hg, _, _⟩ := rowc_addr h (by omega)
 subst hg
 exact ⟨g, 0, rfl, by rw [Nat.zero_add]; exact rowc_cell h hu⟩
end Go.Proofs.YtnldjikcnahioaaGreatDoor
namespace Go.Eng
open Go Go.RowKit
section
variable {P : Program} {w0 : World} {O : List Nat} {ops : Array Oper} {Q : Exit → Act → World → Prop} {N : Nat} {D : List Deferred} {L : FL} {C : List Chunk} {K : Act → World → Prop}
variable {d : Nat} {ty : TypeId} {pos : String} {af : Array Edge}
end
open Go Go.RowKit
section
variable {P : Program}
end
open Go Go.RowKit
def mpc (b : Nat) (ks : List (List UInt8)) : Chunk where
 fp k := k = b
 ok w := ∃ (es : Array MapEntry) (clock : Nat), w.heap[b]? = some (.map es clock) ∧ es.toList.map (fun e => (e.key, e.val)) = ks.map (fun s => (Value.string (str s), Value.bool true))
 loc w w' h := fun ⟨es, c, h1, h2⟩ => ⟨es, c, (h b rfl).trans h1, h2⟩
theorem str_beq (a b : List UInt8) : (str a == str b) = (a == b) := by
 show (a.toArray == b.toArray) = _
 simp
theorem St.allocObj {w0 w : World} {O : List Nat} {C : List Chunk} (h : St w0 O C w) (o : Obj) (c0 : Chunk) (hf : ∀ k, c0.fp k ↔ k = w.heap.size) (hok : c0.ok (w.alloc o)) : St w0 O (c0 :: C) (w.alloc o) := by
 have hh : ∀ k, k < w.heap.size → (w.alloc o).heap[k]? = w.heap[k]? := fun k hk => Below.heap_alloc w _ k hk
 refine ⟨h.os, h.tape, h.output, by have := h.size; simp; omega, fun k hk ho => ?_, ?_, ?_, ?_⟩
 ·rw [hh k (Nat.lt_of_lt_of_le hk h.size)]; exact h.old k hk ho
 ·intro c hc
  rcases List.mem_cons.1 hc with rfl | hc
  ·exact hok
  ·exact (h.ok c hc |> fun hok => c.loc w _ (fun k hk => hh k (h.bnd c hc k hk).1) hok)
 ·intro c hc k hk
  rcases List.mem_cons.1 hc with rfl | hc
  ·have : k = w.heap.size := (hf k).1 hk
   subst this
   exact ⟨by simp, fun hlt => absurd hlt (Nat.not_lt.2 h.size)⟩
  ·exact ⟨by have := (h.bnd c hc k hk).1; simp; omega, (h.bnd c hc k hk).2⟩
 ·refine List.Pairwise.cons (fun c hc k hk hk' => ?_) h.disj
  have : k = w.heap.size := (hf k).1 hk
  subst this
  exact Nat.lt_irrefl _ (h.bnd c hc _ hk').1
theorem St.setObj {w0 w : World} {O : List Nat} {C C' : List Chunk} {b : Nat} {c0 c1 : Chunk} {o : Obj} (h : St w0 O C w) (hu : Upd c0 c1 C C') (hf : ∀ k, c0.fp k ↔ k = b) (hf' : ∀ k, c1.fp k ↔ k = b) (hok : c1.ok { w with heap := w.heap.setIfInBounds b o }) :
  St w0 O C' { w with heap := w.heap.setIfInBounds b o } := by
 obtain ⟨R, p1, p2⟩ := hu.perm
 have h1 := h.perm p1
 refine St.perm ?_ p2.symm
 have hbO := (h1.bnd _ (List.mem_cons_self ..) b ((hf b).2 rfl))
 have hoth : ∀ k, k ≠ b → ({ w with heap := w.heap.setIfInBounds b o } : World).heap[k]? = w.heap[k]? := fun k hk => by
  show (w.heap.setIfInBounds b o)[k]? = _
  rw [Array.getElem?_setIfInBounds_ne (Ne.symm hk)]
 have hdis := List.pairwise_cons.1 h1.disj
 refine ⟨h.os, h.tape, h.output, by simpa using h.size, fun k hk ho => ?_, ?_, ?_, ?_⟩
 ·by_cases hkb : k = b
  ·subst hkb; exact absurd (hbO.2 hk) ho
  ·rw [hoth k hkb]; exact h.old k hk ho
 ·intro c hc
  rcases List.mem_cons.1 hc with rfl | hc
  ·exact hok
  ·refine c.loc w _ (fun k hk => hoth k (fun e => ?_)) (h1.ok c (List.mem_cons_of_mem _ hc))
   exact hdis.1 c hc k ((hf k).2 e) hk
 ·intro c hc k hk
  rcases List.mem_cons.1 hc with rfl | hc
  ·have : k = b := (hf' k).1 hk
   subst this
   exact ⟨by simpa using hbO.1, hbO.2⟩
  ·simpa using h1.bnd c (List.mem_cons_of_mem _ hc) k hk
 ·exact List.Pairwise.cons (fun c hc k hk hk' => hdis.1 c hc k ((hf k).2 ((hf' k).1 hk)) hk') hdis.2
section
variable {P : Program} {w0 : World} {O : List Nat} {ops : Array Oper} {Q : Exit → Act → World → Prop} {N : Nat} {D : List Deferred} {L : FL} {C : List Chunk} {K : Act → World → Prop}
variable {d : Nat} {ty : TypeId} {pos : String} {af : Array Edge}
theorem WL.makeMap {t : TypeId} (hd : Nat.blt d N = true) (h : ∀ b, WA w0 O K N D ((d, .map (some b)) :: L) (mpc b [] :: C)) :
  WK P w0 O ops Q ⟨some d, .makeMap t none, ty, pos, af, none⟩ K N D L C := fun a w hF hS => by
 refine wpo_val rfl ?_ (h w.heap.size _ (w.alloc (.map #[] 0)) (hF.put d _ hd) (hS.allocObj _ (mpc w.heap.size []) (fun k => Iff.rfl) ⟨#[], 0, by show (w.heap.push _)[w.heap.size]? = _; simp, rfl⟩))
 have hr := run_makeMap_plain (P := P) (w := w) t
 simp only [execOp, Option.map_none, Sem.run_bind, hr, Result.andThen_ok, Sem.run_pure]
end
open Go Go.RowKit
def kidx {κ : Type} [DecidableEq κ] : List (κ × Value) → κ → Nat → Option (Nat × Value)
 | [], _, _ => none
 | p :: r, k, i => if p.1 = k then some (i, p.2) else kidx r k (i + 1)
def kfind {κ : Type} [DecidableEq κ] : List (κ × Value) → κ → Option Value
 | [], _ => none
 | p :: r, k => if p.1 = k then some p.2 else kfind r k
theorem kidx_none {κ : Type} [DecidableEq κ] : ∀ {kvs : List (κ × Value)} {k : κ} {i : Nat}, kidx kvs k i = none ↔ kfind kvs k = none
 | [], _, _ => by simp [kidx, kfind]
 | p :: r, k, i => by
  unfold kidx kfind
  split
  ·simp
  ·exact kidx_none
theorem kidx_some {κ : Type} [DecidableEq κ] : ∀ {kvs : List (κ × Value)} {k : κ} {i j : Nat} {v : Value}, kidx kvs k i = some (j, v) → i ≤ j ∧ kvs[j - i]? = some (k, v) ∧ kfind kvs k = some v ∧ ∀ v' k', kfind (kvs.set (j - i) (k, v')) k' = if k' = k then some v' else kfind kvs k'
 | [], _, _, _, _, h => by simp [kidx] at h
 | p :: r, k, i, j, v, h => by
  unfold kidx at h
  by_cases hp : p.1 = k
  ·rw [if_pos hp] at h
   simp only [Option.some.injEq, Prod.mk.injEq] at h
   obtain ⟨rfl, rfl⟩ := h
   subst hp
   refine ⟨Nat.le_refl _, by simp, by simp [kfind], fun v' k' => ?_⟩
   simp only [Nat.sub_self, List.set_cons_zero, kfind]
   by_cases hk : k' = p.1
   ·simp [hk]
   ·simp [hk, Ne.symm hk]
  ·rw [if_neg hp] at h
   obtain ⟨h1, h2, h3, h4⟩ := kidx_some h
   have e : j - i = (j - (i + 1)) + 1 := by omega
   refine ⟨by omega, by rw [e]; simpa using h2, by simp [kfind, hp, h3], fun v' k' => ?_⟩
   rw [e, List.set_cons_succ]
   simp only [kfind]
   by_cases hk : p.1 = k'
   ·rw [if_pos hk, if_pos hk, if_neg (fun e => hp (hk.trans e))]
   ·rw [if_neg hk, if_neg hk]; exact h4 v' k'
theorem kfind_snoc {κ : Type} [DecidableEq κ] : ∀ {kvs : List (κ × Value)} {k : κ} {v : Value}, kfind kvs k = none → ∀ k', kfind (kvs ++ [(k, v)]) k' = if k' = k then some v else kfind kvs k'
 | [], k, v, _, k' => by
  simp only [List.nil_append, kfind]
  by_cases h : k' = k
  ·simp [h]
  ·simp [h, Ne.symm h]
 | p :: r, k, v, h, k' => by
  unfold kfind at h
  by_cases hp : p.1 = k
  ·rw [if_pos hp] at h; cases h
  ·rw [if_neg hp] at h
   simp only [List.cons_append, kfind]
   by_cases hk : p.1 = k'
   ·rw [if_pos hk, if_pos hk, if_neg (fun e => hp (hk.trans e))]
   ·rw [if_neg hk, if_neg hk]; exact kfind_snoc h k'
structure KeyT (P : Program) (kt : TypeId) {κ : Type} [DecidableEq κ] (enc : κ → Value) : Prop where
 check : ∀ e w k, (Instr.checkKey e 10000 kt (enc k)).run P w = .ok () w
 find : ∀ w k (es : List MapEntry) (kvs : List (κ × Value)), es.map (fun e => (e.key, e.val)) = kvs.map (fun p => (enc p.1, p.2)) → (Instr.findKey kt (enc k) es).run P w = .ok (kidx kvs k 0) w
 stays : ∀ w k, (Instr.keyThatStays (enc k) (enc k)).run P w = .ok (enc k) w
structure MapInv {κ : Type} (es : List MapEntry) (clock : Nat) (ks : List κ) : Prop where
 born : (es.map (·.born)).Nodup
 past : ∀ e ∈ es, e.born < clock
 keys : ks.Nodup
def mpg {κ : Type} [DecidableEq κ] (enc : κ → Value) (b : Nat) (f : κ → Option Value) : Chunk where
 fp k := k = b
 ok w := ∃ (es : Array MapEntry) (clock : Nat) (kvs : List (κ × Value)), w.heap[b]? = some (.map es clock) ∧ es.toList.map (fun e => (e.key, e.val)) = kvs.map (fun p => (enc p.1, p.2)) ∧ (∀ k, f k = kfind kvs k) ∧ MapInv es.toList clock (kvs.map Prod.fst)
 loc w w' h := fun ⟨es, c, kvs, h1, h2⟩ => ⟨es, c, kvs, (h b rfl).trans h1, h2⟩
theorem kfind_mem {κ : Type} [DecidableEq κ] : ∀ {kvs : List (κ × Value)} {k : κ}, kfind kvs k = none → k ∉ kvs.map Prod.fst
 | [], _, _ => by simp
 | p :: r, k, h => by
  unfold kfind at h
  by_cases hp : p.1 = k
  ·rw [if_pos hp] at h; cases h
  ·rw [if_neg hp] at h
   simp only [List.map_cons, List.mem_cons, not_or]
   exact ⟨Ne.symm hp, kfind_mem h⟩
theorem MapInv.push {κ : Type} {es : List MapEntry} {clock : Nat} {ks : List κ} (h : MapInv es clock ks) {k : κ} (hk : k ∉ ks) (key val : Value) : MapInv (es ++ [{ key, val, born := clock }]) (clock + 1) (ks ++ [k]) := by
 refine ⟨?_, fun e he => ?_, ?_⟩
 ·rw [List.map_append, List.nodup_append]
  refine ⟨h.born, by simp, fun a ha b hb => ?_⟩
  obtain ⟨e, he, rfl⟩ := List.mem_map.1 ha
  simp only [List.map_cons, List.map_nil, List.mem_singleton] at hb
  have := h.past e he
  omega
 ·rcases List.mem_append.1 he with he | he
  ·exact Nat.lt_succ_of_lt (h.past e he)
  ·rw [List.mem_singleton.1 he]; exact Nat.lt_succ_self _
 ·rw [List.nodup_append]
  refine ⟨h.keys, by simp, fun a ha b hb => ?_⟩
  rw [List.mem_singleton.1 hb]
  exact fun e => hk (e ▸ ha)
theorem map_modify_same {α β : Type} (f : α → β) (g : α → α) (hg : ∀ a, f (g a) = f a) : ∀ (l : List α) (j : Nat), (l.modify j g).map f = l.map f
 | [], j => by simp
 | x :: r, 0 => by simp [hg]
 | x :: r, j + 1 => by simp [map_modify_same f g hg r j]
theorem MapInv.modify {κ : Type} {es : List MapEntry} {clock : Nat} {ks : List κ} (h : MapInv es clock ks) (g : MapEntry → MapEntry) (hg : ∀ e, (g e).born = e.born) (j : Nat) : MapInv (es.modify j g) clock ks := by
 have hb := map_modify_same (·.born) g hg es j
 refine ⟨by rw [hb]; exact h.born, fun e he => ?_, h.keys⟩
 have : e.born ∈ (es.modify j g).map (·.born) := List.mem_map_of_mem he
 rw [hb] at this
 obtain ⟨e2, he2, e3⟩ := List.mem_map.1 this
 rw [← e3]; exact h.past e2 he2
theorem map_modify_set {α β : Type} (f : α → β) (g : α → α) : ∀ (l : List α) (j : Nat) (a : α), l[j]? = some a → (l.modify j g).map f = (l.map f).set j (f (g a))
 | [], j, a, h => by simp at h
 | x :: r, 0, a, h => by simp at h; subst h; simp
 | x :: r, j + 1, a, h => by
  simp only [List.getElem?_cons_succ] at h
  simp [map_modify_set f g r j a h]
section
variable {P : Program} {w0 : World} {O : List Nat} {ops : Array Oper} {Q : Exit → Act → World → Prop} {N : Nat} {D : List Deferred} {L : FL} {C : List Chunk} {K : Act → World → Prop}
variable {d : Nat} {ty : TypeId} {pos : String} {af : Array Edge}
variable {κ : Type} [DecidableEq κ] {enc : κ → Value} {kt : TypeId}
theorem WL.makeMapG (enc : κ → Value) {t : TypeId} (hd : Nat.blt d N = true) (h : ∀ b, WA w0 O K N D ((d, .map (some b)) :: L) (mpg enc b (fun _ => none) :: C)) :
  WK P w0 O ops Q ⟨some d, .makeMap t none, ty, pos, af, none⟩ K N D L C := fun a w hF hS => by
 refine wpo_val rfl ?_ (h w.heap.size _ (w.alloc (.map #[] 0)) (hF.put d _ hd) (hS.allocObj _ (mpg enc w.heap.size (fun _ => none)) (fun k => Iff.rfl) ⟨#[], 0, [], by show (w.heap.push _)[w.heap.size]? = _; simp, rfl, fun _ => rfl, ⟨by simp, by simp, by simp⟩⟩))
 have hr := run_makeMap_plain (P := P) (w := w) t
 simp only [execOp, Option.map_none, Sem.run_bind, hr, Result.andThen_ok, Sem.run_pure]
theorem run_lookupG {t et : TypeId} {b : Nat} {k : κ} {f : κ → Option Value} {z : Value} (hm : P.underlying t = some (.map kt et)) (hk : KeyT P kt enc) (hz : ∀ w, (zeroValue et).run P w = .ok z w) {w : World} (hok : (mpg enc b f).ok w) (cm : Bool) :
  (Instr.lookup t (.map (some b)) (enc k) cm).run P w = .ok (bif cm then .tuple #[(f k).getD z, .bool (f k).isSome] else (f k).getD z) w := by
 obtain ⟨es, clock, kvs, h1, h2, h3, _⟩ := hok
 have hf := hk.find w k es.toList kvs h2
 cases hh : kidx kvs k 0 with
 | none =>
  have hn : f k = none := by rw [h3, kidx_none.1 hh]
  rw [hh] at hf
  cases cm <;> simp [Instr.lookup, run_underlying hm, MapKept.run_getObj_map h1, hk.check, hf, Result.andThen, hz, hn]
 | some p =>
  obtain ⟨j, v⟩ := p
  have hn : f k = some v := by rw [h3, (kidx_some hh).2.2.1]
  rw [hh] at hf
  cases cm <;> simp [Instr.lookup, run_underlying hm, MapKept.run_getObj_map h1, hk.check, hf, Result.andThen, hn]
theorem WL.lookupG {t et : TypeId} {x y : Operand} {b : Nat} {f : κ → Option Value} {z vy : Value} {cm : Bool} (k : κ) (hm : P.underlying t = some (.map kt et)) (hk : KeyT P kt enc) (hz : ∀ w, (zeroValue et).run P w = .ok z w) (hd : Nat.blt d N = true)
  (hx : ev L x = some (.map (some b))) (hy : ev L y = some vy) (hvy : vy = enc k) (hmem : mpg enc b f ∈ C) (h : WA w0 O K N D ((d, bif cm then .tuple #[(f k).getD z, .bool (f k).isSome] else (f k).getD z) :: L) C) :
  WK P w0 O ops Q ⟨some d, .lookup t x y cm, ty, pos, af, none⟩ K N D L C := fun a w hF hS => by
 subst hvy
 refine wpo_val rfl ?_ (h _ w (hF.put d _ hd) hS)
 simp only [execOp, hF.ev hx, hF.ev hy, Sem.run_bind, run_lookupG hm hk hz (hS.ok _ hmem), Result.andThen_ok, Sem.run_pure]
theorem WL.lookupHit {t et : TypeId} {x y : Operand} {b : Nat} {f : κ → Option Value} {z v vy : Value} (k : κ) (hm : P.underlying t = some (.map kt et)) (hk : KeyT P kt enc) (hz : ∀ w, (zeroValue et).run P w = .ok z w) (hd : Nat.blt d N = true)
  (hx : ev L x = some (.map (some b))) (hy : ev L y = some vy) (hvy : vy = enc k) (hmem : mpg enc b f ∈ C) (hf : f k = some v) (h : WA w0 O K N D ((d, .tuple [v, .bool true].toArray) :: L) C) :
  WK P w0 O ops Q ⟨some d, .lookup t x y true, ty, pos, af, none⟩ K N D L C := WL.lookupG k hm hk hz hd hx hy hvy hmem (by rw [hf]; exact h)
theorem WL.lookupMiss {t et : TypeId} {x y : Operand} {b : Nat} {f : κ → Option Value} {z vy : Value} (k : κ) (hm : P.underlying t = some (.map kt et)) (hk : KeyT P kt enc) (hz : ∀ w, (zeroValue et).run P w = .ok z w) (hd : Nat.blt d N = true)
  (hx : ev L x = some (.map (some b))) (hy : ev L y = some vy) (hvy : vy = enc k) (hmem : mpg enc b f ∈ C) (hf : f k = none) (h : WA w0 O K N D ((d, .tuple [z, .bool false].toArray) :: L) C) :
  WK P w0 O ops Q ⟨some d, .lookup t x y true, ty, pos, af, none⟩ K N D L C := WL.lookupG k hm hk hz hd hx hy hvy hmem (by rw [hf]; exact h)
theorem WL.mapPutG {t et : TypeId} {x y z : Operand} {b : Nat} {f : κ → Option Value} {vy v : Value} {C' : List Chunk} (k : κ) (hm : P.underlying t = some (.map kt et)) (hk : KeyT P kt enc)
  (hx : ev L x = some (.map (some b))) (hy : ev L y = some vy) (hvy : vy = enc k) (hz : ev L z = some v) (hu : Upd (mpg enc b f) (mpg enc b (fun q => if q = k then some v else f q)) C C') (h : WA w0 O K N D L C') :
  WK P w0 O ops Q ⟨none, .mapUpdate t x y z, ty, pos, af, none⟩ K N D L C := fun a w hF hS => by
 subst hvy
 obtain ⟨es, clock, kvs, h1, h2, h3, hI⟩ := hS.ok _ hu.mem
 have hb : b < w.heap.size := ((hS.bnd _ hu.mem) b rfl).1
 have hf := hk.find w k es.toList kvs h2
 cases hh : kidx kvs k 0 with
 | none =>
  rw [hh] at hf
  have hr : (Instr.mapUpdate t (.map (some b)) (enc k) v).run P w = .ok () { w with heap := w.heap.setIfInBounds b (.map (es.push { key := enc k, val := v, born := clock }) (clock + 1)) } := by
   simp [Instr.mapUpdate, run_underlying hm, MapKept.run_getObj_map h1, hk.check, hf, MapKept.run_setObj_map _ h1, Result.andThen]
  refine wpo_skip rfl (w' := { w with heap := w.heap.setIfInBounds b (.map (es.push { key := enc k, val := v, born := clock }) (clock + 1)) }) ?_ (h _ _ hF (hS.setObj hu (fun k => Iff.rfl) (fun k => Iff.rfl) ⟨es.push { key := enc k, val := v, born := clock }, clock + 1, kvs ++ [(k, v)], ?_, ?_, ?_, ?_⟩))
  ·simp [execOp, hF.ev hx, hF.ev hy, hF.ev hz, hr]
  ·show (w.heap.setIfInBounds b _)[b]? = _
   rw [Array.getElem?_setIfInBounds_self_of_lt hb]
  ·simp [h2]
  ·intro q
   rw [kfind_snoc (kidx_none.1 hh) q]
   simp only [h3]
  ·have := hI.push (kfind_mem (kidx_none.1 hh)) (enc k) v
   simpa using this
 | some p =>
  obtain ⟨j, u⟩ := p
  rw [hh] at hf
  obtain ⟨_, g2, g3, g4⟩ := kidx_some hh
  simp only [Nat.sub_zero] at g2 g4
  have hlen : es.toList.length = kvs.length := by have := congrArg List.length h2; simpa using this
  have hjl : j < es.toList.length := by rw [hlen]; exact (List.getElem?_eq_some_iff.1 g2).1
  have hej : es.toList[j]? = some es.toList[j] := List.getElem?_eq_getElem hjl
  have hkey : es.toList[j].key = enc k := by
   have e1 : (es.toList.map (fun e => (e.key, e.val)))[j]? = some (es.toList[j].key, es.toList[j].val) := by rw [List.getElem?_map, hej]; rfl
   rw [h2, List.getElem?_map, g2] at e1
   simp only [Option.map_some, Option.some.injEq, Prod.mk.injEq] at e1
   exact e1.1.symm
  have hej' : es[j]? = some es.toList[j] := by rw [← Array.getElem?_toList]; exact hej
  have hkey2 := hkey
  simp only [Array.getElem_toList] at hkey2
  have hr : (Instr.mapUpdate t (.map (some b)) (enc k) v).run P w = .ok () { w with heap := w.heap.setIfInBounds b (.map (es.modify j fun e => { e with key := enc k, val := v }) clock) } := by
   simp [Instr.mapUpdate, run_underlying hm, MapKept.run_getObj_map h1, hk.check, hf, MapKept.run_setObj_map _ h1, Result.andThen, hej', hkey, hkey2, hk.stays]
  refine wpo_skip rfl (w' := { w with heap := w.heap.setIfInBounds b (.map (es.modify j fun e => { e with key := enc k, val := v }) clock) }) ?_ (h _ _ hF (hS.setObj hu (fun k => Iff.rfl) (fun k => Iff.rfl) ⟨es.modify j fun e => { e with key := enc k, val := v }, clock, kvs.set j (k, v), ?_, ?_, ?_, ?_⟩))
  ·simp [execOp, hF.ev hx, hF.ev hy, hF.ev hz, hr]
  ·show (w.heap.setIfInBounds b _)[b]? = _
   rw [Array.getElem?_setIfInBounds_self_of_lt hb]
  ·rw [Array.toList_modify, map_modify_set _ _ _ _ _ hej, h2, List.map_set]
  ·intro q
   rw [g4 v q]
   simp only [h3]
  ·rw [Array.toList_modify]
   have e1 : (kvs.set j (k, v)).map Prod.fst = kvs.map Prod.fst := by
    rw [List.map_set]
    refine List.ext_getElem? fun i => ?_
    rw [List.getElem?_set]
    split
    ·rename_i e
     subst e
     have hj : j < kvs.length := (List.getElem?_eq_some_iff.1 g2).1
     rw [if_pos (by simpa using hj), List.getElem?_map, g2]; rfl
    ·rfl
   rw [e1]
   exact hI.modify (fun e => { e with key := enc k, val := v }) (fun _ => rfl) j
end
def encI (n : Nat) : Value := .int .i64 (n : Int)
def enc2 (p : Nat × Nat) : Value := .agg #[.int .i64 (p.1 : Int), .int .i64 (p.2 : Int)]
def enc3 (p : Nat × Nat × Nat) : Value := .agg #[.int .i64 (p.1 : Int), .int .i64 (p.2.1 : Int), .int .i64 (p.2.2 : Int)]
section
variable {P : Program} {kt : TypeId} {κ : Type} [DecidableEq κ] {enc : κ → Value}
theorem findNow_kidx {d : TypeDesc} (hs : ∀ a b : κ, Instr.sameNow d (enc a) (enc b) = some (decide (b = a))) (k : κ) : ∀ (es : List MapEntry) (kvs : List (κ × Value)) (i : Nat), es.map (fun e => (e.key, e.val)) = kvs.map (fun p => (enc p.1, p.2)) → Instr.findNow d (enc k) es i = some (kidx kvs k i)
 | [], [], _, _ => rfl
 | [], p :: r, _, h => by simp at h
 | e :: es, [], _, h => by simp at h
 | e :: es, p :: r, i, h => by
  simp only [List.map_cons, List.cons.injEq, Prod.mk.injEq] at h
  obtain ⟨⟨h1, h2⟩, h3⟩ := h
  unfold Instr.findNow kidx
  rw [h1, hs k p.1, h2]
  by_cases hp : p.1 = k
  ·simp [hp]
  ·simp only [hp, decide_false, if_false]
   exact findNow_kidx hs k es r (i + 1) h3
theorem findAsking_kidx {w : World} (hs : ∀ a b : κ, (Op.equal kt (enc a) (enc b)).run P w = .ok (decide (b = a)) w) (k : κ) : ∀ (es : List MapEntry) (kvs : List (κ × Value)) (i : Nat), es.map (fun e => (e.key, e.val)) = kvs.map (fun p => (enc p.1, p.2)) → (Instr.findAsking kt (enc k) es i).run P w = .ok (kidx kvs k i) w
 | [], [], _, _ => by simp [Instr.findAsking, kidx]
 | [], p :: r, _, h => by simp at h
 | e :: es, [], _, h => by simp at h
 | e :: es, p :: r, i, h => by
  simp only [List.map_cons, List.cons.injEq, Prod.mk.injEq] at h
  obtain ⟨⟨h1, h2⟩, h3⟩ := h
  unfold Instr.findAsking kidx
  simp only [Sem.run_bind, h1, hs k p.1, Result.andThen_ok, h2]
  by_cases hp : p.1 = k
  ·simp [hp]
  ·simp only [hp, decide_false, if_false, Bool.false_eq_true]
   exact findAsking_kidx hs k es r (i + 1) h3
theorem KeyT.nat (hu : P.underlying kt = some (.int .i64)) : KeyT P kt encI where
 check e w k := by unfold encI; exact MapKept.run_checkKey hu (by simp [MapKept.IsKey]) e 9999
 find w k es kvs h := MapKept.run_findKey hu (findNow_kidx (d := .int .i64) (fun a b => by
  simp only [Instr.sameNow, encI, if_pos, Option.some.injEq]
  rw [Bool.eq_iff_iff]; simp; omega) k es kvs 0 h)
 stays w k := MapKept.run_keyThatStays (d := .int .i64) (by simp [MapKept.IsKey, encI])
end
open Go Go.RowKit
section
variable {P : Program} {w0 : World} {O : List Nat} {Q : Exit → Act → World → Prop} {N : Nat} {D : List Deferred} {L : FL} {C : List Chunk}
theorem WC.cutPE {c : Code} {α : Type} (M : α → FL) (C' : α → List Chunk) (hq : NoLook Q) (hx : ∀ Q', NoLook Q' → (∀ x, WQ w0 O Q' .normal N D (M x) (C' x)) → WC P w0 O c Q' N D L C) (hy : ∀ x, WQ w0 O Q .normal N D (M x) (C' x)) : WC P w0 O c Q N D L C := hx Q hq hy
end
section
variable {ops : Array Oper} {Fs : List (List Nat × (World → Prop))}
def fwd (i : Nat) : List Oper → List Bool → List Bool
 | [], acc => acc
 | o :: os, acc => fwd i os (acc ++ [o.after.any fun e => Region.binds .any e && (e.on == i || acc.getD e.on false)])
theorem fwd_not {listed : Array Bool} (hc : Closed ops listed) {i : Nat} (hi : listed.getD i false = false) : ∀ (os : List Oper) (acc : List Bool), ops.toList.drop acc.length = os → (∀ x, acc.getD x false = true → listed.getD x false = false) → ∀ x, (fwd i os acc).getD x false = true → listed.getD x false = false
 | [], acc, _, h, x, hx => h x hx
 | o :: os, acc, hd, h, x, hx => by
  have hlt : acc.length < ops.toList.length := by
   by_cases hl : acc.length < ops.toList.length
   ·exact hl
   ·rw [List.drop_eq_nil_of_le (by omega)] at hd; cases hd
  rw [List.drop_eq_getElem_cons hlt] at hd
  injection hd with h1 h2
  have ho : ops[acc.length]? = some o := by
   rw [← Array.getElem?_toList, List.getElem?_eq_getElem hlt, h1]
  refine fwd_not hc hi os _ (by rw [List.length_append]; exact h2) (fun y hy => ?_) x hx
  by_cases hyl : y < acc.length
  ·rw [List.getD_eq_getElem?_getD, List.getElem?_append_left hyl, ← List.getD_eq_getElem?_getD] at hy
   exact h y hy
  ·rw [List.getD_eq_getElem?_getD, List.getElem?_append_right (by omega)] at hy
   have hye : y = acc.length := by
    by_cases he : y - acc.length = 0
    ·omega
    ·rw [List.getElem?_eq_none (by simp; omega)] at hy; simp at hy
   subst hye
   simp only [Nat.sub_self, List.getElem?_cons_zero, Option.getD_some] at hy
   obtain ⟨e, he, hb⟩ := Array.any_eq_true'.1 hy
   simp only [Bool.and_eq_true, Bool.or_eq_true, beq_iff_eq] at hb
   cases hl : listed.getD acc.length false with
   | false => rfl
   | true =>
    have h3 := hc acc.length o ho hl e he hb.1
    rcases hb.2 with h4 | h4
    ·rw [h4, hi] at h3; cases h3
    ·rw [h _ h4] at h3; cases h3
def allIn (l : List Bool) (ds : List Nat) : Bool := ds.all fun j => l.getD j false
theorem need_at2 {i : Nat} (k : Nat) {ds : List Nat} {Y : World → Prop} (hm : Fs[k]? = some (ds, Y)) (hr : allIn (fwd i ops.toList []) ds = true) :
  ∀ (listed : Array Bool) (w : World), Closed ops listed → listed.getD i false = false → Sx Fs listed w → Y w := fun listed w hc hi hS =>
 hS (ds, Y) (List.mem_of_getElem? hm) fun j hj => fwd_not hc hi ops.toList [] rfl (fun x hx => by simp at hx) j (List.all_eq_true.1 hr j hj)
end
open Go Go.RowKit Go.Proofs.YtnldjikcnahioaaGreatDoor
def bun (F : List Nat) {α : Type} (Cs : α → List Chunk) (φ : α → Prop) : Chunk where
 fp k := k ∈ F
 ok w := ∃ x, φ x ∧ (∀ c ∈ Cs x, c.ok w) ∧ (Cs x).Pairwise (fun (c d : Chunk) => ∀ k : Nat, c.fp k → ¬ d.fp k) ∧ (∀ c ∈ Cs x, ∀ k, c.fp k → k ∈ F) ∧ ∀ k ∈ F, ∃ c ∈ Cs x, c.fp k
 loc w w' h := fun ⟨x, h1, h2, h3, h4, h5⟩ => ⟨x, h1, fun c hc => c.loc w w' (fun k hk => h k (h4 c hc k hk)) (h2 c hc), h3, h4, h5⟩
section
variable {P : Program} {w0 : World} {O : List Nat} {ops : Array Oper} {Q : Exit → Act → World → Prop} {N : Nat} {D : List Deferred} {L : FL} {C : List Chunk} {K : Act → World → Prop}
variable {d : Nat} {ty : TypeId} {pos : String} {af : Array Edge}
theorem St.bunOpen {w : World} {F : List Nat} {α : Type} {Cs : α → List Chunk} {φ : α → Prop} (h : St w0 O (bun F Cs φ :: C) w) : ∃ x, φ x ∧ (∀ c ∈ Cs x, ∀ k, c.fp k → k ∈ F) ∧ (∀ k ∈ F, ∃ c ∈ Cs x, c.fp k) ∧ St w0 O (Cs x ++ C) w := by
 obtain ⟨x, h1, h2, h3, h4, h5⟩ := h.ok _ (List.mem_cons_self ..)
 have hd := List.pairwise_cons.1 h.disj
 refine ⟨x, h1, h4, h5, h.os, h.tape, h.output, h.size, h.old, fun c hc => ?_, fun c hc k hk => ?_, List.pairwise_append.2 ⟨h3, hd.2, fun c hc d hd' k hk hk' => hd.1 d hd' k (h4 c hc k hk) hk'⟩⟩
 ·rcases List.mem_append.1 hc with hc | hc
  ·exact h2 c hc
  ·exact h.ok c (List.mem_cons_of_mem _ hc)
 ·rcases List.mem_append.1 hc with hc | hc
  ·exact h.bnd _ (List.mem_cons_self ..) k (h4 c hc k hk)
  ·exact h.bnd c (List.mem_cons_of_mem _ hc) k hk
theorem St.bunClose {w : World} {F : List Nat} {α : Type} {Cs : α → List Chunk} {φ : α → Prop} (x : α) (hφ : φ x) (h4 : ∀ c ∈ Cs x, ∀ k, c.fp k → k ∈ F) (h5 : ∀ k ∈ F, ∃ c ∈ Cs x, c.fp k) (h : St w0 O (Cs x ++ C) w) : St w0 O (bun F Cs φ :: C) w := by
 have hd := List.pairwise_append.1 h.disj
 refine ⟨h.os, h.tape, h.output, h.size, h.old, fun c hc => ?_, fun c hc k hk => ?_, List.Pairwise.cons (fun c hc k hk hk' => ?_) hd.2.1⟩
 ·rcases List.mem_cons.1 hc with rfl | hc
  ·exact ⟨x, hφ, fun c hc => h.ok c (List.mem_append_left _ hc), hd.1, h4, h5⟩
  ·exact h.ok c (List.mem_append_right _ hc)
 ·rcases List.mem_cons.1 hc with rfl | hc
  ·obtain ⟨c', hc', hk'⟩ := h5 k hk
   exact h.bnd c' (List.mem_append_left _ hc') k hk'
  ·exact h.bnd c (List.mem_append_right _ hc) k hk
 ·obtain ⟨c', hc', hk2⟩ := h5 k hk
  exact hd.2.2 c' hc' c hc k hk2 hk'
theorem bun_O1 {F : List Nat} {α : Type} {Cs : α → List Chunk} {φ : α → Prop} : ∀ c ∈ [bun F Cs φ], ∀ k, c.fp k → k ∈ F := by
 intro c hc k hk
 simp only [List.mem_singleton] at hc
 subst hc; exact hk
theorem bun_O2 {F : List Nat} {α : Type} {Cs : α → List Chunk} {φ : α → Prop} : ∀ k ∈ F, ∃ c ∈ [bun F Cs φ], c.fp k := fun k hk => ⟨_, List.mem_singleton.2 rfl, hk⟩
def FpIs (c : Chunk) (F : List Nat) : Prop := ∀ k, c.fp k ↔ k ∈ F
theorem FpIs.pt {b : Nat} {cs : List Value} {e : TypeId} : FpIs (pt b cs e) [b] := fun k => by
 show k = b ↔ _
 simp
theorem FpIs.mpg {κ : Type} [DecidableEq κ] {enc : κ → Value} {b : Nat} {f : κ → Option Value} : FpIs (mpg enc b f) [b] := fun k => by
 show k = b ↔ _
 simp
theorem FpIs.rowc {v : Value} {n : Nat} {e : TypeId} {sz : Nat} {xs : List Value} : FpIs (rowc v n e sz xs) (ob v) := fun k => by
 rw [mem_ob]; rfl
theorem FpIs.bun {F : List Nat} {α : Type} {Cs : α → List Chunk} {φ : α → Prop} : FpIs (bun F Cs φ) F := fun k => Iff.rfl
inductive FpL : List Chunk → List Nat → Prop
 | nil : FpL [] []
 | cons {c F Cs Fs} : FpIs c F → FpL Cs Fs → FpL (c :: Cs) (F ++ Fs)
theorem FpL.one {Cs : List Chunk} {F : List Nat} (h : FpL Cs F) : ∀ c ∈ Cs, ∀ k, c.fp k → k ∈ F := by
 induction h with
 | nil => intro c hc; cases hc
 | cons h1 h2 ih =>
  intro c hc k hk
  rcases List.mem_cons.1 hc with rfl | hc
  ·exact List.mem_append_left _ ((h1 k).1 hk)
  ·exact List.mem_append_right _ (ih c hc k hk)
theorem FpL.two {Cs : List Chunk} {F : List Nat} (h : FpL Cs F) : ∀ k ∈ F, ∃ c ∈ Cs, c.fp k := by
 induction h with
 | nil => intro k hk; cases hk
 | cons h1 h2 ih =>
  intro k hk
  rcases List.mem_append.1 hk with hk | hk
  ·exact ⟨_, List.mem_cons_self .., (h1 k).2 hk⟩
  ·obtain ⟨c, hc, hk⟩ := ih k hk
   exact ⟨c, List.mem_cons_of_mem _ hc, hk⟩
theorem St.bunClose' {w : World} {F : List Nat} {α : Type} {Cs : α → List Chunk} {φ : α → Prop} (x : α) (hφ : φ x) (hF : FpL (Cs x) F) (h : St w0 O (Cs x ++ C) w) : St w0 O (bun F Cs φ :: C) w := h.bunClose x hφ hF.one hF.two
theorem St.apart {w : World} {C1 : List Chunk} {F : List Nat} (h : St w0 O (C ++ C1) w) (h2 : ∀ k ∈ F, ∃ c ∈ C, c.fp k) {z : Nat} (hz : z < w0.heap.size) (hO : z ∉ O) : z ∉ F := fun hk => by
 obtain ⟨c, hc, hf⟩ := h2 z hk
 exact hO ((h.bnd c (List.mem_append_left _ hc) z hf).2 hz)
variable {κ : Type} [DecidableEq κ] {enc : κ → Value} {kt : TypeId}
theorem Yl.lookupG {t et : TypeId} {x y : Operand} {b : Nat} {f : κ → Option Value} {z vy v : Value} {cm : Bool} (k : κ) (hm : P.underlying t = some (.map kt et)) (hk : KeyT P kt enc) (hz : ∀ w, (zeroValue et).run P w = .ok z w)
  (hx : ev L x = some (.map (some b))) (hy : ev L y = some vy) (hvy : vy = enc k) (hv : v = bif cm then .tuple #[(f k).getD z, .bool (f k).isSome] else (f k).getD z) : Yl P N D L (fun w => (mpg enc b f).ok w) ⟨some d, .lookup t x y cm, ty, pos, af, none⟩ v := fun a w hF hok => by
 subst hvy; subst hv
 simp only [execOp, hF.ev hx, hF.ev hy, Sem.run_bind, run_lookupG hm hk hz hok, Result.andThen_ok, Sem.run_pure]
theorem Yl.lookupHit {t et : TypeId} {x y : Operand} {b : Nat} {f : κ → Option Value} {z vy v : Value} (k : κ) (hm : P.underlying t = some (.map kt et)) (hk : KeyT P kt enc) (hz : ∀ w, (zeroValue et).run P w = .ok z w)
  (hx : ev L x = some (.map (some b))) (hy : ev L y = some vy) (hvy : vy = enc k) (hf : f k = some v) : Yl P N D L (fun w => (mpg enc b f).ok w) ⟨some d, .lookup t x y true, ty, pos, af, none⟩ (.tuple [v, .bool true].toArray) := Yl.lookupG k hm hk hz hx hy hvy (by rw [hf]; rfl)
theorem Yl.lookupMiss {t et : TypeId} {x y : Operand} {b : Nat} {f : κ → Option Value} {z vy : Value} (k : κ) (hm : P.underlying t = some (.map kt et)) (hk : KeyT P kt enc) (hz : ∀ w, (zeroValue et).run P w = .ok z w)
  (hx : ev L x = some (.map (some b))) (hy : ev L y = some vy) (hvy : vy = enc k) (hf : f k = none) : Yl P N D L (fun w => (mpg enc b f).ok w) ⟨some d, .lookup t x y true, ty, pos, af, none⟩ (.tuple [z, .bool false].toArray) := Yl.lookupG k hm hk hz hx hy hvy (by rw [hf]; rfl)
theorem LoadOk.map {b : Nat} {f : κ → Option Value} (hm : mpg enc b f ∈ C) : LoadOk w0 O L C (fun w => (mpg enc b f).ok w) := fun w hS => hS.ok _ hm
end
section
variable {P : Program} {kt : TypeId}
structure IntF (P : Program) (f : Field) (off : Nat) : Prop where
 name : f.name ≠ "_"
 offset : f.offset = off
 plain : P.plainKey f.type = true
 int : P.underlying f.type = some (.int .i64)
def intFB (P : Program) (f : Field) (off : Nat) : Bool := f.name != "_" && f.offset == off && P.plainKey f.type && (match P.underlying f.type with | some (.int .i64) => true | _ => false)
theorem IntF.of {f : Field} {off : Nat} (h : intFB P f off = true) : IntF P f off := by
 unfold intFB at h
 simp only [Bool.and_eq_true, bne_iff_ne, beq_iff_eq] at h
 refine ⟨h.1.1.1, h.1.1.2, h.1.2, ?_⟩
 have h2 := h.2
 split at h2
 ·assumption
 ·cases h2
theorem run_equal_int {t : TypeId} (hu : P.underlying t = some (.int .i64)) (d : Nat) (a b : Int) (w : World) : (Op.equalIn (d + 1) t (.int .i64 a) (.int .i64 b)).run P w = .ok (a == b) w := by
 simp [Op.equalIn, run_underlying hu]
theorem KeyT.three {f0 f1 f2 : Field} (hu : P.underlying kt = some (.struct #[f0, f1, f2])) (h0 : IntF P f0 0) (h1 : IntF P f1 1) (h2 : IntF P f2 2) (hs : P.stoodInHeld kt = false) : KeyT P kt enc3 where
 check e w k := by
  unfold enc3
  show (Instr.checkKey e (9998 + 1 + 1) kt _).run P w = _
  rw [Instr.checkKey]
  simp only [Sem.run_bind, run_underlying hu, Result.andThen_ok]
  rw [← Array.forIn_toList]
  have p0 := run_part_plain w h0.plain (xs := #[.int .i64 (k.1 : Int), .int .i64 (k.2.1 : Int), .int .i64 (k.2.2 : Int)]) (off := 0) (v := .int .i64 (k.1 : Int)) rfl
  have p1 := run_part_plain w h1.plain (xs := #[.int .i64 (k.1 : Int), .int .i64 (k.2.1 : Int), .int .i64 (k.2.2 : Int)]) (off := 1) (v := .int .i64 (k.2.1 : Int)) rfl
  have p2 := run_part_plain w h2.plain (xs := #[.int .i64 (k.1 : Int), .int .i64 (k.2.1 : Int), .int .i64 (k.2.2 : Int)]) (off := 2) (v := .int .i64 (k.2.2 : Int)) rfl
  have c0 := MapKept.run_checkKey (w := w) h0.int (k := .int .i64 (k.1 : Int)) (by simp [MapKept.IsKey]) e 9998
  have c1 := MapKept.run_checkKey (w := w) h1.int (k := .int .i64 (k.2.1 : Int)) (by simp [MapKept.IsKey]) e 9998
  have c2 := MapKept.run_checkKey (w := w) h2.int (k := .int .i64 (k.2.2 : Int)) (by simp [MapKept.IsKey]) e 9998
  simp only [List.forIn_cons, List.forIn_nil, h0.name, h1.name, h2.name, h0.offset, h1.offset, h2.offset, ne_eq, not_false_eq_true, if_true, Sem.run_bind, Sem.run_pure, p0, p1, p2, c0, c1, c2, Result.andThen_ok]
 find w k es kvs h := by
  rw [run_findKey_eq w (by rw [hu])]
  refine findAsking_kidx (fun a b => ?_) k es kvs 0 h
  obtain ⟨a1, a2, a3⟩ := a
  obtain ⟨b1, b2, b3⟩ := b
  unfold enc3
  simp only
  show (Op.equalIn (9998 + 1 + 1) kt _ _).run P w = _
  rw [Op.equalIn]
  simp only [Sem.run_bind, run_underlying hu, Result.andThen_ok]
  have p0 := run_part_plain w h0.plain (xs := #[.int .i64 (a1 : Int), .int .i64 (a2 : Int), .int .i64 (a3 : Int)]) (off := 0) (v := .int .i64 (a1 : Int)) rfl
  have p1 := run_part_plain w h1.plain (xs := #[.int .i64 (a1 : Int), .int .i64 (a2 : Int), .int .i64 (a3 : Int)]) (off := 1) (v := .int .i64 (a2 : Int)) rfl
  have p2 := run_part_plain w h2.plain (xs := #[.int .i64 (a1 : Int), .int .i64 (a2 : Int), .int .i64 (a3 : Int)]) (off := 2) (v := .int .i64 (a3 : Int)) rfl
  have q0 := run_part_plain w h0.plain (xs := #[.int .i64 (b1 : Int), .int .i64 (b2 : Int), .int .i64 (b3 : Int)]) (off := 0) (v := .int .i64 (b1 : Int)) rfl
  have q1 := run_part_plain w h1.plain (xs := #[.int .i64 (b1 : Int), .int .i64 (b2 : Int), .int .i64 (b3 : Int)]) (off := 1) (v := .int .i64 (b2 : Int)) rfl
  have q2 := run_part_plain w h2.plain (xs := #[.int .i64 (b1 : Int), .int .i64 (b2 : Int), .int .i64 (b3 : Int)]) (off := 2) (v := .int .i64 (b3 : Int)) rfl
  have e0 := run_equal_int h0.int 9998 (a1 : Int) (b1 : Int) w
  have e1 := run_equal_int h1.int 9998 (a2 : Int) (b2 : Int) w
  have e2 := run_equal_int h2.int 9998 (a3 : Int) (b3 : Int) w
  simp only [run_program, Sem.run_bind, Result.andThen_ok, hs, Bool.false_eq_true, if_false]
  rw [← Array.forIn_toList]
  simp only [List.forIn_cons, List.forIn_nil, h0.name, h1.name, h2.name, h0.offset, h1.offset, h2.offset, ne_eq, not_false_eq_true, if_true, Sem.run_bind, p0, q0, e0, Result.andThen_ok]
  cases c0 : ((a1 : Int) == (b1 : Int)) with
  | false =>
   have : ¬ ((b1, b2, b3) = (a1, a2, a3)) := by
    simp only [beq_eq_false_iff_ne, ne_eq] at c0
    simp only [Prod.mk.injEq]; omega
   simp [this]
  | true =>
   simp only [Bool.not_true, Bool.false_eq_true, if_false, Sem.run_bind, Sem.run_pure, Result.andThen_ok, p1, q1, e1]
   cases c1 : ((a2 : Int) == (b2 : Int)) with
   | false =>
    have : ¬ ((b1, b2, b3) = (a1, a2, a3)) := by
     simp only [beq_eq_false_iff_ne, ne_eq] at c1
     simp only [Prod.mk.injEq]; omega
    simp [this]
   | true =>
    simp only [Bool.not_true, Bool.false_eq_true, if_false, Sem.run_bind, Sem.run_pure, Result.andThen_ok, p2, q2, e2]
    cases c2 : ((a3 : Int) == (b3 : Int)) with
    | false =>
     have : ¬ ((b1, b2, b3) = (a1, a2, a3)) := by
      simp only [beq_eq_false_iff_ne, ne_eq] at c2
      simp only [Prod.mk.injEq]; omega
     simp [this]
    | true =>
     have : (b1, b2, b3) = (a1, a2, a3) := by
      simp only [beq_iff_eq] at c0 c1 c2
      simp only [Prod.mk.injEq]; omega
     simp [this]
 stays w k := by
  have : Instr.sameBits 10000 (enc3 k) (enc3 k) = true := by
   unfold enc3
   show Instr.sameBits (9999 + 1) _ _ = true
   simp [Instr.sameBits]
  simp [Instr.keyThatStays, this]
def threeB (P : Program) (kt : TypeId) : Bool := match P.underlying kt with
 | some (.struct fs) => (match fs with
  | ⟨[f0, f1, f2]⟩ => intFB P f0 0 && intFB P f1 1 && intFB P f2 2 && !P.stoodInHeld kt
  | _ => false)
 | _ => false
theorem KeyT.threeOf (h : threeB P kt = true) : KeyT P kt enc3 := by
 unfold threeB at h
 split at h
 ·rename_i fs hu
  split at h
  ·rename_i f0 f1 f2
   simp only [Bool.and_eq_true, Bool.not_eq_true'] at h
   exact KeyT.three hu (IntF.of h.1.1.1) (IntF.of h.1.1.2) (IntF.of h.1.2) h.2
  ·cases h
 ·cases h
theorem KeyT.two {e : TypeId} {i : TypeInfo} (hu : P.underlying kt = some (.array 2 e)) (he : P.underlying e = some (.int .i64)) (hp : P.plainKey e = true) (hi : P.info? e = some i) (hc : P.cellsOf e = 1) : KeyT P kt enc2 where
 check em w k := by
  unfold enc2
  show (Instr.checkKey em (9998 + 1 + 1) kt _).run P w = _
  rw [Instr.checkKey]
  have p0 := run_part_plain w hp (xs := #[.int .i64 (k.1 : Int), .int .i64 (k.2 : Int)]) (off := 0) (v := .int .i64 (k.1 : Int)) rfl
  have p1 := run_part_plain w hp (xs := #[.int .i64 (k.1 : Int), .int .i64 (k.2 : Int)]) (off := 1) (v := .int .i64 (k.2 : Int)) rfl
  simp only [Sem.run_bind, run_underlying hu, Result.andThen_ok]
  have hsz := Go.run_sizeOf w hi
  rw [hc] at hsz
  simp only [Std.Legacy.Range.forIn_eq_forIn_range', Std.Legacy.Range.size, Nat.sub_zero, Nat.add_one_sub_one, Nat.div_one]
  rw [show List.range' 0 2 = [0, 1] from rfl]
  have c0 := MapKept.run_checkKey (w := w) he (k := .int .i64 (k.1 : Int)) (by simp [MapKept.IsKey]) em 9998
  have c1 := MapKept.run_checkKey (w := w) he (k := .int .i64 (k.2 : Int)) (by simp [MapKept.IsKey]) em 9998
  simp only [List.forIn_cons, List.forIn_nil, Sem.run_bind, hsz, Result.andThen_ok, Nat.zero_mul, Nat.one_mul, p0, p1, c0, c1, Sem.run_pure]
 find w k es kvs h := by
  rw [run_findKey_eq w (by rw [hu])]
  refine findAsking_kidx (fun a b => ?_) k es kvs 0 h
  obtain ⟨a1, a2⟩ := a
  obtain ⟨b1, b2⟩ := b
  unfold enc2
  simp only
  show (Op.equalIn (9998 + 1 + 1) kt _ _).run P w = _
  have p0 := run_part_plain w hp (xs := #[.int .i64 (a1 : Int), .int .i64 (a2 : Int)]) (off := 0) (v := .int .i64 (a1 : Int)) rfl
  have p1 := run_part_plain w hp (xs := #[.int .i64 (a1 : Int), .int .i64 (a2 : Int)]) (off := 1) (v := .int .i64 (a2 : Int)) rfl
  have q0 := run_part_plain w hp (xs := #[.int .i64 (b1 : Int), .int .i64 (b2 : Int)]) (off := 0) (v := .int .i64 (b1 : Int)) rfl
  have q1 := run_part_plain w hp (xs := #[.int .i64 (b1 : Int), .int .i64 (b2 : Int)]) (off := 1) (v := .int .i64 (b2 : Int)) rfl
  have e0 := run_equal_int he 9998 (a1 : Int) (b1 : Int) w
  have e1 := run_equal_int he 9998 (a2 : Int) (b2 : Int) w
  rw [run_equalIn_array w _ _ _ hu hi, hc]
  show (Op.eqItems _ _ _ _ _ [0, 1]).run P w = _
  simp only [Op.eqItems, Sem.run_bind, Nat.zero_mul, Nat.one_mul, p0, p1, q0, q1, e0, e1, Result.andThen_ok]
  cases c0 : ((a1 : Int) == (b1 : Int)) with
  | false =>
   have : ¬ ((b1, b2) = (a1, a2)) := by
    simp only [beq_eq_false_iff_ne, ne_eq] at c0
    simp only [Prod.mk.injEq]; omega
   simp [this]
  | true =>
   simp only [Bool.not_true, Bool.false_eq_true, if_false, Sem.run_bind, Sem.run_pure, Result.andThen_ok, p1, q1, e1]
   cases c1 : ((a2 : Int) == (b2 : Int)) with
   | false =>
    have : ¬ ((b1, b2) = (a1, a2)) := by
     simp only [beq_eq_false_iff_ne, ne_eq] at c1
     simp only [Prod.mk.injEq]; omega
    simp [this]
   | true =>
    have : (b1, b2) = (a1, a2) := by
     simp only [beq_iff_eq] at c0 c1
     simp only [Prod.mk.injEq]; omega
    simp [this]
 stays w k := by
  have : Instr.sameBits 10000 (enc2 k) (enc2 k) = true := by
   unfold enc2
   show Instr.sameBits (9999 + 1) _ _ = true
   simp [Instr.sameBits]
  simp [Instr.keyThatStays, this]
def twoB (P : Program) (kt : TypeId) : Bool := match P.underlying kt with
 | some (.array 2 e) => P.plainKey e && P.cellsOf e == 1 && (match P.underlying e with | some (.int .i64) => true | _ => false) && (P.info? e).isSome
 | _ => false
theorem KeyT.twoOf (h : twoB P kt = true) : KeyT P kt enc2 := by
 unfold twoB at h
 split at h
 ·rename_i e hu
  simp only [Bool.and_eq_true, beq_iff_eq] at h
  have h2 := h.1.2
  split at h2
  ·rename_i he
   obtain ⟨i, hi⟩ := Option.isSome_iff_exists.1 h.2
   exact KeyT.two hu he h.1.1.1 hi h.1.1.2
  ·cases h2
 ·cases h
end
end Go.Eng
namespace Dg
theorem snocInd {α : Type} {motive : List α → Prop} (nil : motive []) (append_singleton : ∀ l x, motive l → motive (l ++ [x])) (l : List α) : motive l := by
 have h : ∀ m : List α, motive m.reverse := by
  intro m
  induction m with
  | nil => exact nil
  | cons x m ih => rw [List.reverse_cons]; exact append_singleton _ _ ih
 have := h l.reverse
 rwa [List.reverse_reverse] at this
inductive BT where
 | lf (b : Bool)
 | nd (v : Nat) (lo hi : BT)
def BT.beq : BT → BT → Bool
 | .lf a, .lf b => a == b
 | .nd v a b, .nd u c d => v == u && BT.beq a c && BT.beq b d
 | _, _ => false
theorem BT.beq_iff : ∀ {s t : BT}, BT.beq s t = true ↔ s = t
 | .lf a, .lf b => by simp [BT.beq]
 | .nd v a b, .nd u c d => by
  simp only [BT.beq, Bool.and_eq_true, BT.beq_iff (s := a), BT.beq_iff (s := b), beq_iff_eq, BT.nd.injEq, and_assoc]
 | .lf a, .nd u c d => by simp [BT.beq]
 | .nd v a b, .lf c => by simp [BT.beq]
theorem BT.beq_self (t : BT) : BT.beq t t = true := BT.beq_iff.2 rfl
abbrev Cf := Nat → Bool
def BT.ev : BT → Cf → Bool
 | .lf b, _ => b
 | .nd v lo hi, c => bif c v then hi.ev c else lo.ev c
def BT.ok : Nat → BT → Prop
 | _, .lf _ => True
 | m, .nd v lo hi => m ≤ v ∧ v < 24 ∧ lo ≠ hi ∧ lo.ok (v + 1) ∧ hi.ok (v + 1)
theorem BT.ok_mono : ∀ {t : BT} {m n : Nat}, t.ok n → m ≤ n → t.ok m
 | .lf _, _, _, _, _ => trivial
 | .nd v lo hi, m, n, h, hm => ⟨Nat.le_trans hm h.1, h.2⟩
def BT.size : BT → Nat
 | .lf _ => 0
 | .nd _ lo hi => lo.size + hi.size + 1
theorem BT.size_le : ∀ {t : BT} {m : Nat}, t.ok m → m ≤ 24 → t.size + 1 ≤ 2 ^ (24 - m)
 | .lf _, m, _, _ => Nat.one_le_two_pow
 | .nd v lo hi, m, h, hm => by
  obtain ⟨h1, h2, _, h4, h5⟩ := h
  have a := BT.size_le h4 (by omega)
  have b := BT.size_le h5 (by omega)
  have e : 2 ^ (24 - v) = 2 ^ (24 - (v + 1)) + 2 ^ (24 - (v + 1)) := by
   rw [show 24 - v = (24 - (v + 1)) + 1 by omega, Nat.pow_succ]; omega
  have l : 2 ^ (24 - v) ≤ 2 ^ (24 - m) := Nat.pow_le_pow_right (by decide) (by omega)
  simp only [BT.size]; omega
theorem BT.ev_above : ∀ {t : BT} {m : Nat} {c d : Cf}, t.ok m → (∀ i, m ≤ i → i < 24 → c i = d i) → t.ev c = t.ev d
 | .lf _, _, _, _, _, _ => rfl
 | .nd v lo hi, m, c, d, h, he => by
  obtain ⟨h1, h2, _, h4, h5⟩ := h
  have a := BT.ev_above h4 (fun i hi h24 => he i (by omega) h24)
  have b := BT.ev_above h5 (fun i hi h24 => he i (by omega) h24)
  simp only [BT.ev, he v h1 h2, a, b]
def upd (c : Cf) (v : Nat) (b : Bool) : Cf := fun i => if i = v then b else c i
theorem upd_self (c : Cf) (v : Nat) (b : Bool) : upd c v b v = b := if_pos rfl
theorem upd_ne (c : Cf) {v i : Nat} (b : Bool) (h : i ≠ v) : upd c v b i = c i := if_neg h
theorem BT.ev_upd {t : BT} {m v : Nat} (h : t.ok m) (hv : v < m) (c : Cf) (b : Bool) : t.ev (upd c v b) = t.ev c :=
 BT.ev_above h (fun i hi _ => upd_ne _ _ (by omega))
theorem BT.ev_lo {v : Nat} {lo hi : BT} {m : Nat} (h : (BT.nd v lo hi).ok m) (c : Cf) : (BT.nd v lo hi).ev (upd c v false) = lo.ev c := by
 simp only [BT.ev, upd_self, cond_false]
 exact BT.ev_upd h.2.2.2.1 (Nat.lt_succ_self _) c false
theorem BT.ev_hi {v : Nat} {lo hi : BT} {m : Nat} (h : (BT.nd v lo hi).ok m) (c : Cf) : (BT.nd v lo hi).ev (upd c v true) = hi.ev c := by
 simp only [BT.ev, upd_self, cond_true]
 exact BT.ev_upd h.2.2.2.2 (Nat.lt_succ_self _) c true
theorem BT.unique : ∀ {s t : BT} {m n : Nat}, s.ok m → t.ok n → (∀ c, s.ev c = t.ev c) → s = t
 | .lf a, .lf b, _, _, _, _, he => by have := he (fun _ => false); simp only [BT.ev] at this; rw [this]
 | .lf a, .nd u c d, m, n, hs, ht, he => by
  refine absurd ?_ ht.2.2.1
  refine BT.unique ht.2.2.2.1 ht.2.2.2.2 (fun x => ?_)
  rw [← BT.ev_lo ht x, ← BT.ev_hi ht x, ← he, ← he]; rfl
 | .nd u c d, .lf a, m, n, hs, ht, he => by
  refine absurd ?_ hs.2.2.1
  refine BT.unique hs.2.2.2.1 hs.2.2.2.2 (fun x => ?_)
  rw [← BT.ev_lo hs x, ← BT.ev_hi hs x, he, he]; rfl
 | .nd v a b, .nd u c d, m, n, hs, ht, he => by
  rcases Nat.lt_trichotomy v u with h | h | h
  ·refine absurd ?_ hs.2.2.1
   refine BT.unique hs.2.2.2.1 hs.2.2.2.2 (fun x => ?_)
   have ht' : (BT.nd u c d).ok (v + 1) := BT.ok_mono (m := v + 1) (n := u) ⟨Nat.le_refl _, ht.2⟩ h
   rw [← BT.ev_lo hs x, ← BT.ev_hi hs x, he, he, BT.ev_upd ht' (Nat.lt_succ_self _), BT.ev_upd ht' (Nat.lt_succ_self _)]
  ·subst h
   have h1 : a = c := BT.unique hs.2.2.2.1 ht.2.2.2.1 (fun x => by rw [← BT.ev_lo hs x, ← BT.ev_lo ht x, he])
   have h2 : b = d := BT.unique hs.2.2.2.2 ht.2.2.2.2 (fun x => by rw [← BT.ev_hi hs x, ← BT.ev_hi ht x, he])
   rw [h1, h2]
  ·refine absurd ?_ ht.2.2.1
   refine BT.unique ht.2.2.2.1 ht.2.2.2.2 (fun x => ?_)
   have hs' : (BT.nd v a b).ok (u + 1) := BT.ok_mono (m := u + 1) (n := v) ⟨Nat.le_refl _, hs.2⟩ h
   rw [← BT.ev_lo ht x, ← BT.ev_hi ht x, ← he, ← he, BT.ev_upd hs' (Nat.lt_succ_self _), BT.ev_upd hs' (Nat.lt_succ_self _)]
termination_by s t => s.size + t.size
decreasing_by all_goals simp only [BT.size]; omega
def mkN (v : Nat) (a b : BT) : BT := bif BT.beq a b then a else .nd v a b
theorem mkN_same (v : Nat) (a : BT) : mkN v a a = a := by simp [mkN, BT.beq_self]
theorem mkN_ne {v : Nat} {a b : BT} (h : a ≠ b) : mkN v a b = .nd v a b := by
 have : BT.beq a b = false := by
  cases hb : BT.beq a b with
  | true => exact absurd (BT.beq_iff.1 hb) h
  | false => rfl
 simp [mkN, this]
theorem mkN_ok {v m : Nat} {a b : BT} (hm : m ≤ v) (hv : v < 24) (ha : a.ok (v + 1)) (hb : b.ok (v + 1)) : (mkN v a b).ok m := by
 by_cases h : a = b
 ·subst h; rw [mkN_same]; exact BT.ok_mono ha (by omega)
 ·rw [mkN_ne h]; exact ⟨hm, hv, h, ha, hb⟩
theorem mkN_ev (v : Nat) (a b : BT) (c : Cf) : (mkN v a b).ev c = bif c v then b.ev c else a.ev c := by
 by_cases h : a = b
 ·subst h; rw [mkN_same]; cases c v <;> rfl
 ·rw [mkN_ne h]; rfl
abbrev Dec := Nat × Nat × Nat
theorem getD_left {α : Type} {a b : List α} {d : α} {n : Nat} (h : n < a.length) : (a ++ b).getD n d = a.getD n d := by
 simp [List.getD, List.getElem?_append_left h]
theorem getD_right {α : Type} {a b : List α} {d : α} {n : Nat} (h : a.length ≤ n) : (a ++ b).getD n d = b.getD (n - a.length) d := by
 simp [List.getD, List.getElem?_append_right h]
def tabT (l : List Dec) : List BT := l.foldl (fun out x => out ++ [.nd x.1 (out.getD x.2.1 (.lf false)) (out.getD x.2.2 (.lf false))]) [.lf false, .lf true]
def trs (l : List Dec) (p : Nat) : BT := (tabT l).getD p (.lf false)
theorem tabT_snoc (l : List Dec) (x : Dec) : tabT (l ++ [x]) = tabT l ++ [.nd x.1 (trs l x.2.1) (trs l x.2.2)] := by
 simp only [tabT, trs, List.foldl_append, List.foldl_cons, List.foldl_nil]
theorem tabT_len : ∀ l : List Dec, (tabT l).length = l.length + 2 := by
 intro l
 induction l using snocInd with
 | nil => rfl
 | append_singleton l x ih => rw [tabT_snoc, List.length_append, ih]; simp
theorem trs_zero (l : List Dec) : trs l 0 = .lf false ∧ trs l 1 = .lf true := by
 induction l using snocInd with
 | nil => exact ⟨rfl, rfl⟩
 | append_singleton l x ih =>
  have := tabT_len l
  unfold trs at ih ⊢
  rw [tabT_snoc, getD_left (by omega), getD_left (by omega)]
  exact ih
theorem trs_snoc_old {l : List Dec} {x : Dec} {p : Nat} (h : p < l.length + 2) : trs (l ++ [x]) p = trs l p := by
 unfold trs; rw [tabT_snoc, getD_left (by rw [tabT_len]; exact h)]
theorem trs_snoc_new (l : List Dec) (x : Dec) : trs (l ++ [x]) (l.length + 2) = .nd x.1 (trs l x.2.1) (trs l x.2.2) := by
 conv => lhs; unfold trs
 rw [tabT_snoc, getD_right (by rw [tabT_len]; exact Nat.le_refl _), tabT_len]
 simp
theorem trs_append {l m : List Dec} {p : Nat} (h : p < l.length + 2) : trs (l ++ m) p = trs l p := by
 induction m using snocInd with
 | nil => rw [List.append_nil]
 | append_singleton m x ih => rw [← List.append_assoc, trs_snoc_old (by rw [List.length_append]; omega), ih]
structure Mk (l : List Dec) : Prop where
 kid : ∀ k x, l[k]? = some x → x.1 < 24 ∧ x.2.1 < k + 2 ∧ x.2.2 < k + 2 ∧ x.2.1 ≠ x.2.2
 nodup : l.Nodup
theorem Mk.nil : Mk [] := ⟨by simp, List.nodup_nil⟩
theorem Mk.init {l : List Dec} {x : Dec} (h : Mk (l ++ [x])) : Mk l :=
 ⟨fun k y hy => h.kid k y (by rw [List.getElem?_append_left (List.getElem?_eq_some_iff.1 hy).1]; exact hy), (List.nodup_append.1 h.nodup).1⟩
theorem Mk.last {l : List Dec} {x : Dec} (h : Mk (l ++ [x])) : x.1 < 24 ∧ x.2.1 < l.length + 2 ∧ x.2.2 < l.length + 2 ∧ x.2.1 ≠ x.2.2 := h.kid l.length x (by simp)
theorem Mk.snoc {l : List Dec} {x : Dec} (h : Mk l) (hx : x.1 < 24 ∧ x.2.1 < l.length + 2 ∧ x.2.2 < l.length + 2 ∧ x.2.1 ≠ x.2.2) (hn : x ∉ l) : Mk (l ++ [x]) := by
 refine ⟨fun k y hy => ?_, List.nodup_append.2 ⟨h.nodup, by simp, fun a ha b hb => ?_⟩⟩
 ·by_cases hk : k < l.length
  ·rw [List.getElem?_append_left hk] at hy; exact h.kid k y hy
  ·have hlt := (List.getElem?_eq_some_iff.1 hy).1
   simp at hlt
   have e : k = l.length := by omega
   subst e
   simp at hy
   subst hy; exact hx
 ·simp only [List.mem_singleton] at hb
  subst hb
  exact fun e => hn (e ▸ ha)
theorem Mk.at {l : List Dec} : Mk l → ∀ {k : Nat} {x : Dec}, l[k]? = some x → trs l (k + 2) = .nd x.1 (trs l x.2.1) (trs l x.2.2) := by
 induction l using snocInd with
 | nil => intro _ k x h; simp at h
 | append_singleton l y ih =>
  intro h k x hx
  by_cases hk : k < l.length
  ·rw [List.getElem?_append_left hk] at hx
   have hb := h.init.kid k x hx
   rw [trs_snoc_old (by omega), trs_snoc_old (by omega), trs_snoc_old (by omega)]
   exact ih h.init hx
  ·have hlt := (List.getElem?_eq_some_iff.1 hx).1
   simp at hlt
   have e : k = l.length := by omega
   subst e
   simp at hx
   subst hx
   have hb := h.last
   rw [trs_snoc_new, trs_snoc_old hb.2.1, trs_snoc_old hb.2.2.1]
theorem Mk.lf {l : List Dec} (h : Mk l) {p : Nat} {b : Bool} (hp : p < l.length + 2) (he : trs l p = .lf b) : p < 2 := by
 rcases Nat.lt_or_ge p 2 with h2 | h2
 ·exact h2
 ·obtain ⟨k, rfl⟩ : ∃ k, p = k + 2 := ⟨p - 2, by omega⟩
  have hk : k < l.length := by omega
  rw [h.at (List.getElem?_eq_getElem hk)] at he
  cases he
theorem Mk.inj {l : List Dec} : Mk l → ∀ {p q : Nat}, p < l.length + 2 → q < l.length + 2 → trs l p = trs l q → p = q := by
 induction l using snocInd with
 | nil =>
  intro _ p q hp hq he
  simp at hp hq
  have h0 := (trs_zero ([] : List Dec)).1
  have h1 := (trs_zero ([] : List Dec)).2
  rcases p with _ | _ | p <;> rcases q with _ | _ | q <;> first | rfl | omega | skip
  ·rw [h0, h1] at he; simp at he
  ·rw [h0, h1] at he; simp at he
 | append_singleton l y ih =>
  intro h p q hp hq he
  have hlast := h.last
  have key : ∀ p, p < l.length + 2 → trs (l ++ [y]) p ≠ trs (l ++ [y]) (l.length + 2) := by
   intro p hp he
   rw [trs_snoc_old hp, trs_snoc_new] at he
   rcases Nat.lt_or_ge p 2 with h2 | h2
   ·rcases p with _ | _ | p
    ·rw [(trs_zero l).1] at he; cases he
    ·rw [(trs_zero l).2] at he; cases he
    ·omega
   ·obtain ⟨k, rfl⟩ : ∃ k, p = k + 2 := ⟨p - 2, by omega⟩
    have hk : k < l.length := by omega
    have hx := List.getElem?_eq_getElem hk
    have hb := h.init.kid k _ hx
    rw [h.init.at hx] at he
    simp only [BT.nd.injEq] at he
    obtain ⟨e1, e2, e3⟩ := he
    have e2' := ih h.init (by omega) (by omega) e2
    have e3' := ih h.init (by omega) (by omega) e3
    have e : l[k] = y := Prod.ext e1 (Prod.ext e2' e3')
    have := (List.nodup_append.1 h.nodup).2.2 l[k] (List.getElem_mem hk) y (by simp)
    exact this e
  simp only [List.length_append, List.length_cons, List.length_nil] at hp hq
  rcases Nat.lt_or_ge p (l.length + 2) with hp' | hp' <;> rcases Nat.lt_or_ge q (l.length + 2) with hq' | hq'
  ·rw [trs_snoc_old hp', trs_snoc_old hq'] at he
   exact ih h.init hp' hq' he
  ·have e : q = l.length + 2 := by omega
   subst e
   exact absurd he (key p hp')
  ·have e : p = l.length + 2 := by omega
   subst e
   exact absurd he.symm (key q hq')
  ·omega
def look (out : List Dec) (t : BT) : Option Nat := (List.range (out.length + 2)).find? fun p => BT.beq (trs out p) t
theorem look_some {out : List Dec} {t : BT} {p : Nat} (h : look out t = some p) : p < out.length + 2 ∧ trs out p = t := by
 unfold look at h
 have h1 := List.mem_of_find?_eq_some h
 have h2 := List.find?_some h
 exact ⟨List.mem_range.1 h1, BT.beq_iff.1 h2⟩
theorem look_none {out : List Dec} {t : BT} (h : look out t = none) : ∀ p, p < out.length + 2 → trs out p ≠ t := by
 unfold look at h
 intro p hp he
 have := List.find?_eq_none.1 h p (List.mem_range.2 hp)
 simp [he, BT.beq_self] at this
theorem look_eq {out : List Dec} (hm : Mk out) {t : BT} {p : Nat} (hp : p < out.length + 2) (he : trs out p = t) : look out t = some p := by
 cases h : look out t with
 | none => exact absurd he (look_none h p hp)
 | some q =>
  obtain ⟨h1, h2⟩ := look_some h
  rw [hm.inj h1 hp (h2.trans he.symm)]
def visitT : BT → List Dec → List Dec × Nat
 | .lf b, out => (out, bif b then 1 else 0)
 | .nd v lo hi, out => match look out (.nd v lo hi) with
  | some p => (out, p)
  | none => ((visitT hi (visitT lo out).1).1 ++ [(v, (visitT lo out).2, (visitT hi (visitT lo out).1).2)], (visitT hi (visitT lo out).1).1.length + 2)
def canon (t : BT) : List Dec × Nat := visitT t []
theorem visitT_pre : ∀ (t : BT) (out : List Dec), ∃ r, (visitT t out).1 = out ++ r
 | .lf b, out => ⟨[], by simp [visitT]⟩
 | .nd v lo hi, out => by
  unfold visitT
  cases look out (.nd v lo hi) with
  | some p => exact ⟨[], by simp⟩
  | none =>
   obtain ⟨r1, h1⟩ := visitT_pre lo out
   obtain ⟨r2, h2⟩ := visitT_pre hi (visitT lo out).1
   exact ⟨r1 ++ r2 ++ [(v, (visitT lo out).2, (visitT hi (visitT lo out).1).2)], by simp only; rw [h2, h1]; simp⟩
theorem visitT_len (t : BT) (out : List Dec) : out.length ≤ (visitT t out).1.length := by
 obtain ⟨r, h⟩ := visitT_pre t out
 rw [h]; simp
theorem visitT_at : ∀ (t : BT) (out : List Dec), (visitT t out).2 < (visitT t out).1.length + 2 ∧ trs (visitT t out).1 (visitT t out).2 = t
 | .lf b, out => by
  cases b with
  | false => exact ⟨by simp [visitT], (trs_zero out).1⟩
  | true => exact ⟨by simp [visitT], (trs_zero out).2⟩
 | .nd v lo hi, out => by
  unfold visitT
  cases h : look out (.nd v lo hi) with
  | some p => exact look_some h
  | none =>
   obtain ⟨a1, a2⟩ := visitT_at lo out
   obtain ⟨b1, b2⟩ := visitT_at hi (visitT lo out).1
   obtain ⟨r, hr⟩ := visitT_pre hi (visitT lo out).1
   refine ⟨by simp, ?_⟩
   simp only
   rw [trs_snoc_new, b2]
   rw [hr, trs_append a1, a2]
theorem visitT_new : ∀ (t : BT) (out : List Dec) (p : Nat), p < (visitT t out).1.length + 2 → p < out.length + 2 ∨ (trs (visitT t out).1 p).size ≤ t.size
 | .lf b, out, p, h => .inl h
 | .nd v lo hi, out, p, h => by
  unfold visitT at h ⊢
  cases hl : look out (.nd v lo hi) with
  | some q => rw [hl] at h; exact .inl h
  | none =>
   rw [hl] at h
   simp only [List.length_append, List.length_cons, List.length_nil] at h ⊢
   by_cases hp : p = (visitT hi (visitT lo out).1).1.length + 2
   ·right
    subst hp
    obtain ⟨a1, a2⟩ := visitT_at lo out
    obtain ⟨b1, b2⟩ := visitT_at hi (visitT lo out).1
    obtain ⟨r, hr⟩ := visitT_pre hi (visitT lo out).1
    rw [trs_snoc_new, b2]
    have : trs (visitT hi (visitT lo out).1).1 (visitT lo out).2 = lo := by rw [hr, trs_append a1, a2]
    simp only [this]
    exact Nat.le_refl _
   ·have hp' : p < (visitT hi (visitT lo out).1).1.length + 2 := by omega
    rw [trs_snoc_old hp']
    rcases visitT_new hi (visitT lo out).1 p hp' with h2 | h2
    ·rcases visitT_new lo out p h2 with h3 | h3
     ·exact .inl h3
     ·obtain ⟨r, hr⟩ := visitT_pre hi (visitT lo out).1
      rw [hr, trs_append h2]
      right; simp only [BT.size]; omega
    ·right; simp only [BT.size]; omega
theorem visitT_fresh {v : Nat} {lo hi : BT} {out : List Dec} (h : look out (.nd v lo hi) = none) : ∀ p, p < (visitT hi (visitT lo out).1).1.length + 2 → trs (visitT hi (visitT lo out).1).1 p ≠ .nd v lo hi := by
 intro p hp he
 rcases visitT_new hi (visitT lo out).1 p hp with h2 | h2
 ·rcases visitT_new lo out p h2 with h3 | h3
  ·obtain ⟨r1, h1⟩ := visitT_pre lo out
   obtain ⟨r2, h4⟩ := visitT_pre hi (visitT lo out).1
   rw [h4, trs_append h2, h1, trs_append h3] at he
   exact look_none h p h3 he
  ·obtain ⟨r, hr⟩ := visitT_pre hi (visitT lo out).1
   rw [hr, trs_append h2] at he
   rw [he] at h3
   simp only [BT.size] at h3; omega
 ·rw [he] at h2
  simp only [BT.size] at h2; omega
theorem visitT_mk : ∀ {t : BT} {m : Nat} {out : List Dec}, t.ok m → Mk out → Mk (visitT t out).1
 | .lf b, _, out, _, h => h
 | .nd v lo hi, m, out, ht, h => by
  unfold visitT
  cases hl : look out (.nd v lo hi) with
  | some q => exact h
  | none =>
   have h1 := visitT_mk ht.2.2.2.1 h
   have h2 := visitT_mk ht.2.2.2.2 h1
   obtain ⟨a1, a2⟩ := visitT_at lo out
   obtain ⟨b1, b2⟩ := visitT_at hi (visitT lo out).1
   obtain ⟨r, hr⟩ := visitT_pre hi (visitT lo out).1
   have a2' : trs (visitT hi (visitT lo out).1).1 (visitT lo out).2 = lo := by rw [hr, trs_append a1, a2]
   have a1' : (visitT lo out).2 < (visitT hi (visitT lo out).1).1.length + 2 := Nat.lt_of_lt_of_le a1 (by have := visitT_len hi (visitT lo out).1; omega)
   refine h2.snoc ⟨ht.2.1, a1', b1, fun e => ?_⟩ (fun hm => ?_)
   ·simp only at e
    rw [e, b2] at a2'
    exact ht.2.2.1 a2'.symm
   ·obtain ⟨k, hk⟩ := List.getElem?_of_mem hm
    have := h2.at hk
    simp only at this
    rw [a2', b2] at this
    have hlt := (List.getElem?_eq_some_iff.1 hk).1
    exact visitT_fresh hl (k + 2) (by omega) this
theorem visitT_grow : ∀ (t : BT) (out : List Dec), (visitT t out).1.length ≤ out.length + t.size
 | .lf b, out => Nat.le_refl _
 | .nd v lo hi, out => by
  unfold visitT
  cases look out (.nd v lo hi) with
  | some q => simp
  | none =>
   have h1 := visitT_grow lo out
   have h2 := visitT_grow hi (visitT lo out).1
   simp only [List.length_append, List.length_cons, List.length_nil, BT.size]; omega
theorem canon_mk {t : BT} {m : Nat} (h : t.ok m) : Mk (canon t).1 := visitT_mk h Mk.nil
theorem canon_at (t : BT) : (canon t).2 < (canon t).1.length + 2 ∧ trs (canon t).1 (canon t).2 = t := visitT_at t []
theorem canon_len {t : BT} (h : t.ok 0) : (canon t).1.length < 16777216 := by
 have h1 := visitT_grow t []
 have h2 := BT.size_le h (by decide)
 have h3 : (canon t).1.length ≤ t.size := by simpa [canon] using h1
 have : (2 : Nat) ^ (24 - 0) = 16777216 := by decide
 omega
end Dg
namespace Dg
def KnowsL (l : List Dec) (f : Dec → Option Nat) : Prop := ∀ x p, f x = some p ↔ ∃ k, p = k + 2 ∧ l[k]? = some x
theorem KnowsL.nil : KnowsL [] (fun _ => none) := fun x p => by simp
theorem KnowsL.snoc {l : List Dec} {f : Dec → Option Nat} (h : KnowsL l f) (x : Dec) (hx : f x = none) : KnowsL (l ++ [x]) (fun y => if y = x then some (l.length + 2) else f y) := by
 intro y p
 by_cases he : y = x
 ·subst he
  simp only [if_pos]
  constructor
  ·intro e
   cases e
   exact ⟨l.length, rfl, by simp⟩
  ·rintro ⟨k, rfl, hk⟩
   by_cases hl : k < l.length
   ·rw [List.getElem?_append_left hl] at hk
    have := (h y (k + 2)).2 ⟨k, rfl, hk⟩
    rw [hx] at this; cases this
   ·have := (List.getElem?_eq_some_iff.1 hk).1
    simp at this
    have e : k = l.length := by omega
    rw [e]
 ·simp only [if_neg he]
  rw [h y p]
  constructor
  ·rintro ⟨k, rfl, hk⟩
   exact ⟨k, rfl, by rw [List.getElem?_append_left (List.getElem?_eq_some_iff.1 hk).1]; exact hk⟩
  ·rintro ⟨k, rfl, hk⟩
   by_cases hl : k < l.length
   ·exact ⟨k, rfl, by rw [List.getElem?_append_left hl] at hk; exact hk⟩
   ·have := (List.getElem?_eq_some_iff.1 hk).1
    simp at this
    have e : k = l.length := by omega
    subst e
    simp at hk
    exact absurd hk.symm he
structure MadeN (l l' : List Dec) (p : Nat) (t : BT) : Prop where
 ismk : Mk l'
 pre : ∃ r, l' = l ++ r
 lt : p < l'.length + 2
 tree : trs l' p = t
theorem MadeN.len {l l' : List Dec} {p : Nat} {t : BT} (h : MadeN l l' p t) : l.length ≤ l'.length := by
 obtain ⟨r, e⟩ := h.pre
 rw [e]; simp
theorem MadeN.old {l l' : List Dec} {p q : Nat} {t : BT} (h : MadeN l l' p t) (hq : q < l.length + 2) : trs l' q = trs l q := by
 obtain ⟨r, e⟩ := h.pre
 rw [e, trs_append hq]
theorem MadeN.same {l : List Dec} (h : Mk l) {i p : Nat} (hp : p < l.length + 2) : MadeN l l p (mkN i (trs l p) (trs l p)) :=
 ⟨h, ⟨[], by simp⟩, hp, by rw [mkN_same]⟩
theorem MadeN.known {l : List Dec} {f : Dec → Option Nat} (h : Mk l) (hf : KnowsL l f) {i lo hi p : Nat} (hne : lo ≠ hi) (hlo : lo < l.length + 2) (hhi : hi < l.length + 2) (hp : f (i, lo, hi) = some p) : MadeN l l p (mkN i (trs l lo) (trs l hi)) := by
 obtain ⟨k, rfl, hk⟩ := (hf _ _).1 hp
 have hlt := (List.getElem?_eq_some_iff.1 hk).1
 refine ⟨h, ⟨[], by simp⟩, by omega, ?_⟩
 rw [h.at hk, mkN_ne (fun e => hne (h.inj hlo hhi e))]
theorem MadeN.new {l : List Dec} {f : Dec → Option Nat} (h : Mk l) (hf : KnowsL l f) {i lo hi : Nat} (hi24 : i < 24) (hne : lo ≠ hi) (hlo : lo < l.length + 2) (hhi : hi < l.length + 2) (hp : f (i, lo, hi) = none) : MadeN l (l ++ [(i, lo, hi)]) (l.length + 2) (mkN i (trs l lo) (trs l hi)) := by
 have hn : (i, lo, hi) ∉ l := by
  intro hm
  obtain ⟨k, hk⟩ := List.getElem?_of_mem hm
  have := (hf _ _).2 ⟨k, rfl, hk⟩
  rw [hp] at this; cases this
 refine ⟨h.snoc ⟨hi24, hlo, hhi, hne⟩ hn, ⟨_, rfl⟩, by simp, ?_⟩
 rw [trs_snoc_new, mkN_ne (fun e => hne (h.inj hlo hhi e))]
theorem MadeN.trans {l l' l'' : List Dec} {p q : Nat} {s t : BT} (h : MadeN l l' p s) (h' : MadeN l' l'' q t) : MadeN l l'' q t := by
 obtain ⟨r, e⟩ := h.pre
 obtain ⟨r', e'⟩ := h'.pre
 exact ⟨h'.ismk, ⟨r ++ r', by rw [e', e, List.append_assoc]⟩, h'.lt, h'.tree⟩
def PlaceOk (l o : List Dec) (f : Nat → Option Nat) : Prop := ∀ r p, r < l.length + 2 → (f r = some p ↔ p < o.length + 2 ∧ trs o p = trs l r)
theorem PlaceOk.nil {l : List Dec} (h : Mk l) : PlaceOk l [] (fun r => if r = 1 then some 1 else if r = 0 then some 0 else none) := by
 intro r p hr
 have z := trs_zero ([] : List Dec)
 have z' := trs_zero l
 by_cases h1 : r = 1
 ·subst h1
  simp only [if_pos, z'.2, List.length_nil]
  constructor
  ·intro e; cases e; exact ⟨by omega, z.2⟩
  ·rintro ⟨hp, e⟩
   have : p = 1 := by
    rcases p with _ | _ | p
    ·rw [z.1] at e; cases e
    ·rfl
    ·omega
   rw [this]
 ·by_cases h0 : r = 0
  ·subst h0
   simp only [if_pos, if_neg h1, z'.1, List.length_nil]
   constructor
   ·intro e; cases e; exact ⟨by omega, z.1⟩
   ·rintro ⟨hp, e⟩
    have : p = 0 := by
     rcases p with _ | _ | p
     ·rfl
     ·rw [z.2] at e; cases e
     ·omega
    rw [this]
  ·simp only [if_neg h1, if_neg h0]
   constructor
   ·intro e; cases e
   ·rintro ⟨hp, e⟩
    exfalso
    simp only [List.length_nil] at hp
    rcases p with _ | _ | p
    ·rw [z.1] at e; have := h.lf hr e.symm; omega
    ·rw [z.2] at e; have := h.lf hr e.symm; omega
    ·omega
theorem PlaceOk.hit {l o : List Dec} {f : Nat → Option Nat} (hm : Mk o) (h : PlaceOk l o f) {r p : Nat} (hr : r < l.length + 2) (hp : f r = some p) : visitT (trs l r) o = (o, p) := by
 obtain ⟨h1, h2⟩ := (h r p hr).1 hp
 cases ht : trs l r with
 | lf b =>
  rw [ht] at h2
  have h3 := hm.lf h1 h2
  have z := trs_zero o
  cases b with
  | false =>
   rcases p with _ | _ | p
   ·rfl
   ·rw [z.2] at h2; cases h2
   ·omega
  | true =>
   rcases p with _ | _ | p
   ·rw [z.1] at h2; cases h2
   ·rfl
   ·omega
 | nd v lo hi =>
  rw [ht] at h2
  unfold visitT
  rw [look_eq hm h1 h2]
theorem PlaceOk.miss {l o : List Dec} {f : Nat → Option Nat} (hl : Mk l) (h : PlaceOk l o f) {r : Nat} (hr : r < l.length + 2) (hp : f r = none) :
  ∃ x, 2 ≤ r ∧ l[r - 2]? = some x ∧ x.2.1 < r ∧ x.2.2 < r ∧ x.1 < 24 ∧ trs l r = .nd x.1 (trs l x.2.1) (trs l x.2.2) ∧ look o (trs l r) = none := by
 have hlook : look o (trs l r) = none := by
  cases hk : look o (trs l r) with
  | none => rfl
  | some p =>
   have := (h r p hr).2 (look_some hk)
   rw [hp] at this; cases this
 have h2 : 2 ≤ r := by
  rcases Nat.lt_or_ge r 2 with h2 | h2
  ·exfalso
   rcases r with _ | _ | r
   ·have := (h 0 0 hr).2 ⟨by omega, by rw [(trs_zero o).1, (trs_zero l).1]⟩
    rw [hp] at this; cases this
   ·have := (h 1 1 hr).2 ⟨by omega, by rw [(trs_zero o).2, (trs_zero l).2]⟩
    rw [hp] at this; cases this
   ·omega
  ·exact h2
 obtain ⟨k, rfl⟩ : ∃ k, r = k + 2 := ⟨r - 2, by omega⟩
 have hk : k < l.length := by omega
 have hx := List.getElem?_eq_getElem hk
 have hb := hl.kid k _ hx
 exact ⟨l[k], h2, hx, hb.2.1, hb.2.2.1, hb.1, hl.at hx, hlook⟩
theorem PlaceOk.step {l o o2 : List Dec} {f2 : Nat → Option Nat} {r v p1 p2 : Nat} {lo hi : BT} (hl : Mk l) (hr : r < l.length + 2) (ht : trs l r = .nd v lo hi) (hlook : look o (.nd v lo hi) = none)
  (ho2 : o2 = (visitT hi (visitT lo o).1).1) (h2 : PlaceOk l o2 f2) (h : trs (o2 ++ [(v, p1, p2)]) (o2.length + 2) = .nd v lo hi) :
  PlaceOk l (o2 ++ [(v, p1, p2)]) (fun q => if q = r then some (o2.length + 2) else f2 q) := by
 have hfresh := visitT_fresh hlook
 rw [← ho2] at hfresh
 intro q p hq
 by_cases hqr : q = r
 ·subst hqr
  simp only [if_pos]
  constructor
  ·intro e; cases e; exact ⟨by simp, by rw [h, ht]⟩
  ·rintro ⟨hp, e⟩
   rw [List.length_append, List.length_singleton] at hp
   by_cases hlt : p < o2.length + 2
   ·rw [trs_snoc_old hlt, ht] at e
    exact absurd e (hfresh p hlt)
   ·rw [show p = o2.length + 2 by omega]
 ·simp only [if_neg hqr]
  rw [h2 q p hq]
  constructor
  ·rintro ⟨hp, e⟩
   exact ⟨by rw [List.length_append, List.length_singleton]; omega, by rw [trs_snoc_old hp, e]⟩
  ·rintro ⟨hp, e⟩
   rw [List.length_append, List.length_singleton] at hp
   by_cases hlt : p < o2.length + 2
   ·rw [trs_snoc_old hlt] at e
    exact ⟨hlt, e⟩
   ·have hpe : p = o2.length + 2 := by omega
    rw [hpe, h, ← ht] at e
    exact absurd (hl.inj hr hq e).symm hqr
end Dg
namespace Go.Eng
open Go Go.RowKit
section
variable {P : Program} {w0 : World} {O : List Nat} {ops : Array Oper} {Q : Exit → Act → World → Prop} {N : Nat} {D : List Deferred} {L : FL} {C : List Chunk} {K : Act → World → Prop}
theorem WA.openB {F : List Nat} {α : Type} {Cs : α → List Chunk} {φ : α → Prop} (h : ∀ x, φ x → (∀ c ∈ Cs x, ∀ k, c.fp k → k ∈ F) → (∀ k ∈ F, ∃ c ∈ Cs x, c.fp k) → WA w0 O K N D L (Cs x ++ C)) : WA w0 O K N D L (bun F Cs φ :: C) := fun a w hF hS => by
 obtain ⟨x, h1, h2, h3, h4⟩ := hS.bunOpen
 exact h x h1 h2 h3 a w hF h4
theorem WC.openB {c : Code} {F : List Nat} {α : Type} {Cs : α → List Chunk} {φ : α → Prop} (h : ∀ x, φ x → (∀ c ∈ Cs x, ∀ k, c.fp k → k ∈ F) → (∀ k ∈ F, ∃ c ∈ Cs x, c.fp k) → WC P w0 O c Q N D L (Cs x ++ C)) : WC P w0 O c Q N D L (bun F Cs φ :: C) := fun a w hF hS => by
 obtain ⟨x, h1, h2, h3, h4⟩ := hS.bunOpen
 exact h x h1 h2 h3 a w hF h4
end
end Go.Eng
namespace Go.Proofs.YtnldjikcnahioaaGreatDoor
open Go Go.Eng Go.Proofs Dg
theorem keyDec : KeyT Tryz.prog 78 enc3 := KeyT.threeOf (by kernel_rfl)
theorem keyInt : KeyT Tryz.prog 3 encI := KeyT.nat (by kernel_rfl)
theorem undMD : Tryz.prog.underlying 122 = some (.map 78 3) := by kernel_rfl
theorem undMI : Tryz.prog.underlying 126 = some (.map 3 3) := by kernel_rfl
theorem zeroInt (w : World) : (zeroValue 3).run Tryz.prog w = .ok (.int .i64 0) w := by kernel_rfl
def decs (l : List Dec) : List Value := l.flatMap fun x => [.int .i64 (x.1 : Int), .int .i64 (x.2.1 : Int), .int .i64 (x.2.2 : Int)]
theorem decs_append (l m : List Dec) : decs (l ++ m) = decs l ++ decs m := by simp [decs]
theorem decs_len : ∀ l : List Dec, (decs l).length = l.length * 3
 | [] => rfl
 | x :: l => by
  have := decs_len l
  simp only [decs, List.flatMap_cons, List.length_append, List.length_cons, List.length_nil] at this ⊢
  omega
theorem decs_at : ∀ {l : List Dec} {k : Nat} {x : Dec}, l[k]? = some x → ∀ j u, [Value.int .i64 (x.1 : Int), .int .i64 (x.2.1 : Int), .int .i64 (x.2.2 : Int)][j]? = some u → (decs l)[k * 3 + j]? = some u
 | [], k, x, h, _, _, _ => by simp at h
 | y :: l, 0, x, h, j, u, hj => by
  simp only [List.getElem?_cons_zero, Option.some.injEq] at h
  subst h
  have hjl := (List.getElem?_eq_some_iff.1 hj).1
  show ([Value.int .i64 (y.1 : Int), .int .i64 (y.2.1 : Int), .int .i64 (y.2.2 : Int)] ++ decs l)[0 * 3 + j]? = _
  rw [Nat.zero_mul, Nat.zero_add, List.getElem?_append_left hjl]
  exact hj
 | y :: l, k + 1, x, h, j, u, hj => by
  simp only [List.getElem?_cons_succ] at h
  have ih := decs_at h j u hj
  show ([Value.int .i64 (y.1 : Int), .int .i64 (y.2.1 : Int), .int .i64 (y.2.2 : Int)] ++ decs l)[(k + 1) * 3 + j]? = _
  rw [List.getElem?_append_right (by simp; omega)]
  simp only [List.length_cons, List.length_nil]
  rw [show (k + 1) * 3 + j - (0 + 1 + 1 + 1) = k * 3 + j by omega]
  exact ih
theorem decs_one (l : List Dec) : ∀ u ∈ decs l, u.oneCell' = true := by
 intro u hu
 simp only [decs, List.mem_flatMap] at hu
 obtain ⟨x, _, hu⟩ := hu
 simp only [List.mem_cons, List.not_mem_nil, or_false] at hu
 rcases hu with rfl | rfl | rfl <;> rfl
def RdDec (w : World) (l : List Dec) (a : Option Addr) : Prop := ∀ j u, (decs l)[j]? = some u → ∃ b off, a = some ⟨b, off, none⟩ ∧ w.cell? ⟨b, off + j, none⟩ = some u
theorem RdDec.next {w0 w : World} {O : List Nat} {C : List Chunk} {l : List Dec} {a : Option Addr} (h : RdDec w0 l a) (hS : St w0 O C w) (hO : ∀ b off, a = some ⟨b, off, none⟩ → b < w0.heap.size → b ∉ O) : RdDec w l a := fun j u hu => by
 obtain ⟨b, off, ha, hc⟩ := h j u hu
 exact ⟨b, off, ha, hS.oldc hc (hO b off ha (World.block_lt_of_cell? w0 _ hc))⟩
theorem RdDec.next0 {w0 w : World} {C : List Chunk} {l : List Dec} {a : Option Addr} (h : RdDec w0 l a) (hS : St w0 [] C w) : RdDec w l a := h.next hS (by simp)
theorem RdDec.ext {wb w : World} {l : List Dec} {a : Option Addr} (h : RdDec wb l a) (hE : Ext wb w) : RdDec w l a := fun j u hu => by
 obtain ⟨b, off, ha, hc⟩ := h j u hu
 exact ⟨b, off, ha, hE.cell hc⟩
theorem RdDec.at {w : World} {l : List Dec} {a : Option Addr} (h : RdDec w l a) {k : Nat} {x : Dec} (hk : l[k]? = some x) : ∃ b off, a = some ⟨b, off, none⟩ ∧ ∀ j u, [Value.int .i64 (x.1 : Int), .int .i64 (x.2.1 : Int), .int .i64 (x.2.2 : Int)][j]? = some u → w.cell? ⟨b, off + k * 3 + j, none⟩ = some u := by
 obtain ⟨b, off, ha, _⟩ := h (k * 3 + 0) _ (decs_at hk 0 _ rfl)
 refine ⟨b, off, ha, fun j u hj => ?_⟩
 obtain ⟨b', off', ha', hc⟩ := h (k * 3 + j) u (decs_at hk j u hj)
 rw [ha] at ha'
 injection ha' with e
 injection e with e1 e2
 subst e1; subst e2
 rw [Nat.add_assoc]; exact hc
theorem RdDec.of_row {w : World} {l : List Dec} {a : Option Addr} {n cap : Nat} {e : TypeId} (hn : n = l.length) (h : (rowc (.slice a n cap) n e 3 (decs l)).ok w) : RdDec w l a := fun j u hu => by
 have hpos : 0 < n := by
  have h1 := (List.getElem?_eq_some_iff.1 hu).1
  rw [decs_len] at h1; omega
 obtain ⟨g, hg, _, _⟩ := rowc_addr h hpos
 subst hg
 exact ⟨g, 0, rfl, by rw [Nat.zero_add]; exact rowc_cells h hu⟩
abbrev dC (a : Option Addr) (c : Nat) (t : BT) : Chunk := rowc (.slice a (canon t).1.length c) (canon t).1.length 78 3 (decs (canon t).1)
abbrev dval (t : BT) (a : Option Addr) (c : Nat) : Value := .agg [.slice a (canon t).1.length c, .int .i64 ((canon t).2 : Int)].toArray
def RdD (w : World) (t : BT) (a : Option Addr) : Prop := t.ok 0 ∧ RdDec w (canon t).1 a
theorem RdD.next0 {w0 w : World} {C : List Chunk} {t : BT} {a : Option Addr} (h : RdD w0 t a) (hS : St w0 [] C w) : RdD w t a := ⟨h.1, h.2.next0 hS⟩
theorem RdD.ext {wb w : World} {t : BT} {a : Option Addr} (h : RdD wb t a) (hE : Ext wb w) : RdD w t a := ⟨h.1, h.2.ext hE⟩
theorem RdD.of_row {w : World} {t : BT} {a : Option Addr} {c : Nat} (ht : t.ok 0) (h : (dC a c t).ok w) : RdD w t a := ⟨ht, RdDec.of_row rfl h⟩
abbrev mkCs (bm : Nat) (l : List Dec) (x : Option Addr × Nat × Nat × (Dec → Option Nat)) : List Chunk :=
 [pt bm [.slice x.1 l.length x.2.1, .map (some x.2.2.1)] 124, rowc (.slice x.1 l.length x.2.1) l.length 78 3 (decs l), mpg enc3 x.2.2.1 (fun y => (x.2.2.2 y).map encI)]
def mkr (F : List Nat) (bm : Nat) (l : List Dec) : Chunk := bun F (mkCs bm l) (fun x => KnowsL l x.2.2.2)
theorem mkr_fp {bm : Nat} {l : List Dec} (x : Option Addr × Nat × Nat × (Dec → Option Nat)) : FpL (mkCs bm l x) ([bm] ++ (ob (.slice x.1 l.length x.2.1) ++ ([x.2.2.1] ++ []))) := .cons FpIs.pt (.cons FpIs.rowc (.cons FpIs.mpg .nil))
theorem St.mkrClose {w0 w : World} {O : List Nat} {C : List Chunk} {bm : Nat} {l : List Dec} {a : Option Addr} {c b n : Nat} {f : Dec → Option Nat} {g : Dec → Option Value} (hf : KnowsL l f) (hg : g = fun y => (f y).map encI) (hn : n = l.length) {xs : List Value} (hx : xs = decs l)
  (h : St w0 O (pt bm [.slice a n c, .map (some b)] 124 :: rowc (.slice a n c) n 78 3 xs :: mpg enc3 b g :: C) w) : St w0 O (mkr ([bm] ++ (ob (.slice a l.length c) ++ ([b] ++ []))) bm l :: C) w := by
 subst hg; subst hn; subst hx
 exact St.bunClose' (Cs := mkCs bm l) (a, c, b, f) hf (mkr_fp (a, c, b, f)) h
theorem newMaker_c (w : World) : Calls Tryz.prog 22 [].toArray w fun e w' => ∃ x : List Nat × Nat, e = .returned (pp x.2) ∧ St w [] [mkr x.1 x.2 []] w' := by
 refine enter Tryz.func22 rfl Tryz.ntmps22 rfl (St.init _) ?_
 refine jN 9 ?_
 refine WL.makeMapG enc3 rfl (fun b1 => ?_)
 refine jN 3 ?_
 refine WL.boxN rfl rfl (fun b3 => ?_)
 refine jN 5 ?_
 refine WQ.ret (rs := [.tmp 0]) rfl (.tmp rfl .nil) (fun w hS => ⟨(_, b3), rfl, St.mkrClose (l := []) (a := none) (c := 0) (b := b1) (n := 0) (f := fun _ => none) KnowsL.nil rfl rfl rfl ?_⟩)
 exact St.pick (hS.rowNil 78 3) (c := pt b3 [.slice none 0 0, .map (some b1)] 124) jR
theorem mnode_c (Fp : List Nat) (bm : Nat) (l : List Dec) (i lo hi : Nat) (w : World) (h24 : i < 24) (hm : Mk l) (hlo : lo < l.length + 2) (hhi : hi < l.length + 2) (hlen : l.length ≤ 16777214) (hS0 : St w Fp [mkr Fp bm l] w) :
  Calls Tryz.prog 23 [pp bm, .int .i64 (i : Int), .int .i64 (lo : Int), .int .i64 (hi : Int)].toArray w fun e w' => ∃ x : { x : List Nat × List Dec × Nat // MadeN l x.2.1 x.2.2 (mkN i (trs l lo) (trs l hi)) ∧ x.2.1.length ≤ l.length + 1 }, e = .returned (.int .i64 (x.1.2.2 : Int)) ∧ St w Fp [mkr x.1.1 bm x.1.2.1] w' := by
 obtain ⟨⟨a, c, bk, fk⟩, hk, h1, h2, hS0⟩ := hS0.bunOpen
 simp only [List.cons_append, List.nil_append] at hS0
 refine enter Tryz.func23 rfl Tryz.ntmps23 rfl (C := [pt bm [.slice a l.length c, .map (some bk)] 124, rowc (.slice a l.length c) l.length 78 3 (decs l), mpg enc3 bk (fun y => (fk y).map encI)]) hS0 ?_
 refine jN 17 ?_
 refine WC.cond rfl (fun h14 => ?_) (fun h14 => ?_)
 ·have he : lo = hi := by simp at h14; omega
  subst he
  refine jN 10 ?_
  refine WQ.ret (rs := [.tmp 8]) rfl (.tmp rfl .nil) (fun w hS => ⟨⟨(Fp, l, lo), MadeN.same hm hlo, Nat.le_succ _⟩, rfl, ?_⟩)
  exact hS.bunClose (Cs := mkCs bm l) (a, c, bk, fk) hk h1 h2
 ·have hne : lo ≠ hi := by simp at h14; omega
  refine jN 13 ?_
  refine WL.alloc F.zero78 rfl (fun b9 => ?_)
  refine jN 5 ?_
  rcases Option.eq_none_or_eq_some (fk (i, lo, hi)) with hf | ⟨p, hf⟩
  ·refine WC.drawsL (by kernel_rfl) (FactsOk.cons (ds := []) (LoadOk.one (t := 0) (off := 1) rfl jM rfl) (FactsOk.cons (ds := []) (LoadOk.whole (t := 9) rfl jM) (FactsOk.cons (ds := []) (LoadOk.by (Y := fun w => (mpg enc3 bk (fun y => (fk y).map encI)).ok w) (fun w hS => hS.ok _ jM)) (FactsOk.nil)))) ?_
   refine jT 0 rfl (Yl.move rfl) ?_
   refine jT 1 rfl (Yl.nilCheck rfl) ?_
   refine jT 2 rfl (Yl.fieldAddr0 F.fld124_1 rfl) ?_
   refine jF 3 0 rfl rfl (Yl.load1 F.one122 rfl) ?_
   refine jF 4 1 rfl rfl (Yl.loadN F.agg78 rfl rfl) ?_
   refine jF 5 2 rfl rfl (Yl.lookupMiss (f := fun y => (fk y).map encI) (i, lo, hi) undMD keyDec zeroInt rfl rfl rfl (by rw [hf]; rfl)) ?_
   refine jT 6 rfl (Yl.move rfl) ?_
   refine jT 7 rfl (Yl.extract rfl rfl) ?_
   refine jT 8 rfl (Yl.extract rfl rfl) ?_
   refine jT 9 rfl (Yl.assign rfl) ?_
   refine jT 10 rfl (Yl.assign rfl) ?_
   refine jD ?_
   refine jN 12 ?_
   refine WC.drawsL (by kernel_rfl) (FactsOk.cons (ds := [7, 10]) (LoadOk.one (t := 0) (off := 0) rfl jM rfl) (FactsOk.cons (ds := [6, 7, 10]) (LoadOk.whole (t := 9) rfl jM) (FactsOk.nil))) ?_
   refine jT 0 rfl (Yl.move rfl) ?_
   refine jT 1 rfl (Yl.move rfl) ?_
   refine jT 2 rfl (Yl.nilCheck rfl) ?_
   refine jT 3 rfl (Yl.fieldAddr0 F.fld124_0 rfl) ?_
   refine jF 4 0 rfl rfl (Yl.load1 F.one31 rfl) ?_
   refine jF 5 1 rfl rfl (Yl.loadN F.agg78 rfl rfl) ?_
   refine jA 6 rfl ?_
   refine WL.buildSlice F.sl31 F.ez31 rfl rfl rfl rfl jB rfl (fun b37 => ?_)
   refine WD.on (closed_of (by kernel_rfl)) (fun w hS => Sx.keep (hS.cell jM rfl) (Sx.gone rfl (Sx.none))) ?_
   refine jA 7 rfl ?_
   refine WL.appendE (news := decs [(i, lo, hi)]) F.el31 rfl rfl rfl jR (fun w hS jj u hu => by rw [Nat.zero_add]; exact hS.cell (cs := [.int .i64 (i : Int), .int .i64 (lo : Int), .int .i64 (hi : Int)]) jM hu) rfl (decs_one _) (Nat.le_trans (m := 16777216) (by omega) (by decide)) (by omega) (fun a2 c2 => ?_)
   refine jG ?_
   refine jT 8 rfl (Yl.nilCheck rfl) ?_
   refine jT 9 rfl (Yl.fieldAddr0 F.fld124_0 rfl) ?_
   refine jA 10 rfl ?_
   refine WL.store1 F.one31 rfl rfl rfl jU jS ?_
   refine jG ?_
   refine jD ?_
   refine jN 19 ?_
   refine WC.drawsL (by kernel_rfl) (FactsOk.cons (ds := [6]) (LoadOk.one (t := 0) (off := 1) rfl jM rfl) (FactsOk.cons (ds := [6]) (LoadOk.whole (t := 9) rfl jM) (FactsOk.nil))) ?_
   refine jT 0 rfl (Yl.move rfl) ?_
   refine jT 1 rfl (Yl.nilCheck rfl) ?_
   refine jT 2 rfl (Yl.fieldAddr0 F.fld124_1 rfl) ?_
   refine jF 3 0 rfl rfl (Yl.load1 F.one122 rfl) ?_
   refine jF 4 1 rfl rfl (Yl.loadN F.agg78 rfl rfl) ?_
   refine jT 5 rfl (Yl.move rfl) ?_
   refine jA 6 rfl ?_
   refine WL.mapPutG (f := fun y => (fk y).map encI) (i, lo, hi) undMD keyDec rfl rfl rfl rfl jU ?_
   refine jG ?_
   refine jD ?_
   refine jN 10 ?_
   have hlen2 : (l ++ [(i, lo, hi)]).length = l.length + 1 := by simp
   refine WQ.ret (rs := [.tmp 8]) rfl (.tmp rfl .nil) (fun w hS => ⟨⟨([bm] ++ (ob (.slice a2 (l ++ [(i, lo, hi)]).length c2) ++ ([bk] ++ [])), l ++ [(i, lo, hi)], l.length + 2), MadeN.new hm hk h24 hne hlo hhi hf, by simp⟩, rfl, ?_⟩)
   refine St.mkrClose (a := a2) (c := c2) (b := bk) (n := l.length + 1) (hk.snoc (i, lo, hi) hf) ?_ hlen2.symm (decs_append _ _).symm (jK hS)
   funext q
   by_cases hq : q = (i, lo, hi)
   ·simp only [if_pos hq, Option.map_some, encI]; rfl
   ·simp only [if_neg hq]
  ·refine WC.drawsL (by kernel_rfl) (FactsOk.cons (ds := []) (LoadOk.one (t := 0) (off := 1) rfl jM rfl) (FactsOk.cons (ds := []) (LoadOk.whole (t := 9) rfl jM) (FactsOk.cons (ds := []) (LoadOk.by (Y := fun w => (mpg enc3 bk (fun y => (fk y).map encI)).ok w) (fun w hS => hS.ok _ jM)) (FactsOk.nil)))) ?_
   refine jT 0 rfl (Yl.move rfl) ?_
   refine jT 1 rfl (Yl.nilCheck rfl) ?_
   refine jT 2 rfl (Yl.fieldAddr0 F.fld124_1 rfl) ?_
   refine jF 3 0 rfl rfl (Yl.load1 F.one122 rfl) ?_
   refine jF 4 1 rfl rfl (Yl.loadN F.agg78 rfl rfl) ?_
   refine jF 5 2 rfl rfl (Yl.lookupHit (f := fun y => (fk y).map encI) (v := encI p) (i, lo, hi) undMD keyDec zeroInt rfl rfl rfl (by rw [hf]; rfl)) ?_
   refine jT 6 rfl (Yl.move rfl) ?_
   refine jT 7 rfl (Yl.extract rfl rfl) ?_
   refine jT 8 rfl (Yl.extract rfl rfl) ?_
   refine jT 9 rfl (Yl.assign rfl) ?_
   refine jT 10 rfl (Yl.assign rfl) ?_
   refine jD ?_
   refine jN 22 ?_
   refine WQ.ret (rs := [.tmp 8]) rfl (.tmp rfl .nil) (fun w hS => ⟨⟨(Fp, l, p), MadeN.known hm hk hne hlo hhi hf, Nat.le_succ _⟩, rfl, ?_⟩)
   exact St.bunClose (Cs := mkCs bm l) (a, c, bk, fk) hk h1 h2 (jK hS)
theorem place_map {f : Nat → Option Nat} {r n : Nat} {z : Int} (hz : z = (n : Int)) : (fun q : Nat => if q = r then some (Value.int .i64 z) else (f q).map encI) = (fun y => (if y = r then some n else f y).map encI) := by
 funext q
 by_cases h : q = r
 ·rw [if_pos h, if_pos h, hz]; rfl
 ·rw [if_neg h, if_neg h]
theorem place_map0 : (fun q : Nat => if q = 1 then some (Value.int .i64 1) else if q = 0 then some (Value.int .i64 0) else none) = (fun y => (if y = 1 then some 1 else if y = 0 then some 0 else none : Option Nat).map encI) := by
 funext q
 by_cases h : q = 1
 ·rw [if_pos h, if_pos h]; rfl
 ·rw [if_neg h, if_neg h]
  by_cases h0 : q = 0
  ·rw [if_pos h0, if_pos h0]; rfl
  ·rw [if_neg h0, if_neg h0]; rfl
abbrev viCs (bo bk : Nat) (o : List Dec) (x : Option Addr × Nat × (Nat → Option Nat)) : List Chunk :=
 [pt bo [.slice x.1 o.length x.2.1] 31, rowc (.slice x.1 o.length x.2.1) o.length 78 3 (decs o), mpg encI bk (fun r => (x.2.2 r).map encI)]
def vis (F : List Nat) (bo bk : Nat) (l o : List Dec) : Chunk := bun F (viCs bo bk o) (fun x => PlaceOk l o x.2.2)
theorem vis_fp {bo bk : Nat} {o : List Dec} (x : Option Addr × Nat × (Nat → Option Nat)) : FpL (viCs bo bk o x) ([bo] ++ (ob (.slice x.1 o.length x.2.1) ++ ([bk] ++ []))) := .cons FpIs.pt (.cons FpIs.rowc (.cons FpIs.mpg .nil))
theorem St.visClose {w0 w : World} {O : List Nat} {C : List Chunk} {bo bk n c : Nat} {l o : List Dec} {a : Option Addr} {f : Nat → Option Nat} {g : Nat → Option Value} (hf : PlaceOk l o f) (hg : g = fun y => (f y).map encI) (hn : n = o.length) {xs : List Value} (hx : xs = decs o)
  (h : St w0 O (pt bo [.slice a n c] 31 :: rowc (.slice a n c) n 78 3 xs :: mpg encI bk g :: C) w) : ∃ F, St w0 O (vis F bo bk l o :: C) w := by
 subst hg; subst hn; subst hx
 refine ⟨_, St.bunClose' (Cs := viCs bo bk o) (a, c, f) hf (vis_fp (a, c, f)) h⟩
abbrev visF (bp bm bv bo : Nat) : Value := .func (.func 59) [].toArray [pp bp, pp bm, pp bv, pp bo].toArray
def RdDecO (w : World) (l : List Dec) (a : Option Addr) (F : List Nat) : Prop := ∀ j u, (decs l)[j]? = some u → ∃ b off, a = some ⟨b, off, none⟩ ∧ w.cell? ⟨b, off + j, none⟩ = some u ∧ b ∉ F
theorem RdDecO.at {w : World} {l : List Dec} {a : Option Addr} {F : List Nat} (h : RdDecO w l a F) {k : Nat} {x : Dec} (hk : l[k]? = some x) : ∃ b off, a = some ⟨b, off, none⟩ ∧ b ∉ F ∧ ∀ j u, [Value.int .i64 (x.1 : Int), .int .i64 (x.2.1 : Int), .int .i64 (x.2.2 : Int)][j]? = some u → w.cell? ⟨b, off + k * 3 + j, none⟩ = some u := by
 obtain ⟨b, off, ha, _, hb⟩ := h (k * 3 + 0) _ (decs_at hk 0 _ rfl)
 refine ⟨b, off, ha, hb, fun j u hj => ?_⟩
 obtain ⟨b', off', ha', hc, _⟩ := h (k * 3 + j) u (decs_at hk j u hj)
 rw [ha] at ha'
 injection ha' with e
 injection e with e1 e2
 subst e1; subst e2
 rw [Nat.add_assoc]; exact hc
structure VEnv (w : World) (F : List Nat) (bp bmv bv bo bk bm : Nat) (l : List Dec) (a : Option Addr) (c : Nat) : Prop where
 pl : w.cell? ⟨bp, 0, none⟩ = some (.map (some bk))
 pl' : bp ∉ F
 mv : w.cell? ⟨bmv, 0, none⟩ = some (pp bm)
 mv' : bmv ∉ F
 vi : w.cell? ⟨bv, 0, none⟩ = some (visF bp bmv bv bo)
 vi' : bv ∉ F
 li : w.cell? ⟨bm, 0, none⟩ = some (.slice a l.length c)
 li' : bm ∉ F
 rd : RdDecO w l a F
theorem VEnv.next {w0 w : World} {F F' : List Nat} {C1 : List Chunk} {bp bmv bv bo bk bm c : Nat} {l o : List Dec} {a : Option Addr} (h : VEnv w0 F bp bmv bv bo bk bm l a c) (hS : St w0 F ([vis F' bo bk l o] ++ C1) w) : VEnv w F' bp bmv bv bo bk bm l a c := by
 have hap := fun {z : Nat} (h1 : z < w0.heap.size) (h2 : z ∉ F) => hS.apart (F := F') bun_O2 h1 h2
 refine ⟨hS.oldc h.pl h.pl', hap (World.block_lt_of_cell? w0 _ h.pl) h.pl', hS.oldc h.mv h.mv', hap (World.block_lt_of_cell? w0 _ h.mv) h.mv', hS.oldc h.vi h.vi', hap (World.block_lt_of_cell? w0 _ h.vi) h.vi', hS.oldc h.li h.li', hap (World.block_lt_of_cell? w0 _ h.li) h.li', fun j u hu => ?_⟩
 obtain ⟨b, off, e1, e2, e3⟩ := h.rd j u hu
 exact ⟨b, off, e1, hS.oldc e2 e3, hap (World.block_lt_of_cell? w0 _ e2) e3⟩
theorem visit_c (bp bmv bv bo bk bm : Nat) (l : List Dec) (a : Option Addr) (c : Nat) (hl : Mk l) (hll : l.length ≤ 16777216) : ∀ (n r : Nat), r < n → ∀ (Fp : List Nat) (o : List Dec) (w : World), r < l.length + 2 → Mk o → (∃ m, (trs l r).ok m) → (visitT (trs l r) o).1.length ≤ 16777216 → VEnv w Fp bp bmv bv bo bk bm l a c → St w Fp [vis Fp bo bk l o] w →
  Calls Tryz.prog 59 [.int .i64 (r : Int), pp bp, pp bmv, pp bv, pp bo].toArray w fun e w' => ∃ x : List Nat, e = .returned (.int .i64 ((visitT (trs l r) o).2 : Int)) ∧ St w Fp [vis x bo bk l (visitT (trs l r) o).1] w' := by
 intro n
 induction n with
 | zero => intro r hr; omega
 | succ n hrec =>
 intro r hrn Fp o w hr ho ⟨mo, hok⟩ hb hE hS0
 obtain ⟨⟨a2, c2, fk⟩, hk, h1, h2, hS0⟩ := hS0.bunOpen
 have hk : PlaceOk l o fk := hk
 simp only [List.cons_append, List.nil_append] at hS0
 refine enter Tryz.func59 rfl Tryz.ntmps59 rfl (C := [pt bo [.slice a2 o.length c2] 31, rowc (.slice a2 o.length c2) o.length 78 3 (decs o), mpg encI bk (fun y => (fk y).map encI)]) hS0 ?_
 refine jN 8 ?_
 rcases Option.eq_none_or_eq_some (fk r) with hf | ⟨p, hf⟩
 ·obtain ⟨x, hr2, hx, hlo, hhi, hx24, htr, hlk⟩ := hk.miss hl hr hf
  rw [htr] at hlk hok hb
  have hvt : visitT (trs l r) o = ((visitT (trs l x.2.2) (visitT (trs l x.2.1) o).1).1 ++ [(x.1, (visitT (trs l x.2.1) o).2, (visitT (trs l x.2.2) (visitT (trs l x.2.1) o).1).2)], (visitT (trs l x.2.2) (visitT (trs l x.2.1) o).1).1.length + 2) := by rw [htr]; show visitT (.nd x.1 (trs l x.2.1) (trs l x.2.2)) o = _; conv => lhs; unfold visitT; rw [hlk]
  have hb0 : (visitT (.nd x.1 (trs l x.2.1) (trs l x.2.2)) o).1.length = (visitT (trs l x.2.2) (visitT (trs l x.2.1) o).1).1.length + 1 := by rw [← htr, hvt]; simp
  have hb2 := visitT_len (trs l x.2.2) (visitT (trs l x.2.1) o).1
  have hb1 := visitT_len (trs l x.2.1) o
  have hm1 := visitT_mk hok.2.2.2.1 ho
  have hm2 := visitT_mk hok.2.2.2.2 hm1
  obtain ⟨bl, off, rfl, hbl, hcx⟩ := hE.rd.at hx
  have hri : ((r - 2 : Nat) : Int) = (r : Int) - 2 := by omega
  refine jN 2 ?_
  refine WL.load1 F.one126 rfl rfl (v := .map (some bk)) (fun w hS => hS.oldc hE.pl hE.pl') ?_
  refine jN 3 ?_
  refine WL.lookupMiss (f := fun y => (fk y).map encI) r undMI keyInt zeroInt rfl rfl rfl rfl jM (by rw [hf]; rfl) ?_
  refine jN 24 ?_
  refine WL.load1 F.one79 rfl rfl (v := pp bm) (fun w hS => hS.oldc hE.mv hE.mv') ?_
  refine jN 5 ?_
  refine WL.load1 F.one31 rfl rfl (v := .slice (some ⟨bl, off, none⟩) l.length c) (fun w hS => hS.oldc hE.li hE.li') ?_
  refine jN 4 ?_
  refine WA.say 25 (.int .i64 ((r - 2 : Nat) : Int)) (by rw [hri]; rfl) ?_
  refine jN 1 ?_
  refine WL.indexAddr F.sl31 rfl rfl rfl (List.getElem?_eq_some_iff.1 hx).1 ?_
  refine jN 1 ?_
  refine WL.loadN F.agg78 rfl rfl (vs := [Value.int .i64 (x.1 : Int), .int .i64 (x.2.1 : Int), .int .i64 (x.2.2 : Int)]) rfl (fun w hS j v hv => hS.oldc (hcx j v hv) hbl) ?_
  refine jN 1 ?_
  refine WL.alloc F.zero78 rfl (fun b9 => ?_)
  refine jN 7 ?_
  refine WL.load1 F.one127 rfl rfl (v := visF bp bmv bv bo) (fun w hS => hS.oldc hE.vi hE.vi') ?_
  refine jN 4 ?_
  refine WA.chunks (C' := [vis Fp bo bk l o, pt b9 [Value.int .i64 (x.1 : Int), .int .i64 (x.2.1 : Int), .int .i64 (x.2.2 : Int)] 78]) (fun w hS => St.bunClose (Cs := viCs bo bk o) (a2, c2, fk) hk h1 h2 (jK hS)) ?_
  refine jN 1 ?_
  refine WL.callFC (β := List Nat) (us := []) (cap := [pp bp, pp bmv, pp bv, pp bo]) (res := fun y => .int .i64 ((visitT (trs l x.2.1) o).2 : Int)) (cs := fun y => [vis y bo bk l (visitT (trs l x.2.1) o).1]) (Cs := [vis Fp bo bk l o]) (C1 := [pt b9 [Value.int .i64 (x.1 : Int), .int .i64 (x.2.1 : Int), .int .i64 (x.2.2 : Int)] 78]) (O' := Fp) F.fun59 (fun d h => by cases h; rfl) rfl rfl (List.Perm.refl _) bun_O1 bun_O2 (fun w hS hS2 => hrec x.2.1 (by omega) Fp o w (by omega) ho ⟨_, hok.2.2.2.1⟩ (by omega) (hE.next hS) hS2) (fun Fp1 => ?_)
  refine jN 7 ?_
  refine WL.load1 F.one127 rfl rfl (v := visF bp bmv bv bo) (fun w hS => hS.oldc hE.vi hE.vi') ?_
  refine jN 5 ?_
  refine WL.callFC (β := List Nat) (us := []) (cap := [pp bp, pp bmv, pp bv, pp bo]) (res := fun y => .int .i64 ((visitT (trs l x.2.2) (visitT (trs l x.2.1) o).1).2 : Int)) (cs := fun y => [vis y bo bk l (visitT (trs l x.2.2) (visitT (trs l x.2.1) o).1).1]) (Cs := [vis Fp1 bo bk l (visitT (trs l x.2.1) o).1]) (C1 := [pt b9 [Value.int .i64 (x.1 : Int), .int .i64 (x.2.1 : Int), .int .i64 (x.2.2 : Int)] 78]) (O' := Fp1) F.fun59 (fun d h => by cases h; rfl) rfl rfl (List.Perm.refl _) bun_O1 bun_O2 (fun w hS hS2 => hrec x.2.2 (by omega) Fp1 (visitT (trs l x.2.1) o).1 w (by omega) hm1 ⟨_, hok.2.2.2.2⟩ (by omega) (hE.next hS) hS2) (fun Fp2 => ?_)
  refine jN 6 ?_
  refine WA.openB (fun x3 hk3 h13 h23 => ?_)
  obtain ⟨a3, c3, f3⟩ := x3
  have hk3 : PlaceOk l (visitT (trs l x.2.2) (visitT (trs l x.2.1) o).1).1 f3 := hk3
  simp only [viCs, List.cons_append, List.nil_append]
  refine jN 13 ?_
  refine WL.buildSlice F.sl31 F.ez31 rfl rfl rfl rfl jB rfl (fun b42 => ?_)
  refine jN 1 ?_
  refine WL.appendE (news := decs [(x.1, (visitT (trs l x.2.1) o).2, (visitT (trs l x.2.2) (visitT (trs l x.2.1) o).1).2)]) F.el31 rfl rfl rfl jR (fun w hS jj u hu => by rw [Nat.zero_add]; exact hS.cell (cs := [.int .i64 (x.1 : Int), .int .i64 ((visitT (trs l x.2.1) o).2 : Int), .int .i64 ((visitT (trs l x.2.2) (visitT (trs l x.2.1) o).1).2 : Int)]) jM hu) rfl (decs_one _) (Nat.le_trans (m := 16777217) (by omega) (by decide)) (by omega) (fun a4 c4 => ?_)
  refine jN 7 ?_
  refine WL.load1 F.one126 rfl rfl (v := .map (some bk)) (fun w hS => hS.oldc hE.pl hE.pl') ?_
  refine jN 9 ?_
  refine WL.mapPutG (f := fun y => (f3 y).map encI) r undMI keyInt rfl rfl rfl rfl jU ?_
  refine jN 15 ?_
  have htn := visitT_at (trs l r) o
  rw [hvt, htr] at htn
  have hst := hk3.step hl hr htr hlk rfl (v := x.1) (p1 := (visitT (trs l x.2.1) o).2) (p2 := (visitT (trs l x.2.2) (visitT (trs l x.2.1) o).1).2) htn.2
  refine WQ.ret (rs := [.tmp 6]) rfl (.tmp rfl .nil) (fun w hS => ?_)
  obtain ⟨F9, hF9⟩ := St.visClose (a := a4) (c := c4) (bk := bk) (bo := bo) (n := (visitT (trs l x.2.2) (visitT (trs l x.2.1) o).1).1.length + 1) hst (place_map (z := ((((visitT (trs l x.2.2) (visitT (trs l x.2.1) o).1).1.length + 1 : Nat) : Int) + 1)) (by omega)) (by simp) (decs_append _ _).symm (((St.pick (St.pick (St.pick hS (c := mpg encI bk (fun q => if q = r then some (.int .i64 ((((visitT (trs l x.2.2) (visitT (trs l x.2.1) o).1).1.length + 1 : Nat) : Int) + 1)) else (f3 q).map encI)) (by repeat (first | exact Rem.here | apply Rem.there))) (c := rowc (.slice a4 ((visitT (trs l x.2.2) (visitT (trs l x.2.1) o).1).1.length + 1) c4) ((visitT (trs l x.2.2) (visitT (trs l x.2.1) o).1).1.length + 1) 78 3 (decs (visitT (trs l x.2.2) (visitT (trs l x.2.1) o).1).1 ++ decs [(x.1, (visitT (trs l x.2.1) o).2, (visitT (trs l x.2.2) (visitT (trs l x.2.1) o).1).2)])) (by repeat (first | exact Rem.here | apply Rem.there))) (c := pt bo [.slice a4 ((visitT (trs l x.2.2) (visitT (trs l x.2.1) o).1).1.length + 1) c4] 31) (by repeat (first | exact Rem.here | apply Rem.there)))).sublist (List.Sublist.cons_cons _ (List.Sublist.cons_cons _ (List.Sublist.cons_cons _ (List.nil_sublist _)))))
  exact ⟨F9, by rw [hvt]; rfl, by rw [hvt]; exact hF9⟩
 ·refine jN 2 ?_
  refine WL.load1 F.one126 rfl rfl (v := .map (some bk)) (fun w hS => hS.oldc hE.pl hE.pl') ?_
  refine jN 3 ?_
  refine WL.lookupHit (f := fun y => (fk y).map encI) (v := encI p) r undMI keyInt zeroInt rfl rfl rfl rfl jM (by rw [hf]; rfl) ?_
  refine jN 29 ?_
  have hh := hk.hit ho hr hf
  refine WQ.ret (rs := [.tmp 6]) rfl (.tmp rfl .nil) (fun w hS => ⟨Fp, by rw [hh]; rfl, ?_⟩)
  rw [hh]
  exact hS.bunClose (Cs := viCs bo bk o) (a2, c2, fk) hk h1 h2
end Go.Proofs.YtnldjikcnahioaaGreatDoor
namespace Go.Eng
open Go Go.RowKit
theorem SetN.append {cs cs' vs : List Value} {off : Nat} (ys : List Value) (h : SetN cs off vs cs') : SetN (cs ++ ys) off vs (cs' ++ ys) := by
 induction h with
 | nil => exact .done
 | done => exact .done
 | put _ ih => exact .put ih
 | skip _ ih => exact .skip ih
theorem SetN.len {cs cs' vs : List Value} {off : Nat} (h : SetN cs off vs cs') : cs'.length = cs.length := by
 obtain ⟨h1, h2⟩ := h.eq
 rw [← h1]; simp; omega
section
variable {P : Program} {w0 : World} {O : List Nat} {ops : Array Oper} {Q : Exit → Act → World → Prop} {N : Nat} {D : List Deferred} {L : FL} {C : List Chunk} {K : Act → World → Prop}
variable {d : Nat} {ty : TypeId} {pos : String} {af : Array Edge}
theorem St.rowUpd {w : World} {C' : List Chunk} {b : Nat} {c0 c1 : Chunk} {cs : Array Value} (h : St w0 O C w) (hu : Upd c0 c1 C C') (hf : ∀ k, c0.fp k ↔ k = b) (hf' : ∀ k, c1.fp k ↔ k = b) (hok : c1.ok (w.setRow b cs)) : St w0 O C' (w.setRow b cs) := by
 obtain ⟨R, p1, p2⟩ := hu.perm
 have h1 := h.perm p1
 refine St.perm ?_ p2.symm
 have hbO := (h1.bnd _ (List.mem_cons_self ..) b ((hf b).2 rfl))
 have hoth : ∀ k, k ≠ b → (w.setRow b cs).heap[k]? = w.heap[k]? := fun k hk => setRow_other w b k _ hk
 have hdis := List.pairwise_cons.1 h1.disj
 refine ⟨h.os, h.tape, h.output, by simpa using h.size, fun k hk ho => ?_, ?_, ?_, ?_⟩
 ·by_cases hkb : k = b
  ·subst hkb; exact absurd (hbO.2 hk) ho
  ·rw [hoth k hkb]; exact h.old k hk ho
 ·intro c hc
  rcases List.mem_cons.1 hc with rfl | hc
  ·exact hok
  ·refine c.loc w _ (fun k hk => hoth k (fun e => ?_)) (h1.ok c (List.mem_cons_of_mem _ hc))
   exact hdis.1 c hc k ((hf k).2 e) hk
 ·intro c hc k hk
  rcases List.mem_cons.1 hc with rfl | hc
  ·have : k = b := (hf' k).1 hk
   subst this
   exact ⟨by simpa using hbO.1, hbO.2⟩
  ·simpa using h1.bnd c (List.mem_cons_of_mem _ hc) k hk
 ·exact List.Pairwise.cons (fun c hc k hk hk' => hdis.1 c hc k ((hf k).2 ((hf' k).1 hk)) hk') hdis.2
theorem WL.storeRow {t : TypeId} {n m sz cap : Nat} {x y : Operand} {g off : Nat} {xs xs' vs : List Value} {e : TypeId} {C' : List Chunk} (ht : Agg P t m) (hx : ev L x = some (.pointer (some ⟨g, off, none⟩))) (hy : ev L y = some (.agg vs.toArray)) (hl : vs.length = m)
  (hv : ∀ u ∈ vs, u.oneCell' = true) (hpos : 0 < n) (hu : Upd (rowc (.slice (some ⟨g, 0, none⟩) n cap) n e sz xs) (rowc (.slice (some ⟨g, 0, none⟩) n cap) n e sz xs') C C') (hn : SetN xs off vs xs') (h : WA w0 O K N D L C') :
  WK P w0 O ops Q ⟨none, .store t x y, ty, pos, af, none⟩ K N D L C := fun a w hF hS => by
 subst hl
 obtain ⟨hlen, hr⟩ := (show w.ownsRow 0 e sz (.slice (some ⟨g, 0, none⟩) n cap) n xs from hS.ok _ hu.mem)
 rcases hr with ⟨h1, _⟩ | ⟨g', cap', cur, h1, _, hh, hnc, hcm, hcs, htk⟩
 ·cases h1
 ·injection h1 with h1 h2 h3
  injection h1 with h1
  injection h1 with h1
  subst h1; subst h3
  have hsplit : cur.toList = xs ++ cur.toList.drop (n * sz) := by rw [← htk, List.take_append_drop]
  have hn' : SetN cur.toList off vs (xs' ++ cur.toList.drop (n * sz)) := by
   have := hn.append (cur.toList.drop (n * sz))
   rw [← hsplit] at this
   exact this
  have hh' : w.heap[g]? = some (.cells cur.toList.toArray e (0, 0)) := by rw [Array.toArray_toList]; exact hh
  have hr := run_storeN (P := P) (t := t) (v := .agg vs.toArray) ht.size rfl hv hh' hn'
  have hxl : xs'.length = xs.length := hn.len
  have hSt : St w0 O C' (w.setRow g (xs' ++ cur.toList.drop (n * sz)).toArray) := by
   refine hS.rowUpd (b := g) hu (fun k => ?_) (fun k => ?_) ?_
   ·constructor
    ·intro hk; exact (Option.some.inj hk).symm
    ·intro hk; rw [hk]; rfl
   ·constructor
    ·intro hk; exact (Option.some.inj hk).symm
    ·intro hk; rw [hk]; rfl
   ·refine ⟨by rw [hxl, hlen], .inr ⟨g, cap, (xs' ++ cur.toList.drop (n * sz)).toArray, rfl, Nat.zero_le _, setRow_heap w g _ _ e _ hh', hnc, hcm, ?_, ?_⟩⟩
    ·have := congrArg List.length hsplit
     simp at this ⊢
     omega
    ·have e2 : xs'.length = n * sz := by rw [hxl, hlen]
     show (xs' ++ cur.toList.drop (n * sz)).take (n * sz) = xs'
     rw [List.take_left' e2]
  exact wpo_skip rfl (by simp [execOp, hF.ev hx, hF.ev hy, hr]) (h _ _ hF hSt)
end
open Go Go.RowKit
def Keeps (wb w : World) (F : List Nat) (w' : World) : Prop := (∀ k ∈ F, w'.heap[k]? = w.heap[k]?) ∧ ∀ k, k < wb.heap.size → w'.heap[k]? = wb.heap[k]?
def shr (wb : World) (F : List Nat) (t : Tree) (v : Value) : Chunk where
 fp k := k ∈ F
 ok w := ∃ G, ∀ w', Keeps wb w F w' → rdT w' t G v
 loc w w' h := fun ⟨G, hG⟩ => ⟨G, fun w2 hk => hG w2 ⟨fun k hkF => (hk.1 k hkF).trans (h k hkF), hk.2⟩⟩
def shrL (wb : World) (F : List Nat) (ts : List Tree) (vs : List Value) : Chunk where
 fp k := k ∈ F
 ok w := ∃ G, ∀ w', Keeps wb w F w' → rdL w' ts G vs
 loc w w' h := fun ⟨G, hG⟩ => ⟨G, fun w2 hk => hG w2 ⟨fun k hkF => (hk.1 k hkF).trans (h k hkF), hk.2⟩⟩
section
variable {w0 : World} {O : List Nat} {C : List Chunk}
end
open Go Go.RowKit
section
variable {P : Program} {w0 : World} {O : List Nat} {ops : Array Oper} {Q : Exit → Act → World → Prop} {N : Nat} {D : List Deferred} {L : FL} {C : List Chunk} {K : Act → World → Prop}
variable {Fs : List (List Nat × (World → Prop))}
theorem WD.three {i j l fuel : Nat} {oi oj ol : Oper} {listed : Array Bool} (hr : Region.ready .any ops listed = [i, j, l]) (hi : ops[i]? = some oi) (hj : ops[j]? = some oj) (hl : ops[l]? = some ol)
  (h : WK P w0 O ops Q oi (fun a w => Sx Fs (listed.setIfInBounds i true) w ∧ wpAnyT P ops Q Fs fuel (listed.setIfInBounds i true) a w) N D L C)
  (h' : WK P w0 O ops Q oj (fun a w => Sx Fs (listed.setIfInBounds j true) w ∧ wpAnyT P ops Q Fs fuel (listed.setIfInBounds j true) a w) N D L C)
  (h'' : WK P w0 O ops Q ol (fun a w => Sx Fs (listed.setIfInBounds l true) w ∧ wpAnyT P ops Q Fs fuel (listed.setIfInBounds l true) a w) N D L C) : WD P w0 O ops Q Fs (fuel + 1) listed N D L C := fun hc a w hFr hS hSx => by
 refine ⟨fun h => (by rw [h] at hr; cases hr), fun k hk => ?_⟩
 rw [hr] at hk
 simp only [List.mem_cons, List.not_mem_nil, or_false] at hk
 rcases hk with rfl | rfl | rfl
 ·have := h a w hFr hS
  unfold wpOp
  simp only [hi]
  exact this
 ·have := h' a w hFr hS
  unfold wpOp
  simp only [hj]
  exact this
 ·have := h'' a w hFr hS
  unfold wpOp
  simp only [hl]
  exact this
end
open Go Go.RowKit
section
variable {P : Program} {w0 : World} {O : List Nat} {ops : Array Oper} {Q : Exit → Act → World → Prop} {N : Nat} {D : List Deferred} {L : FL} {C : List Chunk} {K : Act → World → Prop}
variable {d : Nat} {ty : TypeId} {pos : String} {af : Array Edge}
variable {κ : Type} [DecidableEq κ] {enc : κ → Value} {kt : TypeId}
theorem WL.insertG {t et : TypeId} {x y z : Operand} {b : Nat} {f : κ → Option Value} {vy v : Value} {C' : List Chunk} (k : κ) (hm : P.underlying t = some (.map kt et)) (hk : KeyT P kt enc)
  (hx : ev L x = some (.map (some b))) (hy : ev L y = some vy) (hvy : vy = enc k) (hz : ev L z = some v) (hu : Upd (mpg enc b f) (mpg enc b (fun q => if q = k then some v else f q)) C C') (h : WA w0 O K N D L C') :
  WK P w0 O ops Q ⟨none, .insert t x y z, ty, pos, af, none⟩ K N D L C := fun a w hF hS => by
 subst hvy
 obtain ⟨es, clock, kvs, h1, h2, h3, hI⟩ := hS.ok _ hu.mem
 have hb : b < w.heap.size := ((hS.bnd _ hu.mem) b rfl).1
 have hf := hk.find w k es.toList kvs h2
 cases hh : kidx kvs k 0 with
 | none =>
  rw [hh] at hf
  have hr : (Instr.mapUpdate t (.map (some b)) (enc k) v).run P w = .ok () { w with heap := w.heap.setIfInBounds b (.map (es.push { key := enc k, val := v, born := clock }) (clock + 1)) } := by
   simp [Instr.mapUpdate, run_underlying hm, MapKept.run_getObj_map h1, hk.check, hf, MapKept.run_setObj_map _ h1, Result.andThen]
  refine wpo_skip rfl (w' := { w with heap := w.heap.setIfInBounds b (.map (es.push { key := enc k, val := v, born := clock }) (clock + 1)) }) ?_ (h _ _ hF (hS.setObj hu (fun k => Iff.rfl) (fun k => Iff.rfl) ⟨es.push { key := enc k, val := v, born := clock }, clock + 1, kvs ++ [(k, v)], ?_, ?_, ?_, ?_⟩))
  ·simp [execOp, hF.ev hx, hF.ev hy, hF.ev hz, hr]
  ·show (w.heap.setIfInBounds b _)[b]? = _
   rw [Array.getElem?_setIfInBounds_self_of_lt hb]
  ·simp [h2]
  ·intro q
   rw [kfind_snoc (kidx_none.1 hh) q]
   simp only [h3]
  ·have := hI.push (kfind_mem (kidx_none.1 hh)) (enc k) v
   simpa using this
 | some p =>
  obtain ⟨j, u⟩ := p
  rw [hh] at hf
  obtain ⟨_, g2, g3, g4⟩ := kidx_some hh
  simp only [Nat.sub_zero] at g2 g4
  have hlen : es.toList.length = kvs.length := by have := congrArg List.length h2; simpa using this
  have hjl : j < es.toList.length := by rw [hlen]; exact (List.getElem?_eq_some_iff.1 g2).1
  have hej : es.toList[j]? = some es.toList[j] := List.getElem?_eq_getElem hjl
  have hkey : es.toList[j].key = enc k := by
   have e1 : (es.toList.map (fun e => (e.key, e.val)))[j]? = some (es.toList[j].key, es.toList[j].val) := by rw [List.getElem?_map, hej]; rfl
   rw [h2, List.getElem?_map, g2] at e1
   simp only [Option.map_some, Option.some.injEq, Prod.mk.injEq] at e1
   exact e1.1.symm
  have hej' : es[j]? = some es.toList[j] := by rw [← Array.getElem?_toList]; exact hej
  have hkey2 := hkey
  simp only [Array.getElem_toList] at hkey2
  have hr : (Instr.mapUpdate t (.map (some b)) (enc k) v).run P w = .ok () { w with heap := w.heap.setIfInBounds b (.map (es.modify j fun e => { e with key := enc k, val := v }) clock) } := by
   simp [Instr.mapUpdate, run_underlying hm, MapKept.run_getObj_map h1, hk.check, hf, MapKept.run_setObj_map _ h1, Result.andThen, hej', hkey, hkey2, hk.stays]
  refine wpo_skip rfl (w' := { w with heap := w.heap.setIfInBounds b (.map (es.modify j fun e => { e with key := enc k, val := v }) clock) }) ?_ (h _ _ hF (hS.setObj hu (fun k => Iff.rfl) (fun k => Iff.rfl) ⟨es.modify j fun e => { e with key := enc k, val := v }, clock, kvs.set j (k, v), ?_, ?_, ?_, ?_⟩))
  ·simp [execOp, hF.ev hx, hF.ev hy, hF.ev hz, hr]
  ·show (w.heap.setIfInBounds b _)[b]? = _
   rw [Array.getElem?_setIfInBounds_self_of_lt hb]
  ·rw [Array.toList_modify, map_modify_set _ _ _ _ _ hej, h2, List.map_set]
  ·intro q
   rw [g4 v q]
   simp only [h3]
  ·rw [Array.toList_modify]
   have e1 : (kvs.set j (k, v)).map Prod.fst = kvs.map Prod.fst := by
    rw [List.map_set]
    refine List.ext_getElem? fun i => ?_
    rw [List.getElem?_set]
    split
    ·rename_i e
     subst e
     have hj : j < kvs.length := (List.getElem?_eq_some_iff.1 g2).1
     rw [if_pos (by simpa using hj), List.getElem?_map, g2]; rfl
    ·rfl
   rw [e1]
   exact hI.modify (fun e => { e with key := enc k, val := v }) (fun _ => rfl) j
theorem WC.cutQ {c : Code} (M : FL) (C' : List Chunk) (hq : NoLook Q) (hx : ∀ Q', NoLook Q' → WQ w0 O Q' .normal N D M C' → WC P w0 O c Q' N D L C) (hy : WQ w0 O Q .normal N D M C') : WC P w0 O c Q N D L C := hx Q hq hy
theorem Yl.minI {F : World → Prop} {x y : Operand} {k k' : IntKind} {m n r : Int} {ts : Array TypeId} (hx : ev L x = some (.int k m)) (hy : ev L y = some (.int k' n)) (hr : (if n < m then n else m) = r) :
  Yl P N D L F ⟨some d, .call { callee := .builtin .min, args := #[x, y], argTypes := ts }, ty, pos, af, none⟩ (.int k r) := fun a w hF _ => by
 subst hr
 simp [execOp, resolve, invoke, builtin, hF.ev hx, hF.ev hy, Builtin.min_, Builtin.min2]
theorem WL.minI {x y : Operand} {k k' : IntKind} {m n r : Int} {ts : Array TypeId} (hd : Nat.blt d N = true) (hx : ev L x = some (.int k m)) (hy : ev L y = some (.int k' n)) (hr : (if n < m then n else m) = r)
  (h : WA w0 O K N D ((d, .int k r) :: L) C) :
  WK P w0 O ops Q ⟨some d, .call { callee := .builtin .min, args := #[x, y], argTypes := ts }, ty, pos, af, none⟩ K N D L C :=
 WL.y (F := fun _ => True) (Yl.minI hx hy hr) hd (fun _ _ => trivial) h
theorem WL.min3 {x y z : Operand} {k k' k'' : IntKind} {m n o r : Int} {ts : Array TypeId} (hd : Nat.blt d N = true) (hx : ev L x = some (.int k m)) (hy : ev L y = some (.int k' n)) (hz : ev L z = some (.int k'' o)) (hr : (if o < (if n < m then n else m) then o else (if n < m then n else m)) = r)
  (h : WA w0 O K N D ((d, .int k r) :: L) C) :
  WK P w0 O ops Q ⟨some d, .call { callee := .builtin .min, args := #[x, y, z], argTypes := ts }, ty, pos, af, none⟩ K N D L C := by
 subst hr
 refine WL.y (F := fun _ => True) (fun a w hF _ => ?_) hd (fun _ _ => trivial) h
 simp [execOp, resolve, invoke, builtin, hF.ev hx, hF.ev hy, hF.ev hz, Builtin.min_, Builtin.min2]
end
end Go.Eng
namespace Go.Proofs.YtnldjikcnahioaaGreatDoor
open Go Go.Eng Go.Proofs Dg
theorem venv_of {w0 w : World} {O : List Nat} {Fv : List Nat} {b2 b4 b5 b6 b7 b9 bm bk c : Nat} {l : List Dec} {a : Option Addr} {fk : Dec → Option Nat} (hS : St w0 O [vis Fv b5 b9 l [], pt b7 [visF b6 b2 b7 b5] 127, pt b6 [.map (some b9)] 126, pt b2 [pp bm] 79, pt b4 [.slice none 0 0, .int .i64 0] 33, pt bm [.slice a l.length c, .map (some bk)] 124, rowc (.slice a l.length c) l.length 78 3 (decs l), mpg enc3 bk (fun y => (fk y).map encI)] w) : VEnv w Fv b6 b2 b7 b5 b9 bm l a c := by
 have hd := hS.disj
 simp only [List.pairwise_cons, List.mem_cons, List.not_mem_nil, or_false, forall_eq_or_imp, forall_eq] at hd
 obtain ⟨⟨d1, d2, d3, d4, d5, d6, d7⟩, _⟩ := hd
 have hap : ∀ {b : Nat} {cs : List Value} {e : TypeId}, (∀ k, (vis Fv b5 b9 l []).fp k → ¬ (pt b cs e).fp k) → b ∉ Fv := fun h hb => h _ hb rfl
 refine ⟨hS.cell jM rfl, hap d2, hS.cell jM rfl, hap d3, hS.cell jM rfl, hap d1, hS.cell (cs := [.slice a l.length c, .map (some bk)]) jM rfl, hap d5, fun j u hu => ?_⟩
 obtain ⟨b, off, e1, e2⟩ := RdDec.of_row (l := l) (a := a) (cap := c) rfl (hS.ok (rowc (.slice a l.length c) l.length 78 3 (decs l)) jM) j u hu
 refine ⟨b, off, e1, e2, fun hb => d6 b hb ?_⟩
 show (Value.slice a l.length c).ownBlock = some b
 have hpos : 0 < l.length := by
  have h1 := (List.getElem?_eq_some_iff.1 hu).1
  rw [decs_len] at h1; omega
 obtain ⟨g, hg, _, _⟩ := rowc_addr (hS.ok (rowc (.slice a l.length c) l.length 78 3 (decs l)) jM) hpos
 subst hg
 injection e1 with e
 injection e with e _
 rw [← e]; rfl
theorem done_c (Fp : List Nat) (bm : Nat) (l : List Dec) (r : Nat) (w : World) (hm : Mk l) (hr : r < l.length + 2) (ho : (trs l r).ok 0) (hlen : l.length ≤ 16777216) (hS0 : St w Fp [mkr Fp bm l] w) :
  Calls Tryz.prog 24 [pp bm, .int .i64 (r : Int)].toArray w fun e w' => ∃ x : Option Addr × Nat, e = .returned (dval (trs l r) x.1 x.2) ∧ St w Fp [dC x.1 x.2 (trs l r)] w' := by
 obtain ⟨⟨a, c, bk, fk⟩, hk, h1, h2, hS0⟩ := hS0.bunOpen
 simp only [List.cons_append, List.nil_append] at hS0
 refine enter Tryz.func24 rfl Tryz.ntmps24 rfl (C := [pt bm [.slice a l.length c, .map (some bk)] 124, rowc (.slice a l.length c) l.length 78 3 (decs l), mpg enc3 bk (fun y => (fk y).map encI)]) hS0 ?_
 refine jN 3 ?_
 refine WL.box1 rfl rfl rfl (fun b2 => ?_)
 refine jN 1 ?_
 refine WL.alloc F.zero33 rfl (fun b4 => ?_)
 refine jN 5 ?_
 refine WL.alloc F.zero31 rfl (fun b5 => ?_)
 refine jN 5 ?_
 refine WL.makeMapG encI rfl (fun b9 => ?_)
 refine jN 1 ?_
 refine WL.insertG (f := fun _ : Nat => none) 0 undMI keyInt rfl rfl rfl rfl jU ?_
 refine jN 1 ?_
 refine WL.insertG (f := fun q : Nat => if q = 0 then some (.int .i64 0) else none) 1 undMI keyInt rfl rfl rfl rfl jU ?_
 refine jN 3 ?_
 refine WL.alloc F.zero126 rfl (fun b6 => ?_)
 refine jN 7 ?_
 refine WL.alloc F.zero127 rfl (fun b7 => ?_)
 refine jN 12 ?_
 refine WA.chunksE (C' := fun Fv => [vis Fv b5 b9 l [], pt b7 [visF b6 b2 b7 b5] 127, pt b6 [.map (some b9)] 126, pt b2 [pp bm] 79, pt b4 [.slice none 0 0, .int .i64 0] 33, pt bm [.slice a l.length c, .map (some bk)] 124, rowc (.slice a l.length c) l.length 78 3 (decs l), mpg enc3 bk (fun y => (fk y).map encI)]) (fun w hS => ?_) (fun Fv => ?_)
 ·exact St.visClose (l := l) (o := []) (a := none) (c := 0) (bk := b9) (bo := b5) (n := 0) (PlaceOk.nil hm) place_map0 rfl rfl (jK (hS.rowNil 78 3))
 refine jN 5 ?_
 refine WL.callFC (β := List Nat) (us := []) (cap := [pp b6, pp b2, pp b7, pp b5]) (res := fun y => .int .i64 ((visitT (trs l r) []).2 : Int)) (cs := fun y => [vis y b5 b9 l (visitT (trs l r) []).1]) (Cs := [vis Fv b5 b9 l []]) (C1 := [pt b7 [visF b6 b2 b7 b5] 127, pt b6 [.map (some b9)] 126, pt b2 [pp bm] 79, pt b4 [.slice none 0 0, .int .i64 0] 33, pt bm [.slice a l.length c, .map (some bk)] 124, rowc (.slice a l.length c) l.length 78 3 (decs l), mpg enc3 bk (fun y => (fk y).map encI)]) (O' := Fv) F.fun59 (fun d h => by cases h; rfl) rfl rfl (List.Perm.refl _) bun_O1 bun_O2 (fun w hS hS2 => visit_c b6 b2 b7 b5 b9 bm l a c hm (by omega) (r + 1) r (Nat.lt_succ_self _) Fv [] w hr Mk.nil ⟨_, ho⟩ (Nat.le_of_lt (canon_len ho)) (venv_of hS) hS2) (fun F2 => ?_)
 refine jN 6 ?_
 refine WA.openB (fun x3 hk3 h13 h23 => ?_)
 obtain ⟨a3, c3, f3⟩ := x3
 simp only [viCs, List.cons_append, List.nil_append]
 refine jN 11 ?_
 refine WQ.ret (rs := [.cell 4 33]) rfl (.cellN F.agg33 rfl jM rfl .nil) (fun w hS => ⟨(a3, c3), rfl, (jK hS)⟩)
structure FoldG (σ : Type) where
 i : Nat
 out : List Int
 ad : Option Addr
 ac : Nat
 s : σ
theorem Fold_c {σ : Type} (ch : σ → Chunk) (Fs : σ → List Nat) (hF : ∀ s, FpIs (ch s) (Fs s)) (fj : Nat) (hg : funB Tryz.prog fj = some true) (us cap : List Value) (l : List Dec) (a : Option Addr) (c root : Nat) (e0 e1 : Int) (I : List Int → σ → Prop)
  (hll : l.length ≤ 16777216) (hkid : ∀ k x, l[k]? = some x → x.2.1 < k + 2 ∧ x.2.2 < k + 2) (hroot : root < l.length + 2) (s0 : σ) (h0 : I [e0, e1] s0)
  (hj : ∀ (out : List Int) (s : σ) (x : Dec) (z1 z2 : Int) (w : World), l[out.length - 2]? = some x → I out s → out[x.2.1]? = some z1 → out[x.2.2]? = some z2 → St w (Fs s) [ch s] w →
   Calls Tryz.prog fj (us ++ [Value.int .i64 (x.1 : Int), .int .i64 z1, .int .i64 z2] ++ cap).toArray w fun e w' => ∃ y : { y : σ × Int // I (out ++ [y.2]) y.1 }, e = .returned (.int .i64 y.1.2) ∧ St w (Fs s) [ch y.1.1] w')
  (w : World) (hrd : RdDecO w l a (Fs s0)) (hS0 : St w (Fs s0) [ch s0] w) :
  Calls Tryz.prog 123 [.agg [.slice a l.length c, .int .i64 (root : Int)].toArray, .int .i64 e0, .int .i64 e1, Value.func (.func fj) us.toArray cap.toArray].toArray w fun e w' =>
   ∃ y : { y : List Int × σ × Int // I y.1 y.2.1 ∧ y.1.length = l.length + 2 ∧ y.1[root]? = some y.2.2 }, e = .returned (.int .i64 y.1.2.2) ∧ St w (Fs s0) [ch y.1.2.1] w' := by
 refine enter Tryz.func123 rfl Tryz.ntmps123 rfl (C := [ch s0]) hS0 ?_
 refine jN 3 ?_
 refine WL.boxN rfl rfl (fun b4 => ?_)
 refine jN 11 ?_
 refine WL.buildSlice F.sl30 F.ez30 rfl rfl rfl rfl jB rfl (fun b14 => ?_)
 refine jN 18 ?_
 refine WC.chunks (fun w hS => St.rowOf (n := 2) (sz := 1) (cs := [e0, e1].map (Value.int .i64)) (hS.pick (c := pt b14 [.int .i64 e0, .int .i64 e1] 3) jR) rfl (by decide)) ?_
 refine WC.chunks (C' := [ch s0, rowc (.slice (some ⟨b14, 0, none⟩) 2 2) 2 3 1 ([e0, e1].map (Value.int .i64)), pt b4 [.slice a l.length c, .int .i64 (root : Int)] 33]) (fun w hS => (jK hS)) ?_
 refine WC.loop (α := FoldG σ) (fun g => g.i ≤ l.length ∧ g.out.length = g.i + 2 ∧ I g.out g.s) (fun g => [(3, Value.func (.func fj) us.toArray cap.toArray), (4, pp b4), (9, .slice g.ad (g.i + 2) g.ac), (16, .slice a l.length c), (17, .int .i64 (l.length : Int)), (18, .int .i64 (g.i : Int))]) (fun g => [ch g.s, rowc (.slice g.ad (g.i + 2) g.ac) (g.i + 2) 3 1 (g.out.map (Value.int .i64)), pt b4 [.slice a l.length c, .int .i64 (root : Int)] 33]) (fun g => l.length - g.i) (⟨0, [e0, e1], some ⟨b14, 0, none⟩, 2, s0⟩) ?_ ?_ ?_ ?_
 ·exact ⟨Nat.zero_le _, rfl, h0⟩
 ·exact ⟨rfl, rfl, rfl, rfl, rfl, rfl, trivial⟩
 ·rfl
 rintro ⟨i, out, ad, ac, s⟩ ⟨hi, hol, hI⟩
 dsimp only at hi hol hI
 show WC _ _ _ _ _ _ _ [(3, Value.func (.func fj) us.toArray cap.toArray), (4, pp b4), (9, .slice ad (i + 2) ac), (16, .slice a l.length c), (17, .int .i64 (l.length : Int)), (18, .int .i64 (i : Int))] [ch s, rowc (.slice ad (i + 2) ac) (i + 2) 3 1 (out.map (Value.int .i64)), pt b4 [.slice a l.length c, .int .i64 (root : Int)] 33]
 refine jN 7 ?_
 refine WC.cond rfl (fun h19 => ?_) (fun h19 => ?_)
 ·have hlt : i < l.length := by simpa using h19
  obtain ⟨x, hx⟩ : ∃ x, l[i]? = some x := ⟨_, List.getElem?_eq_getElem hlt⟩
  obtain ⟨k1, k2⟩ := hkid i x hx
  obtain ⟨bl, off, rfl, hbl, hcx⟩ := hrd.at hx
  obtain ⟨z1, hz1⟩ : ∃ z, out[x.2.1]? = some z := ⟨_, List.getElem?_eq_getElem (by omega)⟩
  obtain ⟨z2, hz2⟩ : ∃ z, out[x.2.2]? = some z := ⟨_, List.getElem?_eq_getElem (by omega)⟩
  refine jN 7 ?_
  refine WL.indexAddr F.sl31 rfl rfl rfl hlt ?_
  refine jN 1 ?_
  refine WL.loadN F.agg78 rfl rfl (vs := [Value.int .i64 (x.1 : Int), .int .i64 (x.2.1 : Int), .int .i64 (x.2.2 : Int)]) rfl (fun w hS j v hv => hS.oldc (hcx j v hv) hbl) ?_
  refine jN 1 ?_
  refine WL.alloc F.zero78 rfl (fun b11 => ?_)
  refine jN 4 ?_
  refine WC.know (φ := ∃ g2, ad = some ⟨g2, 0, none⟩ ∧ i + 2 = i + 2 ∧ i + 2 ≤ ac) (fun w hS => rowc_addr (hS.ok (rowc (.slice ad (i + 2) ac) (i + 2) 3 1 (out.map (Value.int .i64))) jM) (by omega)) (fun ⟨g2, hg2, _, _⟩ => ?_)
  ·subst hg2
   refine WC.drawsL (by kernel_rfl) (FactsOk.cons (ds := [14, 15, 16]) (LoadOk.one (t := 11) (off := 0) rfl jM rfl) (FactsOk.cons (ds := [14, 15, 16]) (LoadOk.one (t := 11) (off := 1) rfl jM rfl) (FactsOk.cons (ds := [14, 15, 16]) (LoadOk.by (Y := fun w => w.cell? ⟨g2, 0 + x.2.1 * 1, none⟩ = some (.int .i64 z1)) (fun w hS => by rw [Nat.zero_add, Nat.mul_one]; exact rowc_cell (hS.ok (rowc (.slice (some ⟨g2, 0, none⟩) (i + 2) ac) (i + 2) 3 1 (out.map (Value.int .i64))) jM) (by simp [hz1]))) (FactsOk.cons (ds := [14, 15, 16]) (LoadOk.one (t := 11) (off := 2) rfl jM rfl) (FactsOk.cons (ds := [14, 15, 16]) (LoadOk.by (Y := fun w => w.cell? ⟨g2, 0 + x.2.2 * 1, none⟩ = some (.int .i64 z2)) (fun w hS => by rw [Nat.zero_add, Nat.mul_one]; exact rowc_cell (hS.ok (rowc (.slice (some ⟨g2, 0, none⟩) (i + 2) ac) (i + 2) 3 1 (out.map (Value.int .i64))) jM) (by simp [hz2]))) (FactsOk.nil)))))) ?_
   refine jT 0 rfl (Yl.move rfl) ?_
   refine jT 1 rfl (Yl.move rfl) ?_
   refine jT 2 rfl (Yl.fieldAddr0 F.fld78_0 rfl) ?_
   refine jF 3 0 rfl rfl (Yl.load1 F.one3 rfl) ?_
   refine jT 4 rfl (Yl.move rfl) ?_
   refine jT 5 rfl (Yl.fieldAddr0 F.fld78_1 rfl) ?_
   refine jF 6 1 rfl rfl (Yl.load1 F.one3 rfl) ?_
   refine jT 7 rfl (Yl.indexAddr F.sl30 rfl rfl (by omega)) ?_
   refine jF 8 2 rfl rfl (Yl.load1 F.one3 rfl) ?_
   refine jT 9 rfl (Yl.move rfl) ?_
   refine jT 10 rfl (Yl.fieldAddr0 F.fld78_2 rfl) ?_
   refine jF 11 3 rfl rfl (Yl.load1 F.one3 rfl) ?_
   refine jT 12 rfl (Yl.indexAddr F.sl30 rfl rfl (by omega)) ?_
   refine jF 13 4 rfl rfl (Yl.load1 F.one3 rfl) ?_
   refine jA 14 rfl ?_
   refine WL.callFC (β := { y : σ × Int // I (out ++ [y.2]) y.1 }) (us := us) (cap := cap) (res := fun y => .int .i64 y.1.2) (cs := fun y => [ch y.1.1]) (Cs := [ch s]) (C1 := [pt b11 [Value.int .i64 (x.1 : Int), .int .i64 (x.2.1 : Int), .int .i64 (x.2.2 : Int)] 78, rowc (.slice (some ⟨g2, 0, none⟩) (i + 2) ac) (i + 2) 3 1 (out.map (Value.int .i64)), pt b4 [.slice (some ⟨bl, off, none⟩) l.length c, .int .i64 (root : Int)] 33]) (O' := Fs s) hg (fun d h => by cases h; rfl) rfl rfl ?_ (fun c hc k hk => (by rw [List.mem_singleton.1 hc] at hk; exact (hF s k).1 hk)) (fun k hk => ⟨_, List.mem_singleton.2 rfl, (hF s k).2 hk⟩) (fun w hS hS2 => hj out s x z1 z2 w (by rw [hol]; simpa using hx) hI hz1 hz2 hS2) (fun y36 => ?_)
   ·exact ((List.Perm.swap _ _ _).trans (List.Perm.refl _))
   refine jG ?_
   refine jA 15 rfl ?_
   refine WL.buildSlice F.sl30 F.ez30 rfl rfl rfl rfl jB rfl (fun b37 => ?_)
   refine jG ?_
   refine jA 16 rfl ?_
   refine WL.appendE (news := [.int .i64 y36.1.2]) F.el30 rfl rfl rfl jR (fun w hS jj u hu => by rw [Nat.zero_add]; exact hS.cell (cs := [.int .i64 y36.1.2]) jM hu) rfl jO (Nat.le_trans (m := 33554432) (by omega) (by decide)) (by omega) (fun ad2 ac2 => ?_)
   refine jG ?_
   refine jT 17 rfl (Yl.assign rfl) ?_
   refine jD ?_
   refine jN 8 ?_
   refine WQ.chunks (C' := [ch y36.1.1, rowc (.slice ad2 (i + 1 + 2) ac2) (i + 1 + 2) 3 1 ((out ++ [y36.1.2]).map (Value.int .i64)), pt b4 [.slice (some ⟨bl, off, none⟩) l.length c, .int .i64 (root : Int)] 33]) (fun w hS => ?_) ?_
   ·rw [List.map_append]
    exact (jK hS)
   refine WQ.back (⟨i + 1, out ++ [y36.1.2], ad2, ac2, y36.1.1⟩) ?_ ?_ ?_ ?_
   ·exact ⟨by show i + 1 ≤ _; omega, by simp [hol], y36.2⟩
   ·(show l.length - (i + 1) < l.length - i; omega)
   ·exact ⟨rfl, rfl, rfl, rfl, rfl, rfl, trivial⟩
   ·rfl
 ·have hie : i = l.length := by simp at h19; omega
  subst hie
  obtain ⟨z, hz⟩ : ∃ z, out[root]? = some z := ⟨_, List.getElem?_eq_getElem (by omega)⟩
  refine jN 7 ?_
  refine WA.know (φ := ∃ g2, ad = some ⟨g2, 0, none⟩ ∧ l.length + 2 = l.length + 2 ∧ l.length + 2 ≤ ac) (fun w hS => rowc_addr (hS.ok (rowc (.slice ad (l.length + 2) ac) (l.length + 2) 3 1 (out.map (Value.int .i64))) jM) (by omega)) (fun ⟨g2, hg2, _, _⟩ => ?_)
  subst hg2
  refine jN 7 ?_
  refine WL.indexAddr F.sl30 rfl rfl rfl (by omega) ?_
  refine jN 1 ?_
  refine WL.load1 F.one3 rfl rfl (v := .int .i64 z) (fun w hS => by rw [Nat.zero_add, Nat.mul_one]; exact rowc_cell (hS.ok (rowc (.slice (some ⟨g2, 0, none⟩) (l.length + 2) ac) (l.length + 2) 3 1 (out.map (Value.int .i64))) jM) (by simp [hz])) ?_
  refine jN 5 ?_
  refine WQ.ret (rs := [.tmp 8]) rfl (.tmp rfl .nil) (fun w hS => ⟨⟨(out, s, z), hI, hol, hz⟩, rfl, (jK hS)⟩)
end Go.Proofs.YtnldjikcnahioaaGreatDoor
namespace Dg
def atD (l : List Dec) (r : Nat) : Dec := if r < 2 then (24, r, r) else l.getD (r - 2) (24, r, r)
theorem atD_ge {l : List Dec} {r : Nat} {x : Dec} (h2 : 2 ≤ r) (hx : l[r - 2]? = some x) : atD l r = x := by
 unfold atD
 rw [if_neg (by omega)]
 simp [List.getD, hx]
def loP (l : List Dec) (r i : Nat) : Nat := if (atD l r).1 = i then (atD l r).2.1 else r
def hiP (l : List Dec) (r i : Nat) : Nat := if (atD l r).1 = i then (atD l r).2.2 else r
theorem half_at {l : List Dec} (h : Mk l) {r i : Nat} (hr : r < l.length + 2) {m : Nat} (ho : (trs l r).ok m) (hi : i ≤ (atD l r).1) (hi24 : i < 24) :
  loP l r i < l.length + 2 ∧ hiP l r i < l.length + 2 ∧ (trs l (loP l r i)).ok (i + 1) ∧ (trs l (hiP l r i)).ok (i + 1) ∧ (∀ c, (trs l r).ev c = bif c i then (trs l (hiP l r i)).ev c else (trs l (loP l r i)).ev c) ∧ ((atD l r).1 = i → m ≤ i) ∧ ((atD l r).1 = i → 2 ≤ r) := by
 unfold loP hiP
 rcases Nat.lt_or_ge r 2 with h2 | h2
 ·have e : atD l r = (24, r, r) := by unfold atD; rw [if_pos h2]
  rw [e]
  have hne : ¬ ((24, r, r) : Dec).1 = i := by simp only; omega
  simp only [if_neg hne]
  have hlf : ∃ b, trs l r = .lf b := by
   rcases r with _ | _ | r
   ·exact ⟨_, (trs_zero l).1⟩
   ·exact ⟨_, (trs_zero l).2⟩
   ·omega
  obtain ⟨b, hb⟩ := hlf
  rw [hb]
  exact ⟨hr, hr, trivial, trivial, fun c => by cases c i <;> rfl, fun h => absurd h hne, fun h => absurd h hne⟩
 ·obtain ⟨k, rfl⟩ : ∃ k, r = k + 2 := ⟨r - 2, by omega⟩
  have hk : k < l.length := by omega
  have hx := List.getElem?_eq_getElem hk
  have e : atD l (k + 2) = l[k] := atD_ge h2 hx
  have hb := h.kid k _ hx
  have ht := h.at hx
  rw [e] at hi ⊢
  rw [ht] at ho ⊢
  by_cases hv : l[k].1 = i
  ·simp only [if_pos hv]
   refine ⟨by omega, by omega, hv ▸ ho.2.2.2.1, hv ▸ ho.2.2.2.2, fun c => ?_, fun _ => hv ▸ ho.1, fun _ => h2⟩
   simp only [BT.ev, hv]
  ·simp only [if_neg hv]
   have hok : (BT.nd l[k].1 (trs l l[k].2.1) (trs l l[k].2.2)).ok (i + 1) := ⟨by omega, ho.2⟩
   rw [ht]
   exact ⟨hr, hr, hok, hok, fun c => by cases c i <;> rfl, fun h => absurd h hv, fun h => absurd h hv⟩
theorem atD_lt {l : List Dec} (h : Mk l) {r : Nat} (hr : r < l.length + 2) (h2 : 2 ≤ r) : (atD l r).1 < 24 := by
 obtain ⟨k, rfl⟩ : ∃ k, r = k + 2 := ⟨r - 2, by omega⟩
 have hk : k < l.length := by omega
 rw [atD_ge h2 (List.getElem?_eq_getElem hk)]
 exact (h.kid k _ (List.getElem?_eq_getElem hk)).1
theorem atD_ok {l : List Dec} (h : Mk l) {r m : Nat} (hr : r < l.length + 2) (ho : (trs l r).ok m) (hm : m ≤ 24) : m ≤ (atD l r).1 := by
 rcases Nat.lt_or_ge r 2 with h2 | h2
 ·unfold atD; rw [if_pos h2]; exact hm
 ·obtain ⟨k, rfl⟩ : ∃ k, r = k + 2 := ⟨r - 2, by omega⟩
  have hk : k < l.length := by omega
  rw [atD_ge h2 (List.getElem?_eq_getElem hk)]
  rw [h.at (List.getElem?_eq_getElem hk)] at ho
  exact ho.1
structure JR (bop : Bool → Bool → Bool) (l : List Dec) (r : Nat) (s t : BT) : Prop where
 lt : r < l.length + 2
 ok : ∀ j, s.ok j → t.ok j → (trs l r).ok j
 ev : ∀ c, (trs l r).ev c = bop (s.ev c) (t.ev c)
theorem JR.ext {bop : Bool → Bool → Bool} {l : List Dec} {r : Nat} {s t : BT} (h : JR bop l r s t) {l' : List Dec} (hp : ∃ z, l' = l ++ z) : JR bop l' r s t := by
 obtain ⟨z, rfl⟩ := hp
 have e := trs_append (m := z) h.lt
 exact ⟨by rw [List.length_append]; have := h.lt; omega, fun j hs ht => by rw [e]; exact h.ok j hs ht, fun c => by rw [e]; exact h.ev c⟩
def SeenOk (bop : Bool → Bool → Bool) (la lb l : List Dec) (f : Nat × Nat → Option Nat) : Prop := ∀ x y r, f (x, y) = some r → JR bop l r (trs la x) (trs lb y)
theorem SeenOk.ext {bop : Bool → Bool → Bool} {la lb l l' : List Dec} {f : Nat × Nat → Option Nat} (h : SeenOk bop la lb l f) (hp : ∃ z, l' = l ++ z) : SeenOk bop la lb l' f := fun x y r hr => (h x y r hr).ext hp
theorem SeenOk.put {bop : Bool → Bool → Bool} {la lb l : List Dec} {f : Nat × Nat → Option Nat} (h : SeenOk bop la lb l f) {x y r : Nat} (hr : JR bop l r (trs la x) (trs lb y)) : SeenOk bop la lb l (fun q => if q = (x, y) then some r else f q) := by
 intro x' y' r' h'
 by_cases e : (x', y') = (x, y)
 ·simp only [if_pos e, Option.some.injEq] at h'
  cases e
  rw [← h']; exact hr
 ·simp only [if_neg e] at h'
  exact h x' y' r' h'
structure OpSpec (bop : Bool → Bool → Bool) (opf : Nat → Nat → Nat × Bool) : Prop where
 stop : ∀ x y, (opf x y).2 = true → ∃ b : Bool, (opf x y).1 = (bif b then 1 else 0) ∧ ∀ p q : Bool, (x = 0 → p = false) → (x = 1 → p = true) → (y = 0 → q = false) → (y = 1 → q = true) → bop p q = b
 go : ∀ x y, (opf x y).2 = false → 2 ≤ x ∨ 2 ≤ y
theorem OpSpec.done {bop : Bool → Bool → Bool} {opf : Nat → Nat → Nat × Bool} (h : OpSpec bop opf) {la lb l : List Dec} {x y : Nat} (hs : (opf x y).2 = true) : JR bop l (opf x y).1 (trs la x) (trs lb y) := by
 obtain ⟨b, h1, h2⟩ := h.stop x y hs
 have hb : trs l (opf x y).1 = .lf b := by
  rw [h1]; cases b
  ·exact (trs_zero l).1
  ·exact (trs_zero l).2
 refine ⟨by rw [h1]; cases b <;> simp, fun j _ _ => by rw [hb]; trivial, fun c => ?_⟩
 rw [hb]
 symm
 refine h2 _ _ (fun e => ?_) (fun e => ?_) (fun e => ?_) (fun e => ?_)
 ·rw [e, (trs_zero la).1]; rfl
 ·rw [e, (trs_zero la).2]; rfl
 ·rw [e, (trs_zero lb).1]; rfl
 ·rw [e, (trs_zero lb).2]; rfl
theorem JR.node {bop : Bool → Bool → Bool} {la lb l1 l2 l3 : List Dec} {x y i p q r m : Nat} (ha : Mk la) (hb : Mk lb) (hx : x < la.length + 2) (hy : y < lb.length + 2) (hox : (trs la x).ok m) (hoy : (trs lb y).ok m) (hi : i = min (atD la x).1 (atD lb y).1) (hi24 : i < 24)
  (h1 : JR bop l1 p (trs la (loP la x i)) (trs lb (loP lb y i))) (h2 : JR bop l2 q (trs la (hiP la x i)) (trs lb (hiP lb y i))) (he : ∃ z, l2 = l1 ++ z) (h3 : MadeN l2 l3 r (mkN i (trs l2 p) (trs l2 q))) : JR bop l3 r (trs la x) (trs lb y) := by
 have hix : i ≤ (atD la x).1 := by omega
 have hiy : i ≤ (atD lb y).1 := by omega
 obtain ⟨a1, a2, a3, a4, a5, a6, _⟩ := half_at ha hx hox hix hi24
 obtain ⟨b1, b2, b3, b4, b5, b6, _⟩ := half_at hb hy hoy hiy hi24
 have h1' := h1.ext he
 refine ⟨h3.lt, fun j hs ht => ?_, fun c => ?_⟩
 ·rw [h3.tree]
  refine mkN_ok ?_ hi24 (h1'.ok _ a3 b3) (h2.ok _ a4 b4)
  have e : (atD la x).1 = i ∨ (atD lb y).1 = i := by omega
  rcases e with e | e
  ·exact (half_at ha hx hs hix hi24).2.2.2.2.2.1 e
  ·exact (half_at hb hy ht hiy hi24).2.2.2.2.2.1 e
 ·rw [h3.tree, mkN_ev, a5 c, b5 c, h1'.ev c, h2.ev c]
  cases c i <;> rfl
def andF (x y : Nat) : Nat × Bool := (min (min x y) 1, x == 0 || y == 0 || (x == 1 && y == 1))
def orF (x y : Nat) : Nat × Bool := if x = 1 ∨ y = 1 then (1, true) else (0, x == 0 && y == 0)
def xorF (x y : Nat) : Nat × Bool := (x ^^^ y, decide (x < 2) && decide (y < 2))
theorem and_spec : OpSpec (fun p q => p && q) andF where
 stop x y h := by
  unfold andF at h ⊢
  simp only [Bool.or_eq_true, Bool.and_eq_true, beq_iff_eq] at h
  rcases h with (h | h) | ⟨h, h'⟩
  ·refine ⟨false, by simp only [cond_false]; omega, fun p q h1 _ _ _ => by rw [h1 h]; rfl⟩
  ·refine ⟨false, by simp only [cond_false]; omega, fun p q _ _ h1 _ => by rw [h1 h]; simp⟩
  ·refine ⟨true, by simp only [cond_true]; omega, fun p q _ h1 _ h2 => by rw [h1 h, h2 h']; rfl⟩
 go x y h := by
  unfold andF at h
  simp at h
  omega
theorem or_spec : OpSpec (fun p q => p || q) orF where
 stop x y h := by
  unfold orF at h ⊢
  split at h
  ·rename_i h1
   rw [if_pos h1]
   refine ⟨true, rfl, fun p q _ a _ b => ?_⟩
   rcases h1 with e | e
   ·rw [a e]; rfl
   ·rw [b e]; simp
  ·rename_i h1
   rw [if_neg h1]
   simp only [Bool.and_eq_true, beq_iff_eq] at h
   exact ⟨false, rfl, fun p q a _ b _ => by rw [a h.1, b h.2]; rfl⟩
 go x y h := by
  unfold orF at h
  split at h
  ·cases h
  ·simp at h
   omega
end Dg
namespace Go.Proofs.YtnldjikcnahioaaGreatDoor
open Go Go.Eng Go.Proofs Dg
theorem at_c (l : List Dec) (a : Option Addr) (c root r : Nat) (w : World) (hll : l.length ≤ 16777216) (hr : r < l.length + 2) (hrd : RdDec w l a) :
  Pure Tryz.prog 182 [.agg [.slice a l.length c, .int .i64 (root : Int)].toArray, .int .i64 (r : Int)] w (.agg [.int .i64 ((atD l r).1 : Int), .int .i64 ((atD l r).2.1 : Int), .int .i64 ((atD l r).2.2 : Int)].toArray) := by
 refine enter Tryz.func182 rfl Tryz.ntmps182 rfl (St.init _) ?_
 refine jN 3 ?_
 refine WL.boxN rfl rfl (fun b2 => ?_)
 refine jN 1 ?_
 refine WL.alloc F.zero78 rfl (fun b4 => ?_)
 refine jN 11 ?_
 refine WC.cond rfl (fun h6 => ?_) (fun h6 => ?_)
 ·have h2 : r < 2 := by simp at h6; omega
  have ha : atD l r = (24, r, r) := by unfold atD; rw [if_pos h2]
  refine jN 14 ?_
  exact WQ.ret (rs := [.cell 4 78]) rfl (.cellN F.agg78 rfl jM rfl .nil) (fun w hS => ⟨by rw [ha]; rfl, hS.sublist (List.nil_sublist _)⟩)
 ·have h2 : 2 ≤ r := by simp at h6; omega
  obtain ⟨x, hx⟩ : ∃ x, l[r - 2]? = some x := ⟨_, List.getElem?_eq_getElem (by omega)⟩
  have ha : atD l r = x := atD_ge h2 hx
  obtain ⟨bl, off, rfl, hcx⟩ := hrd.at hx
  have hri : ((r - 2 : Nat) : Int) = (r : Int) - 2 := by omega
  refine jN 12 ?_
  refine WA.say 13 (.int .i64 ((r - 2 : Nat) : Int)) (by rw [hri]; rfl) ?_
  refine jN 1 ?_
  refine WL.indexAddr F.sl31 rfl rfl rfl (List.getElem?_eq_some_iff.1 hx).1 ?_
  refine jN 1 ?_
  refine WL.loadN F.agg78 rfl rfl (vs := [Value.int .i64 (x.1 : Int), .int .i64 (x.2.1 : Int), .int .i64 (x.2.2 : Int)]) rfl (fun w hS j v hv => hS.oldc (hcx j v hv) (by simp)) ?_
  refine jN 5 ?_
  exact WQ.ret (rs := [.cell 4 78]) rfl (.cellN F.agg78 rfl jM rfl .nil) (fun w hS => ⟨by rw [ha]; rfl, hS.sublist (List.nil_sublist _)⟩)
structure OpOk (g : Nat) (bop : Bool → Bool → Bool) (opf : Nat → Nat → Nat × Bool) : Prop where
 fn : funB Tryz.prog g = some true
 spec : OpSpec bop opf
 call : ∀ (x y : Nat) (w : World), x ≤ 1099511627776 → y ≤ 1099511627776 → Pure Tryz.prog g [.int .i64 (x : Int), .int .i64 (y : Int)] w (.tuple #[.int .i64 ((opf x y).1 : Int), .bool (opf x y).2])
theorem both_c (x y : Nat) (w : World) (hx : x ≤ 1099511627776) (hy : y ≤ 1099511627776) : Pure Tryz.prog 122 [.int .i64 (x : Int), .int .i64 (y : Int)] w (.tuple #[.int .i64 ((andF x y).1 : Int), .bool (andF x y).2]) := by
 refine enter Tryz.func122 rfl Tryz.ntmps122 rfl (St.init _) ?_
 refine jN 15 ?_
 refine WL.min3 (r := ((min (min x y) 1 : Nat) : Int)) rfl rfl rfl rfl (by (repeat split) <;> omega) ?_
 refine jN 6 ?_
 refine WA.splitB (i := 11) rfl (fun g11 => ?_) (fun g11 => ?_)
 ·refine jN 29 ?_
  refine WQ.ret (rs := [.tmp 4, .tmp 5]) rfl (.tmp rfl (.tmp rfl .nil)) (fun w hS => ⟨?_, hS⟩)
  have e : ∀ b : Bool, b = (andF x y).2 → Ending.returned (tup [.int .i64 ((min (min x y) 1 : Nat) : Int), .bool b]) = .returned (.tuple #[.int .i64 ((andF x y).1 : Int), .bool (andF x y).2]) := fun b hb => by rw [hb]; rfl
  refine e _ ?_
  unfold andF
  simp at *
  first | done | omega | (simp [*]; done) | (rw [Bool.eq_iff_iff]; simp; omega)
 ·refine jN 10 ?_
  refine WA.splitB (i := 15) rfl (fun g15 => ?_) (fun g15 => ?_)
  ·refine jN 21 ?_
   refine WQ.ret (rs := [.tmp 4, .tmp 5]) rfl (.tmp rfl (.tmp rfl .nil)) (fun w hS => ⟨?_, hS⟩)
   have e : ∀ b : Bool, b = (andF x y).2 → Ending.returned (tup [.int .i64 ((min (min x y) 1 : Nat) : Int), .bool b]) = .returned (.tuple #[.int .i64 ((andF x y).1 : Int), .bool (andF x y).2]) := fun b hb => by rw [hb]; rfl
   refine e _ ?_
   unfold andF
   simp at *
   first | done | omega | (simp [*]; done) | (rw [Bool.eq_iff_iff]; simp; omega)
  ·refine jN 9 ?_
   refine WA.splitB (i := 18) rfl (fun g18 => ?_) (fun g18 => ?_)
   ·refine jN 18 ?_
    refine WQ.ret (rs := [.tmp 4, .tmp 5]) rfl (.tmp rfl (.tmp rfl .nil)) (fun w hS => ⟨?_, hS⟩)
    have e : ∀ b : Bool, b = (andF x y).2 → Ending.returned (tup [.int .i64 ((min (min x y) 1 : Nat) : Int), .bool b]) = .returned (.tuple #[.int .i64 ((andF x y).1 : Int), .bool (andF x y).2]) := fun b hb => by rw [hb]; rfl
    refine e _ ?_
    unfold andF
    simp at *
    first | done | omega | (simp [*]; done) | (rw [Bool.eq_iff_iff]; simp; omega)
   ·refine jN 16 ?_
    refine WQ.ret (rs := [.tmp 4, .tmp 5]) rfl (.tmp rfl (.tmp rfl .nil)) (fun w hS => ⟨?_, hS⟩)
    have e : ∀ b : Bool, b = (andF x y).2 → Ending.returned (tup [.int .i64 ((min (min x y) 1 : Nat) : Int), .bool b]) = .returned (.tuple #[.int .i64 ((andF x y).1 : Int), .bool (andF x y).2]) := fun b hb => by rw [hb]; rfl
    refine e _ ?_
    unfold andF
    simp at *
    first | done | omega | (simp [*]; done) | (rw [Bool.eq_iff_iff]; simp; omega)
theorem both_ok : OpOk 122 (fun p q => p && q) andF := ⟨F.fun122, and_spec, both_c⟩
theorem either_c (x y : Nat) (w : World) (hx : x ≤ 1099511627776) (hy : y ≤ 1099511627776) : Pure Tryz.prog 124 [.int .i64 (x : Int), .int .i64 (y : Int)] w (.tuple #[.int .i64 ((orF x y).1 : Int), .bool (orF x y).2]) := by
 refine enter Tryz.func124 rfl Tryz.ntmps124 rfl (St.init _) ?_
 refine jN 17 ?_
 refine WA.splitB (i := 8) rfl (fun g8 => ?_) (fun g8 => ?_)
 ·have hor : x = 1 ∨ y = 1 := by (simp at g8; omega)
  have ho : orF x y = (1, true) := by (unfold orF; rw [if_pos hor])
  refine jN 19 ?_
  refine WQ.ret (rs := [.tmp 4, .tmp 5]) rfl (.tmp rfl (.tmp rfl .nil)) (fun w hS => ⟨?_, hS⟩)
  rw [ho]; rfl
 ·refine jN 10 ?_
  refine WC.cond rfl (fun h11 => ?_) (fun h11 => ?_)
  ·have hor : x = 1 ∨ y = 1 := by (first | (simp at g8; omega) | (simp at h11; omega) | (simp at *; omega))
   have ho : orF x y = (1, true) := by (unfold orF; rw [if_pos hor])
   refine jN 10 ?_
   refine WQ.ret (rs := [.tmp 4, .tmp 5]) rfl (.tmp rfl (.tmp rfl .nil)) (fun w hS => ⟨?_, hS⟩)
   rw [ho]; rfl
  ·have hor : ¬ (x = 1 ∨ y = 1) := by (simp at g8 h11; omega)
   have ho : orF x y = (0, x == 0 && y == 0) := by (unfold orF; rw [if_neg hor])
   refine jN 10 ?_
   refine WA.splitB (i := 14) rfl (fun g14 => ?_) (fun g14 => ?_)
   ·refine jN 15 ?_
    refine WQ.ret (rs := [.tmp 4, .tmp 5]) rfl (.tmp rfl (.tmp rfl .nil)) (fun w hS => ⟨?_, hS⟩)
    rw [ho]
    have e : ∀ b : Bool, b = (x == 0 && y == 0) → Ending.returned (tup [.int .i64 0, .bool b]) = .returned (.tuple #[.int .i64 ((0 : Nat) : Int), .bool (x == 0 && y == 0)]) := fun b hb => by rw [hb]; rfl
    refine e _ ?_
    simp at *
    first | done | omega | (simp [*]; done) | (rw [Bool.eq_iff_iff]; simp; omega)
   ·refine jN 13 ?_
    refine WQ.ret (rs := [.tmp 4, .tmp 5]) rfl (.tmp rfl (.tmp rfl .nil)) (fun w hS => ⟨?_, hS⟩)
    rw [ho]
    have e : ∀ b : Bool, b = (x == 0 && y == 0) → Ending.returned (tup [.int .i64 0, .bool b]) = .returned (.tuple #[.int .i64 ((0 : Nat) : Int), .bool (x == 0 && y == 0)]) := fun b hb => by rw [hb]; rfl
    refine e _ ?_
    simp at *
    first | done | omega | (simp [*]; done) | (rw [Bool.eq_iff_iff]; simp; omega)
theorem either_ok : OpOk 124 (fun p q => p || q) orF := ⟨F.fun124, or_spec, either_c⟩
theorem keyPair : KeyT Tryz.prog 276 enc2 := KeyT.twoOf (by kernel_rfl)
theorem undMP : Tryz.prog.underlying 244 = some (.map 276 3) := by kernel_rfl
abbrev jnCs (bm bs : Nat) (l : List Dec) (f : Nat × Nat → Option Nat) (F1 : List Nat) : List Chunk := [mkr F1 bm l, mpg enc2 bs (fun q => (f q).map encI)]
def jns (F : List Nat) (bm bs : Nat) (l : List Dec) (f : Nat × Nat → Option Nat) : Chunk := bun F (jnCs bm bs l f) (fun _ => True)
theorem St.jnsClose {w0 w : World} {O : List Nat} {C : List Chunk} {F1 : List Nat} {bm bs : Nat} {l : List Dec} {f : Nat × Nat → Option Nat} (h : St w0 O (mkr F1 bm l :: mpg enc2 bs (fun q => (f q).map encI) :: C) w) : St w0 O (jns (F1 ++ ([bs] ++ [])) bm bs l f :: C) w :=
 St.bunClose' (Cs := jnCs bm bs l f) F1 trivial (.cons FpIs.bun (.cons FpIs.mpg .nil)) h
theorem pair_map {f : Nat × Nat → Option Nat} {k : Nat × Nat} {n : Nat} {z : Int} (hz : z = (n : Int)) : (fun q : Nat × Nat => if q = k then some (Value.int .i64 z) else (f q).map encI) = (fun y => (if y = k then some n else f y).map encI) := by
 funext q
 by_cases h : q = k
 ·rw [if_pos h, if_pos h, hz]; rfl
 ·rw [if_neg h, if_neg h]
theorem RdDecO.now {w0 w : World} {F : List Nat} {C : List Chunk} {l : List Dec} {a : Option Addr} (h : RdDecO w0 l a F) (hS : St w0 F C w) : RdDec w l a := fun j u hu => by
 obtain ⟨b, off, e1, e2, e3⟩ := h j u hu
 exact ⟨b, off, e1, hS.oldc e2 e3⟩
structure JEnv (w : World) (F : List Nat) (bp bm bs : Nat) (la lb : List Dec) (aa ab : Option Addr) (ca cb ra rb : Nat) : Prop where
 ce : ∀ j v, [pp bm, .slice aa la.length ca, .int .i64 (ra : Int), .slice ab lb.length cb, .int .i64 (rb : Int), .map (some bs)][j]? = some v → w.cell? ⟨bp, j, none⟩ = some v
 ce' : bp ∉ F
 rda : RdDecO w la aa F
 rdb : RdDecO w lb ab F
theorem JEnv.next {w0 w : World} {F F' : List Nat} {C1 : List Chunk} {bp bm bs ca cb ra rb : Nat} {la lb l : List Dec} {aa ab : Option Addr} {f : Nat × Nat → Option Nat} (h : JEnv w0 F bp bm bs la lb aa ab ca cb ra rb) (hS : St w0 F ([jns F' bm bs l f] ++ C1) w) : JEnv w F' bp bm bs la lb aa ab ca cb ra rb := by
 have hap := fun {z : Nat} (h1 : z < w0.heap.size) (h2 : z ∉ F) => hS.apart (F := F') bun_O2 h1 h2
 refine ⟨fun j v hv => hS.oldc (h.ce j v hv) h.ce', hap (World.block_lt_of_cell? w0 _ (h.ce 0 _ rfl)) h.ce', fun j u hu => ?_, fun j u hu => ?_⟩
 ·obtain ⟨b, off, e1, e2, e3⟩ := h.rda j u hu
  exact ⟨b, off, e1, hS.oldc e2 e3, hap (World.block_lt_of_cell? w0 _ e2) e3⟩
 ·obtain ⟨b, off, e1, e2, e3⟩ := h.rdb j u hu
  exact ⟨b, off, e1, hS.oldc e2 e3, hap (World.block_lt_of_cell? w0 _ e2) e3⟩
abbrev JT := List Nat × List Dec × (Nat × Nat → Option Nat) × Nat
structure JPost (bop : Bool → Bool → Bool) (la lb l : List Dec) (m x y : Nat) (z : JT) : Prop where
 ismk : Mk z.2.1
 pre : ∃ t, z.2.1 = l ++ t
 len : z.2.1.length + 1 ≤ l.length + 2 ^ (24 - m)
 jr : JR bop z.2.1 z.2.2.2 (trs la x) (trs lb y)
 seen : SeenOk bop la lb z.2.1 z.2.2.1
end Go.Proofs.YtnldjikcnahioaaGreatDoor
