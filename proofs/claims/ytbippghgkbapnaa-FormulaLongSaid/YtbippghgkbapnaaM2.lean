import Derived.Test.YtbippghgkbapnaaM1
import Derived.Test.YtbippghgkbapnaaSpec
import Derived.Test.YtbippghgkbapnaaFacts
namespace Go.Proofs.Ytbippghgkbapnaa
open Go Go.Eng Go.Proofs
theorem pre_len {rest s : List UInt8} (h : decide ((s.length : Int) ≤ rest.length) = false) : Fm.pre rest s = false := by
  have : ¬ s.length ≤ rest.length := by simp at h; omega
  simp [Fm.pre, this]
theorem pre_eq {rest s : List UInt8} (h : decide ((s.length : Int) ≤ rest.length) = true) : Fm.pre rest s = (rest.take s.length == s) := by
  have : s.length ≤ rest.length := by simpa using h
  simp [Fm.pre, this]

theorem litePrefix_c (l s : List UInt8) (w : World) : Pure Try.prog 104 [.string (str l), .string (str s)] w (.bool (Fm.pre l s)) := by
  refine enter Try.func104 rfl Try.ntmps104 rfl (St.init _) ?_
  refine WC.seq ?_
  refine WC.region ?_
  refine WL.step ?_
  refine WL.assign rfl rfl ?_
  refine WL.nil ?_
  refine WQ.then_normal ?_
  refine WC.seq ?_
  refine WC.region ?_
  refine WL.step ?_
  refine WL.move rfl rfl ?_
  refine WL.step ?_
  refine WL.lenS F.und9 rfl rfl ?_
  refine WL.step ?_
  refine WL.move rfl rfl ?_
  refine WL.step ?_
  refine WL.lenS F.und9 rfl rfl ?_
  refine WL.step ?_
  refine WL.geI rfl rfl rfl ?_
  refine WL.step ?_
  refine WL.move rfl rfl ?_
  refine WA.splitB (i := 10) rfl (fun h10 => ?_) (fun h10 => ?_)
  · skip
    refine WL.step (WL.guardT rfl rfl rfl ?_)
    refine WL.move rfl rfl ?_
    refine WL.step (WL.guardT rfl rfl rfl ?_)
    refine WL.move rfl rfl ?_
    refine WL.step (WL.guardT rfl rfl rfl ?_)
    refine WL.lenS F.und9 rfl rfl ?_
    refine WL.step (WL.guardT rfl rfl rfl ?_)
    refine WL.y (F := fun _ => True) (Yl.sliceTo F.und9 rfl rfl (by simpa using h10)) rfl (fun _ _ => trivial) ?_
    refine WL.step (WL.guardT rfl rfl rfl ?_)
    refine WL.move rfl rfl ?_
    refine WL.step (WL.guardT rfl rfl rfl ?_)
    refine WL.eqS rfl rfl rfl ?_
    refine WL.step ?_
    refine WL.pickT rfl rfl rfl ?_
    refine WL.step ?_
    refine WL.assign rfl rfl ?_
    refine WL.nil ?_
    refine WQ.then_normal ?_
    refine WC.ret ?_
    exact WQ.ret (rs := [.tmp 4]) rfl (.tmp rfl .nil) (fun w hS => ⟨by rw [pre_eq h10]; rfl, hS⟩)
  · skip
    refine WL.step (WL.guardF rfl rfl rfl rfl rfl rfl ?_)
    refine WL.step (WL.guardF rfl rfl rfl rfl rfl rfl ?_)
    refine WL.step (WL.guardF rfl rfl rfl rfl rfl rfl ?_)
    refine WL.step (WL.guardF rfl rfl rfl rfl rfl rfl ?_)
    refine WL.step (WL.guardF rfl rfl rfl rfl rfl rfl ?_)
    refine WL.step (WL.guardF rfl rfl rfl rfl rfl rfl ?_)
    refine WL.step ?_
    refine WL.pickF rfl rfl rfl ?_
    refine WL.step ?_
    refine WL.assign rfl rfl ?_
    refine WL.nil ?_
    refine WQ.then_normal ?_
    refine WC.ret ?_
    exact WQ.ret (rs := [.tmp 4]) rfl (.tmp rfl .nil) (fun w hS => ⟨by rw [pre_len h10]; rfl, hS⟩)

theorem hasPrefix_c (l s : List UInt8) (w : World) : Pure Try.prog 83 [.string (str l), .string (str s)] w (.bool (Fm.pre l s)) := by
  refine enter Try.func83 rfl Try.ntmps83 rfl (St.init _) ?_
  refine WC.seq ?_
  refine WC.region ?_
  refine WL.step ?_
  refine WL.assign rfl rfl ?_
  refine WL.nil ?_
  refine WQ.then_normal ?_
  refine WC.seq ?_
  refine WC.region ?_
  refine WL.step ?_
  refine WL.move rfl rfl ?_
  refine WL.step ?_
  refine WL.move rfl rfl ?_
  refine WL.step ?_
  refine WL.callV F.fun104 rfl rfl (fun w _ => litePrefix_c l s w) ?_
  refine WL.step ?_
  refine WL.assign rfl rfl ?_
  refine WL.nil ?_
  refine WQ.then_normal ?_
  refine WC.ret ?_
  exact WQ.ret (rs := [.tmp 4]) rfl (.tmp rfl .nil) (fun w hS => ⟨rfl, hS⟩)

/-- The parser's block. -/
abbrev pcell (text : List UInt8) (at_ : Nat) (word : List UInt8) : List Value := [.string (str text), .int .i64 (at_ : Int), .string (str word)]
def trouble (at_ : Nat) : List PanicEntry := [{ v := .iface 72 (.agg #[.int .i64 (at_ : Int)]), recovered := false }]
def NRpost (bp : Nat) (text : List UInt8) (w : World) : Fm.NR → Ending → World → Prop
  | .ok at_ word, e, w' => e = .returned (.tuple #[]) ∧ St w [bp] [pt bp (pcell text at_ word) 76] w'
  | .bad at_, e, w' => e = .panicked (trouble at_) ∧ ∃ cs, St w [bp] [pt bp cs 76] w'

theorem test_in {text : List UInt8} {p0 k : Nat} {c : UInt8} (hk : k ≤ Fm.blanks (text.drop p0)) (_h : decide (((p0 + k : Nat) : Int) < text.length) = true) (hc : text[p0 + k]? = some c) : decide (k < Fm.blanks (text.drop p0)) = ((c.toNat : Int) == 32) := by
  have h1 := Fm.blanks_get (text.drop p0) k hk
  rw [List.getElem?_drop, hc] at h1
  rw [Bool.eq_iff_iff, decide_eq_true_iff, ← h1]
  simp only [Option.some.injEq, beq_iff_eq, u8_eq]
  rfl
theorem test_out {text : List UInt8} {p0 k : Nat} (hk : k ≤ Fm.blanks (text.drop p0)) (h : decide (((p0 + k : Nat) : Int) < text.length) = false) : decide (k < Fm.blanks (text.drop p0)) = false := by
  have h1 := Fm.blanks_get (text.drop p0) k hk
  have : text.length ≤ p0 + k := by simp at h; omega
  rw [List.getElem?_drop, List.getElem?_eq_none this] at h1
  simp at h1
  simp; omega
theorem word_in {rest : List UInt8} {n : Nat} {c : UInt8} (hn : n ≤ (Fm.word rest).length) (hc : rest[n]? = some c) : decide (n < (Fm.word rest).length) = Fm.inWordB c := by
  rw [Bool.eq_iff_iff, decide_eq_true_iff]
  exact (Fm.takeWhile_get Fm.inWordB rest n c hn hc).symm
theorem word_out {rest : List UInt8} {n : Nat} (hn : n ≤ (Fm.word rest).length) (h : decide ((n : Int) < rest.length) = false) : decide (n < (Fm.word rest).length) = false := by
  have h1 := Fm.takeWhile_le Fm.inWordB rest
  have : (Fm.word rest).length ≤ rest.length := h1
  simp at h ⊢; omega
theorem tok_bad {rest : List UInt8} (hne : rest ≠ []) (hf : Fm.signs.find? (Fm.pre rest) = none) (h : (!(Fm.word rest == [48]) && !(Fm.word rest == [49]) && !(Fm.isNameB (Fm.word rest))) = true) : Fm.tok rest = none := by
  simp at h
  simp [Fm.tok, hne, hf, h]
theorem tok_word {rest : List UInt8} (hne : rest ≠ []) (hf : Fm.signs.find? (Fm.pre rest) = none) (h : (!(Fm.word rest == [48]) && !(Fm.word rest == [49]) && !(Fm.isNameB (Fm.word rest))) = false) : Fm.tok rest = some (Fm.word rest) := by
  have : Fm.word rest = [48] ∨ Fm.word rest = [49] ∨ Fm.isNameB (Fm.word rest) = true := by
    by_cases h1 : Fm.word rest = [48]
    · exact .inl h1
    · by_cases h2 : Fm.word rest = [49]
      · exact .inr (.inl h2)
      · simp [h1, h2] at h; exact .inr (.inr h)
  simp only [Fm.tok, hne, if_false, hf, this, if_true]

theorem next_c (bp : Nat) (text wd : List UInt8) (at_ : Nat) (hle : at_ + wd.length ≤ text.length) (hmax : text.length ≤ 140737488355328) (w : World) (hp : w.heap[bp]? = some (.cells (pcell text at_ wd).toArray 76 (0, 0))) :
    Calls Try.prog 46 [Value.pointer (some ⟨bp, 0, none⟩)].toArray w (NRpost bp text w (Fm.next text at_ wd)) := by
  obtain ⟨p0, hp0⟩ : ∃ p0, p0 = at_ + wd.length := ⟨_, rfl⟩
  have hp0l : p0 ≤ text.length := by omega
  refine enter Try.func46 rfl Try.ntmps46 rfl (St.init1 hp) ?_
  refine WC.seq ?_
  refine WC.draws [([12], fun w => w.cell? ⟨bp, 1, none⟩ = some (.int .i64 (at_ : Int))), ([12], fun w => w.cell? ⟨bp, 2, none⟩ = some (.string (str wd)))] (by kernel_rfl) (fun w hS => facts_cons (hS.cell (by repeat (first | exact List.Mem.head _ | apply List.Mem.tail)) rfl) (facts_cons (hS.cell (by repeat (first | exact List.Mem.head _ | apply List.Mem.tail)) rfl) (facts_nil))) ?_
  refine WD.take (i := 0) rfl rfl rfl rfl (by kernel_rfl) (by kernel_rfl) (by kernel_rfl) (fun _ _ _ h => h) (by kernel_rfl) need_none (Yl.move rfl) ?_
  refine WD.take (i := 1) rfl rfl rfl rfl (by kernel_rfl) (by kernel_rfl) (by kernel_rfl) (fun _ _ _ h => h) (by kernel_rfl) need_none (Yl.nilCheck rfl) ?_
  refine WD.take (i := 2) rfl rfl rfl rfl (by kernel_rfl) (by kernel_rfl) (by kernel_rfl) (fun _ _ _ h => h) (by kernel_rfl) need_none (Yl.fieldAddr0 F.fld76_1 rfl) ?_
  refine WD.take (i := 3) rfl rfl rfl rfl (by kernel_rfl) (by kernel_rfl) (by kernel_rfl) (fun _ _ _ h => h) (by kernel_rfl) (need_at 0 13 rfl (by kernel_rfl)) (Yl.load1 F.one3 rfl) ?_
  refine WD.take (i := 4) rfl rfl rfl rfl (by kernel_rfl) (by kernel_rfl) (by kernel_rfl) (fun _ _ _ h => h) (by kernel_rfl) need_none (Yl.move rfl) ?_
  refine WD.take (i := 5) rfl rfl rfl rfl (by kernel_rfl) (by kernel_rfl) (by kernel_rfl) (fun _ _ _ h => h) (by kernel_rfl) need_none (Yl.nilCheck rfl) ?_
  refine WD.take (i := 6) rfl rfl rfl rfl (by kernel_rfl) (by kernel_rfl) (by kernel_rfl) (fun _ _ _ h => h) (by kernel_rfl) need_none (Yl.fieldAddr0 F.fld76_2 rfl) ?_
  refine WD.take (i := 7) rfl rfl rfl rfl (by kernel_rfl) (by kernel_rfl) (by kernel_rfl) (fun _ _ _ h => h) (by kernel_rfl) (need_at 1 13 rfl (by kernel_rfl)) (Yl.load1 F.one9 rfl) ?_
  refine WD.take (i := 8) rfl rfl rfl rfl (by kernel_rfl) (by kernel_rfl) (by kernel_rfl) (fun _ _ _ h => h) (by kernel_rfl) need_none (Yl.lenS F.und9 rfl) ?_
  refine WD.take (i := 9) rfl rfl rfl rfl (by kernel_rfl) (by kernel_rfl) (by kernel_rfl) (fun _ _ _ h => h) (by kernel_rfl) need_none (Yl.add rfl rfl ⟨by omega, by omega⟩) ?_
  refine WD.take (i := 10) rfl rfl rfl rfl (by kernel_rfl) (by kernel_rfl) (by kernel_rfl) (fun _ _ _ h => h) (by kernel_rfl) need_none (Yl.nilCheck rfl) ?_
  refine WD.take (i := 11) rfl rfl rfl rfl (by kernel_rfl) (by kernel_rfl) (by kernel_rfl) (fun _ _ _ h => h) (by kernel_rfl) need_none (Yl.fieldAddr0 F.fld76_1 rfl) ?_
  refine WD.one (i := 12) (by kernel_rfl) rfl ?_
  refine WL.store1 F.one3 rfl rfl rfl (by repeat (first | exact Upd.here | apply Upd.there)) (by repeat constructor) ?_
  refine WD.on (closed_of (by kernel_rfl)) (fun w hS => Sx.gone rfl (Sx.gone rfl (Sx.none))) ?_
  refine WD.done (by kernel_rfl) ?_
  refine WQ.then_normal ?_
  refine WC.seq ?_
  refine WC.block ?_
  refine WC.loop (α := Nat) (fun k => k ≤ Fm.blanks (text.drop p0)) (fun _ => [(0, .pointer (some ⟨bp, 0, none⟩))]) (fun k => [pt bp [.string (str text), .int .i64 ((p0 + k : Nat) : Int), .string (str wd)] 76]) (fun k => Fm.blanks (text.drop p0) - k) (0) ?_ ?_ ?_ ?_
  · exact Nat.zero_le _
  · exact ⟨rfl, trivial⟩
  · (subst hp0; rfl)
  rintro k hk
  refine WC.seq ?_
  refine WC.seq ?_
  refine WC.cutP [(39, .bool (decide (k < Fm.blanks (text.drop p0)))), (0, .pointer (some ⟨bp, 0, none⟩))] (fun c a d v w h => by cases d <;> exact h) (fun Q' hP hQ => ?_) ?_
  · skip
    refine WC.draws [([], fun w => w.cell? ⟨bp, 1, none⟩ = some (.int .i64 ((p0 + k : Nat) : Int))), ([], fun w => w.cell? ⟨bp, 0, none⟩ = some (.string (str text))), ([], fun w => w.cell? ⟨bp, 0, none⟩ = some (.string (str text))), ([], fun w => w.cell? ⟨bp, 1, none⟩ = some (.int .i64 ((p0 + k : Nat) : Int)))] (by kernel_rfl) (fun w hS => facts_cons (hS.cell (by repeat (first | exact List.Mem.head _ | apply List.Mem.tail)) rfl) (facts_cons (hS.cell (by repeat (first | exact List.Mem.head _ | apply List.Mem.tail)) rfl) (facts_cons (hS.cell (by repeat (first | exact List.Mem.head _ | apply List.Mem.tail)) rfl) (facts_cons (hS.cell (by repeat (first | exact List.Mem.head _ | apply List.Mem.tail)) rfl) (facts_nil))))) ?_
    refine WD.take (i := 0) rfl rfl rfl rfl (by kernel_rfl) (by kernel_rfl) (by kernel_rfl) (fun _ _ _ h => hP _ _ _ _ _ h) (by kernel_rfl) need_none (Yl.move rfl) ?_
    refine WD.take (i := 1) rfl rfl rfl rfl (by kernel_rfl) (by kernel_rfl) (by kernel_rfl) (fun _ _ _ h => hP _ _ _ _ _ h) (by kernel_rfl) need_none (Yl.nilCheck rfl) ?_
    refine WD.take (i := 2) rfl rfl rfl rfl (by kernel_rfl) (by kernel_rfl) (by kernel_rfl) (fun _ _ _ h => hP _ _ _ _ _ h) (by kernel_rfl) need_none (Yl.fieldAddr0 F.fld76_1 rfl) ?_
    refine WD.take (i := 3) rfl rfl rfl rfl (by kernel_rfl) (by kernel_rfl) (by kernel_rfl) (fun _ _ _ h => hP _ _ _ _ _ h) (by kernel_rfl) (need_at 0 22 rfl (by kernel_rfl)) (Yl.load1 F.one3 rfl) ?_
    refine WD.take (i := 4) rfl rfl rfl rfl (by kernel_rfl) (by kernel_rfl) (by kernel_rfl) (fun _ _ _ h => hP _ _ _ _ _ h) (by kernel_rfl) need_none (Yl.move rfl) ?_
    refine WD.take (i := 5) rfl rfl rfl rfl (by kernel_rfl) (by kernel_rfl) (by kernel_rfl) (fun _ _ _ h => hP _ _ _ _ _ h) (by kernel_rfl) need_none (Yl.nilCheck rfl) ?_
    refine WD.take (i := 6) rfl rfl rfl rfl (by kernel_rfl) (by kernel_rfl) (by kernel_rfl) (fun _ _ _ h => hP _ _ _ _ _ h) (by kernel_rfl) need_none (Yl.fieldAddr0 F.fld76_0 rfl) ?_
    refine WD.take (i := 7) rfl rfl rfl rfl (by kernel_rfl) (by kernel_rfl) (by kernel_rfl) (fun _ _ _ h => hP _ _ _ _ _ h) (by kernel_rfl) (need_at 1 22 rfl (by kernel_rfl)) (Yl.load1 F.one9 rfl) ?_
    refine WD.take (i := 8) rfl rfl rfl rfl (by kernel_rfl) (by kernel_rfl) (by kernel_rfl) (fun _ _ _ h => hP _ _ _ _ _ h) (by kernel_rfl) need_none (Yl.lenS F.und9 rfl) ?_
    refine WD.take (i := 9) rfl rfl rfl rfl (by kernel_rfl) (by kernel_rfl) (by kernel_rfl) (fun _ _ _ h => hP _ _ _ _ _ h) (by kernel_rfl) need_none (Yl.ltI rfl rfl) ?_
    refine WD.take (i := 10) rfl rfl rfl rfl (by kernel_rfl) (by kernel_rfl) (by kernel_rfl) (fun _ _ _ h => hP _ _ _ _ _ h) (by kernel_rfl) need_none (Yl.move rfl) ?_
    refine fun hcl => WA.splitB (i := 28) rfl (fun h28 => ?_) (fun h28 => ?_)
    · skip
      refine (show WD _ _ _ _ _ _ _ _ _ _ _ _ from ?_) hcl
      have hlt : p0 + k < text.length := by simp at h28; omega
      obtain ⟨c, hc⟩ : ∃ c, text[p0 + k]? = some c := ⟨text[p0 + k], by simp [hlt]⟩
      refine WD.takeG (i := 11) rfl rfl rfl rfl rfl rfl (by kernel_rfl) (by kernel_rfl) (by kernel_rfl) (fun _ _ _ h => hP _ _ _ _ _ h) (by kernel_rfl) need_none (Yl.move rfl) ?_
      refine WD.takeG (i := 12) rfl rfl rfl rfl rfl rfl (by kernel_rfl) (by kernel_rfl) (by kernel_rfl) (fun _ _ _ h => hP _ _ _ _ _ h) (by kernel_rfl) need_none (Yl.nilCheck rfl) ?_
      refine WD.takeG (i := 13) rfl rfl rfl rfl rfl rfl (by kernel_rfl) (by kernel_rfl) (by kernel_rfl) (fun _ _ _ h => hP _ _ _ _ _ h) (by kernel_rfl) need_none (Yl.fieldAddr0 F.fld76_0 rfl) ?_
      refine WD.takeG (i := 14) rfl rfl rfl rfl rfl rfl (by kernel_rfl) (by kernel_rfl) (by kernel_rfl) (fun _ _ _ h => hP _ _ _ _ _ h) (by kernel_rfl) (need_at 2 22 rfl (by kernel_rfl)) (Yl.load1 F.one9 rfl) ?_
      refine WD.takeG (i := 15) rfl rfl rfl rfl rfl rfl (by kernel_rfl) (by kernel_rfl) (by kernel_rfl) (fun _ _ _ h => hP _ _ _ _ _ h) (by kernel_rfl) need_none (Yl.move rfl) ?_
      refine WD.takeG (i := 16) rfl rfl rfl rfl rfl rfl (by kernel_rfl) (by kernel_rfl) (by kernel_rfl) (fun _ _ _ h => hP _ _ _ _ _ h) (by kernel_rfl) need_none (Yl.nilCheck rfl) ?_
      refine WD.takeG (i := 17) rfl rfl rfl rfl rfl rfl (by kernel_rfl) (by kernel_rfl) (by kernel_rfl) (fun _ _ _ h => hP _ _ _ _ _ h) (by kernel_rfl) need_none (Yl.fieldAddr0 F.fld76_1 rfl) ?_
      refine WD.takeG (i := 18) rfl rfl rfl rfl rfl rfl (by kernel_rfl) (by kernel_rfl) (by kernel_rfl) (fun _ _ _ h => hP _ _ _ _ _ h) (by kernel_rfl) (need_at 3 22 rfl (by kernel_rfl)) (Yl.load1 F.one3 rfl) ?_
      refine WD.takeG (i := 19) rfl rfl rfl rfl rfl rfl (by kernel_rfl) (by kernel_rfl) (by kernel_rfl) (fun _ _ _ h => hP _ _ _ _ _ h) (by kernel_rfl) need_none (Yl.indexS (i := p0 + k) F.und9 rfl rfl hc) ?_
      refine WD.takeG (i := 20) rfl rfl rfl rfl rfl rfl (by kernel_rfl) (by kernel_rfl) (by kernel_rfl) (fun _ _ _ h => hP _ _ _ _ _ h) (by kernel_rfl) need_none (Yl.eqI rfl rfl) ?_
      refine WD.take (i := 21) rfl rfl rfl rfl (by kernel_rfl) (by kernel_rfl) (by kernel_rfl) (fun _ _ _ h => hP _ _ _ _ _ h) (by kernel_rfl) need_none (Yl.pickT rfl rfl) ?_
      refine WD.done (by kernel_rfl) ?_
      refine WQ.byCut hQ (subF_bool ?_ ⟨rfl, trivial⟩ rfl)
      first | exact test_in hk h28 hc | exact test_out hk h28
    · skip
      refine (show WD _ _ _ _ _ _ _ _ _ _ _ _ from ?_) hcl
      refine WD.skip (i := 11) rfl rfl rfl rfl rfl rfl rfl (by kernel_rfl) (by kernel_rfl) (by kernel_rfl) (fun _ _ _ h => hP _ _ _ _ _ h) (by kernel_rfl) ?_
      refine WD.skip (i := 12) rfl rfl rfl rfl rfl rfl rfl (by kernel_rfl) (by kernel_rfl) (by kernel_rfl) (fun _ _ _ h => hP _ _ _ _ _ h) (by kernel_rfl) ?_
      refine WD.skip (i := 13) rfl rfl rfl rfl rfl rfl rfl (by kernel_rfl) (by kernel_rfl) (by kernel_rfl) (fun _ _ _ h => hP _ _ _ _ _ h) (by kernel_rfl) ?_
      refine WD.skip (i := 14) rfl rfl rfl rfl rfl rfl rfl (by kernel_rfl) (by kernel_rfl) (by kernel_rfl) (fun _ _ _ h => hP _ _ _ _ _ h) (by kernel_rfl) ?_
      refine WD.skip (i := 15) rfl rfl rfl rfl rfl rfl rfl (by kernel_rfl) (by kernel_rfl) (by kernel_rfl) (fun _ _ _ h => hP _ _ _ _ _ h) (by kernel_rfl) ?_
      refine WD.skip (i := 16) rfl rfl rfl rfl rfl rfl rfl (by kernel_rfl) (by kernel_rfl) (by kernel_rfl) (fun _ _ _ h => hP _ _ _ _ _ h) (by kernel_rfl) ?_
      refine WD.skip (i := 17) rfl rfl rfl rfl rfl rfl rfl (by kernel_rfl) (by kernel_rfl) (by kernel_rfl) (fun _ _ _ h => hP _ _ _ _ _ h) (by kernel_rfl) ?_
      refine WD.skip (i := 18) rfl rfl rfl rfl rfl rfl rfl (by kernel_rfl) (by kernel_rfl) (by kernel_rfl) (fun _ _ _ h => hP _ _ _ _ _ h) (by kernel_rfl) ?_
      refine WD.skip (i := 19) rfl rfl rfl rfl rfl rfl rfl (by kernel_rfl) (by kernel_rfl) (by kernel_rfl) (fun _ _ _ h => hP _ _ _ _ _ h) (by kernel_rfl) ?_
      refine WD.skip (i := 20) rfl rfl rfl rfl rfl rfl rfl (by kernel_rfl) (by kernel_rfl) (by kernel_rfl) (fun _ _ _ h => hP _ _ _ _ _ h) (by kernel_rfl) ?_
      refine WD.take (i := 21) rfl rfl rfl rfl (by kernel_rfl) (by kernel_rfl) (by kernel_rfl) (fun _ _ _ h => hP _ _ _ _ _ h) (by kernel_rfl) need_none (Yl.pickF rfl rfl) ?_
      refine WD.done (by kernel_rfl) ?_
      refine WQ.byCut hQ (subF_bool ?_ ⟨rfl, trivial⟩ rfl)
      first | exact test_in hk h28 hc | exact test_out hk h28
  refine WQ.then_normal ?_
  refine WC.cond rfl (fun h39 => ?_) (fun h39 => ?_)
  · skip
    have hlt : k < Fm.blanks (text.drop p0) := by simpa using h39
    have hb := Fm.blanks_le (text.drop p0)
    simp at hb
    refine WC.skip ?_
    refine WQ.then_normal ?_
    refine WC.block ?_
    refine WC.region ?_
    refine WL.step ?_
    refine WL.move rfl rfl ?_
    refine WL.step ?_
    refine WL.nilCheck rfl rfl ?_
    refine WL.step ?_
    refine WL.fieldAddr0 F.fld76_1 rfl rfl ?_
    refine WL.step ?_
    refine WL.loadP F.one3 rfl rfl (by repeat (first | exact List.Mem.head _ | apply List.Mem.tail)) rfl ?_
    refine WL.step ?_
    refine WL.add rfl rfl rfl ⟨by omega, by omega⟩ ?_
    refine WL.step ?_
    refine WL.nilCheck rfl rfl ?_
    refine WL.step ?_
    refine WL.fieldAddr0 F.fld76_1 rfl rfl ?_
    refine WL.step ?_
    refine WL.store1 F.one3 rfl rfl rfl (by repeat (first | exact Upd.here | apply Upd.there)) (by repeat constructor) ?_
    refine WL.nil ?_
    refine WQ.block_normal ?_
    refine WQ.back (k + 1) ?_ ?_ ?_ ?_
    · exact by omega
    · omega
    · exact ⟨rfl, trivial⟩
    · rfl
  · skip
    have hkb : k = Fm.blanks (text.drop p0) := by simp at h39; omega
    obtain ⟨q, hq⟩ : ∃ q, q = p0 + k := ⟨_, rfl⟩
    have hql : q ≤ text.length := by have := Fm.blanks_le (text.drop p0); simp at this; omega
    rw [← hq]
    have hnx : Fm.next text at_ wd = match Fm.tok (text.drop q) with | some x => .ok q x | none => .bad q := by rw [hq, hkb, hp0]; rfl
    clear hq hkb hk h39
    refine WC.exit ?_
    refine WQ.then_exit ?_
    refine WQ.then_exit ?_
    refine WQ.block_exit ?_
    refine WQ.then_normal ?_
    refine WC.seq ?_
    refine WC.region ?_
    refine WL.step ?_
    refine WL.move rfl rfl ?_
    refine WL.step ?_
    refine WL.nilCheck rfl rfl ?_
    refine WL.step ?_
    refine WL.fieldAddr0 F.fld76_2 rfl rfl ?_
    refine WL.step ?_
    refine WL.store1 F.one9 rfl rfl rfl (by repeat (first | exact Upd.here | apply Upd.there)) (by repeat constructor) ?_
    refine WL.nil ?_
    refine WQ.then_normal ?_
    refine WC.seq ?_
    refine WC.seq ?_
    refine WC.draws [([], fun w => w.cell? ⟨bp, 1, none⟩ = some (.int .i64 (q : Int))), ([], fun w => w.cell? ⟨bp, 0, none⟩ = some (.string (str text)))] (by kernel_rfl) (fun w hS => facts_cons (hS.cell (by repeat (first | exact List.Mem.head _ | apply List.Mem.tail)) rfl) (facts_cons (hS.cell (by repeat (first | exact List.Mem.head _ | apply List.Mem.tail)) rfl) (facts_nil))) ?_
    refine WD.take (i := 0) rfl rfl rfl rfl (by kernel_rfl) (by kernel_rfl) (by kernel_rfl) (fun _ _ _ h => h) (by kernel_rfl) need_none (Yl.move rfl) ?_
    refine WD.take (i := 1) rfl rfl rfl rfl (by kernel_rfl) (by kernel_rfl) (by kernel_rfl) (fun _ _ _ h => h) (by kernel_rfl) need_none (Yl.nilCheck rfl) ?_
    refine WD.take (i := 2) rfl rfl rfl rfl (by kernel_rfl) (by kernel_rfl) (by kernel_rfl) (fun _ _ _ h => h) (by kernel_rfl) need_none (Yl.fieldAddr0 F.fld76_1 rfl) ?_
    refine WD.take (i := 3) rfl rfl rfl rfl (by kernel_rfl) (by kernel_rfl) (by kernel_rfl) (fun _ _ _ h => h) (by kernel_rfl) (need_at 0 10 rfl (by kernel_rfl)) (Yl.load1 F.one3 rfl) ?_
    refine WD.take (i := 4) rfl rfl rfl rfl (by kernel_rfl) (by kernel_rfl) (by kernel_rfl) (fun _ _ _ h => h) (by kernel_rfl) need_none (Yl.move rfl) ?_
    refine WD.take (i := 5) rfl rfl rfl rfl (by kernel_rfl) (by kernel_rfl) (by kernel_rfl) (fun _ _ _ h => h) (by kernel_rfl) need_none (Yl.nilCheck rfl) ?_
    refine WD.take (i := 6) rfl rfl rfl rfl (by kernel_rfl) (by kernel_rfl) (by kernel_rfl) (fun _ _ _ h => h) (by kernel_rfl) need_none (Yl.fieldAddr0 F.fld76_0 rfl) ?_
    refine WD.take (i := 7) rfl rfl rfl rfl (by kernel_rfl) (by kernel_rfl) (by kernel_rfl) (fun _ _ _ h => h) (by kernel_rfl) (need_at 1 10 rfl (by kernel_rfl)) (Yl.load1 F.one9 rfl) ?_
    refine WD.take (i := 8) rfl rfl rfl rfl (by kernel_rfl) (by kernel_rfl) (by kernel_rfl) (fun _ _ _ h => h) (by kernel_rfl) need_none (Yl.lenS F.und9 rfl) ?_
    refine WD.take (i := 9) rfl rfl rfl rfl (by kernel_rfl) (by kernel_rfl) (by kernel_rfl) (fun _ _ _ h => h) (by kernel_rfl) need_none (Yl.eqI rfl rfl) ?_
    refine WD.done (by kernel_rfl) ?_
    refine WQ.then_normal ?_
    refine WC.cond rfl (fun h59 => ?_) (fun h59 => ?_)
    · skip
      have hqe : q = text.length := by simp at h59; omega
      refine WC.ret ?_
      refine WQ.then_ret ?_
      refine WQ.ret (rs := []) rfl .nil (fun w hS => ?_)
      rw [hnx, hqe, List.drop_length]
      exact ⟨rfl, by rw [← hqe]; exact hS⟩
    · skip
      have hqlt : q < text.length := by simp at h59; omega
      refine WC.skip ?_
      refine WQ.then_normal ?_
      refine WC.seq ?_
      refine WC.draws [([], fun w => w.cell? ⟨bp, 0, none⟩ = some (.string (str text))), ([], fun w => w.cell? ⟨bp, 1, none⟩ = some (.int .i64 (q : Int)))] (by kernel_rfl) (fun w hS => facts_cons (hS.cell (by repeat (first | exact List.Mem.head _ | apply List.Mem.tail)) rfl) (facts_cons (hS.cell (by repeat (first | exact List.Mem.head _ | apply List.Mem.tail)) rfl) (facts_nil))) ?_
      refine WD.take (i := 0) rfl rfl rfl rfl (by kernel_rfl) (by kernel_rfl) (by kernel_rfl) (fun _ _ _ h => h) (by kernel_rfl) need_none (Yl.move rfl) ?_
      refine WD.take (i := 1) rfl rfl rfl rfl (by kernel_rfl) (by kernel_rfl) (by kernel_rfl) (fun _ _ _ h => h) (by kernel_rfl) need_none (Yl.nilCheck rfl) ?_
      refine WD.take (i := 2) rfl rfl rfl rfl (by kernel_rfl) (by kernel_rfl) (by kernel_rfl) (fun _ _ _ h => h) (by kernel_rfl) need_none (Yl.fieldAddr0 F.fld76_0 rfl) ?_
      refine WD.take (i := 3) rfl rfl rfl rfl (by kernel_rfl) (by kernel_rfl) (by kernel_rfl) (fun _ _ _ h => h) (by kernel_rfl) (need_at 0 10 rfl (by kernel_rfl)) (Yl.load1 F.one9 rfl) ?_
      refine WD.take (i := 4) rfl rfl rfl rfl (by kernel_rfl) (by kernel_rfl) (by kernel_rfl) (fun _ _ _ h => h) (by kernel_rfl) need_none (Yl.move rfl) ?_
      refine WD.take (i := 5) rfl rfl rfl rfl (by kernel_rfl) (by kernel_rfl) (by kernel_rfl) (fun _ _ _ h => h) (by kernel_rfl) need_none (Yl.nilCheck rfl) ?_
      refine WD.take (i := 6) rfl rfl rfl rfl (by kernel_rfl) (by kernel_rfl) (by kernel_rfl) (fun _ _ _ h => h) (by kernel_rfl) need_none (Yl.fieldAddr0 F.fld76_1 rfl) ?_
      refine WD.take (i := 7) rfl rfl rfl rfl (by kernel_rfl) (by kernel_rfl) (by kernel_rfl) (fun _ _ _ h => h) (by kernel_rfl) (need_at 1 10 rfl (by kernel_rfl)) (Yl.load1 F.one3 rfl) ?_
      refine WD.take (i := 8) rfl rfl rfl rfl (by kernel_rfl) (by kernel_rfl) (by kernel_rfl) (fun _ _ _ h => h) (by kernel_rfl) need_none (Yl.sliceFrom F.und9 rfl rfl hql) ?_
      refine WD.take (i := 9) rfl rfl rfl rfl (by kernel_rfl) (by kernel_rfl) (by kernel_rfl) (fun _ _ _ h => h) (by kernel_rfl) need_none (Yl.assign rfl) ?_
      refine WD.done (by kernel_rfl) ?_
      refine WQ.then_normal ?_
      refine WC.seq ?_
      refine WC.seq ?_
      refine WC.region ?_
      refine WL.step ?_
      refine WL.buildA F.arT122 rfl (by repeat (first | exact Built.nil | apply Built.one rfl rfl (by repeat constructor) | apply Built.agg rfl rfl (by repeat constructor))) rfl ?_
      refine WL.step ?_
      refine WL.move rfl rfl ?_
      refine WL.nil ?_
      refine WQ.then_normal ?_
      refine WC.block ?_
      obtain ⟨rest, hrest⟩ : ∃ rest, rest = text.drop q := ⟨_, rfl⟩
      have hrl : rest.length = text.length - q := by rw [hrest]; simp
      have hrne : rest ≠ [] := by intro h0; rw [h0] at hrl; simp at hrl; omega
      rw [← hrest] at hnx ⊢
      refine WC.say 69 (.agg (Fm.signs.map (fun s => Value.string (str s))).toArray) rfl ?_
      refine WC.loop (α := Nat) (fun i => i ≤ 10 ∧ (Fm.signs.take i).all (fun s => !Fm.pre rest s) = true) (fun i => [(0, .pointer (some ⟨bp, 0, none⟩)), (2, .string (str rest)), (69, .agg (Fm.signs.map (fun s => Value.string (str s))).toArray), (70, .int .i64 (i : Int))]) (fun _ => [pt bp [.string (str text), .int .i64 (q : Int), .string (str [])] 76]) (fun i => 10 - i) (0) ?_ ?_ ?_ ?_
      · exact ⟨by omega, rfl⟩
      · exact ⟨rfl, rfl, rfl, rfl, trivial⟩
      · rfl
      rintro i ⟨hi, hno⟩
      refine WC.seq ?_
      refine WC.region ?_
      refine WL.step ?_
      refine WL.ltI rfl rfl rfl ?_
      refine WL.nil ?_
      refine WQ.then_normal ?_
      refine WC.seq ?_
      refine WC.cond rfl (fun h71 => ?_) (fun h71 => ?_)
      · skip
        have hi10 : i < 10 := by simp at h71; omega
        obtain ⟨s, hs⟩ : ∃ s, Fm.signs[i]? = some s := ⟨_, List.getElem?_eq_getElem (show i < Fm.signs.length from hi10)⟩
        refine WC.skip ?_
        refine WQ.then_normal ?_
        refine WC.seq ?_
        refine WC.block ?_
        refine WC.seq ?_
        refine WC.region ?_
        refine WL.step ?_
        refine WL.indexA1 (i := i) F.und122 F.one9 rfl rfl rfl hi10 (v := .string (str s)) (by simp [hs]) ?_
        refine WL.step ?_
        refine WL.assign rfl rfl ?_
        refine WL.nil ?_
        refine WQ.then_normal ?_
        refine WC.seq ?_
        refine WC.region ?_
        refine WL.step ?_
        refine WL.move rfl rfl ?_
        refine WL.step ?_
        refine WL.move rfl rfl ?_
        refine WL.step ?_
        refine WL.callV F.fun83 rfl rfl (fun w _ => hasPrefix_c rest s w) ?_
        refine WL.nil ?_
        refine WQ.then_normal ?_
        refine WC.cond rfl (fun h75 => ?_) (fun h75 => ?_)
        · skip
          have htok : Fm.tok rest = some s := by simp only [Fm.tok, hrne, if_false, Fm.find_at _ _ i s hno hs h75]
          refine WC.seq ?_
          refine WC.region ?_
          refine WL.step ?_
          refine WL.move rfl rfl ?_
          refine WL.step ?_
          refine WL.move rfl rfl ?_
          refine WL.step ?_
          refine WL.nilCheck rfl rfl ?_
          refine WL.step ?_
          refine WL.fieldAddr0 F.fld76_2 rfl rfl ?_
          refine WL.step ?_
          refine WL.store1 F.one9 rfl rfl rfl (by repeat (first | exact Upd.here | apply Upd.there)) (by repeat constructor) ?_
          refine WL.nil ?_
          refine WQ.then_normal ?_
          refine WC.ret ?_
          refine WQ.block_ret ?_
          refine WQ.then_ret ?_
          refine WQ.then_ret ?_
          refine WQ.block_ret ?_
          refine WQ.then_ret ?_
          refine WQ.ret (rs := []) rfl .nil (fun w hS => ?_)
          rw [hnx, htok]
          exact ⟨rfl, hS⟩
        · skip
          have hpre : Fm.pre rest s = false := h75
          refine WC.skip ?_
          refine WQ.block_normal ?_
          refine WQ.then_normal ?_
          refine WC.region ?_
          refine WL.step ?_
          refine WL.add rfl rfl rfl ⟨by omega, by omega⟩ ?_
          refine WL.step ?_
          refine WL.move rfl rfl ?_
          refine WL.nil ?_
          refine WQ.back (i + 1) ?_ ?_ ?_ ?_
          · exact ⟨by omega, by rw [Fm.all_take_succ _ _ _ s hs, hno, hpre]; rfl⟩
          · omega
          · exact ⟨rfl, rfl, rfl, rfl, trivial⟩
          · rfl
      · skip
        have hi10 : i = 10 := by simp at h71; omega
        subst hi10
        have hfn : Fm.signs.find? (Fm.pre rest) = none := Fm.find_none _ _ hno
        refine WC.exit ?_
        refine WQ.then_exit ?_
        refine WQ.then_exit ?_
        refine WQ.block_exit ?_
        refine WQ.then_normal ?_
        refine WC.seq ?_
        refine WC.region ?_
        refine WL.step ?_
        refine WL.assign rfl rfl ?_
        refine WL.nil ?_
        refine WQ.then_normal ?_
        refine WC.seq ?_
        refine WC.block ?_
        refine WC.loop (α := Nat) (fun n => n ≤ (Fm.word rest).length) (fun n => [(0, .pointer (some ⟨bp, 0, none⟩)), (2, .string (str rest)), (5, .int .i64 (n : Int))]) (fun _ => [pt bp [.string (str text), .int .i64 (q : Int), .string (str [])] 76]) (fun n => (Fm.word rest).length - n) (0) ?_ ?_ ?_ ?_
        · exact Nat.zero_le _
        · exact ⟨rfl, rfl, rfl, trivial⟩
        · rfl
        rintro n hn
        refine WC.seq ?_
        refine WC.seq ?_
        refine WC.cutF [(90, .bool (decide (n < (Fm.word rest).length))), (0, .pointer (some ⟨bp, 0, none⟩)), (2, .string (str rest)), (5, .int .i64 (n : Int))] (fun Q' hQ => ?_) ?_
        · skip
          refine WC.region ?_
          have hwl : (Fm.word rest).length ≤ rest.length := Fm.takeWhile_le _ _
          refine WL.step ?_
          refine WL.move rfl rfl ?_
          refine WL.step ?_
          refine WL.move rfl rfl ?_
          refine WL.step ?_
          refine WL.lenS F.und9 rfl rfl ?_
          refine WL.step ?_
          refine WL.ltI rfl rfl rfl ?_
          refine WL.step ?_
          refine WL.move rfl rfl ?_
          refine WA.splitB (i := 85) rfl (fun h85 => ?_) (fun h85 => ?_)
          · skip
            have hlt : n < rest.length := by simp at h85; omega
            obtain ⟨c, hc⟩ : ∃ c, rest[n]? = some c := ⟨rest[n], by simp [hlt]⟩
            refine WL.step (WL.guardT rfl rfl rfl ?_)
            refine WL.move rfl rfl ?_
            refine WL.step (WL.guardT rfl rfl rfl ?_)
            refine WL.move rfl rfl ?_
            refine WL.step (WL.guardT rfl rfl rfl ?_)
            refine WL.indexS (i := n) F.und9 rfl rfl rfl hc ?_
            refine WL.step (WL.guardT rfl rfl rfl ?_)
            refine WL.callV F.fun84 rfl rfl (fun w _ => inWord_c c w) ?_
            refine WL.step ?_
            refine WL.pickT rfl rfl rfl ?_
            refine WL.nil ?_
            refine WQ.byCut hQ (subF_bool ?_ ⟨rfl, rfl, rfl, trivial⟩ rfl)
            first | exact word_in hn hc | exact word_out hn h85
          · skip
            refine WL.step (WL.guardF rfl rfl rfl rfl rfl rfl ?_)
            refine WL.step (WL.guardF rfl rfl rfl rfl rfl rfl ?_)
            refine WL.step (WL.guardF rfl rfl rfl rfl rfl rfl ?_)
            refine WL.step (WL.guardF rfl rfl rfl rfl rfl rfl ?_)
            refine WL.step ?_
            refine WL.pickF rfl rfl rfl ?_
            refine WL.nil ?_
            refine WQ.byCut hQ (subF_bool ?_ ⟨rfl, rfl, rfl, trivial⟩ rfl)
            first | exact word_in hn hc | exact word_out hn h85
        refine WQ.then_normal ?_
        refine WC.cond rfl (fun h90 => ?_) (fun h90 => ?_)
        · skip
          have hlt : n < (Fm.word rest).length := by simpa using h90
          have hwl : (Fm.word rest).length ≤ rest.length := Fm.takeWhile_le _ _
          refine WC.skip ?_
          refine WQ.then_normal ?_
          refine WC.block ?_
          refine WC.region ?_
          refine WL.step ?_
          refine WL.move rfl rfl ?_
          refine WL.step ?_
          refine WL.add rfl rfl rfl ⟨by omega, by omega⟩ ?_
          refine WL.step ?_
          refine WL.assign rfl rfl ?_
          refine WL.nil ?_
          refine WQ.block_normal ?_
          refine WQ.back (n + 1) ?_ ?_ ?_ ?_
          · exact by omega
          · omega
          · exact ⟨rfl, rfl, rfl, trivial⟩
          · rfl
        · skip
          have hne : n = (Fm.word rest).length := by simp at h90; omega
          subst hne
          refine WC.exit ?_
          refine WQ.then_exit ?_
          refine WQ.then_exit ?_
          refine WQ.block_exit ?_
          refine WQ.then_normal ?_
          refine WC.seq ?_
          refine WC.region ?_
          refine WL.step ?_
          refine WL.move rfl rfl ?_
          refine WL.step ?_
          refine WL.move rfl rfl ?_
          refine WL.step ?_
          refine WL.move rfl rfl ?_
          refine WL.step ?_
          refine WL.y (F := fun _ => True) (Yl.sliceTo F.und9 rfl rfl (Fm.takeWhile_le _ _)) rfl (fun _ _ => trivial) ?_
          have htw : rest.take (Fm.word rest).length = Fm.word rest := Fm.takeWhile_take _ _
          rw [htw]
          refine WL.step ?_
          refine WL.nilCheck rfl rfl ?_
          refine WL.step ?_
          refine WL.fieldAddr0 F.fld76_2 rfl rfl ?_
          refine WL.step ?_
          refine WL.store1 F.one9 rfl rfl rfl (by repeat (first | exact Upd.here | apply Upd.there)) (by repeat constructor) ?_
          refine WL.nil ?_
          refine WQ.then_normal ?_
          refine WC.seq ?_
          refine WC.cutF [(118, .bool (!(Fm.word rest == [48]) && !(Fm.word rest == [49]) && !(Fm.isNameB (Fm.word rest)))), (0, .pointer (some ⟨bp, 0, none⟩))] (fun Q' hQ => ?_) ?_
          · skip
            refine WC.region ?_
            refine WL.step ?_
            refine WL.move rfl rfl ?_
            refine WL.step ?_
            refine WL.nilCheck rfl rfl ?_
            refine WL.step ?_
            refine WL.fieldAddr0 F.fld76_2 rfl rfl ?_
            refine WL.step ?_
            refine WL.loadP F.one9 rfl rfl (by repeat (first | exact List.Mem.head _ | apply List.Mem.tail)) rfl ?_
            refine WL.step ?_
            refine WL.neS rfl rfl rfl ?_
            refine WL.step ?_
            refine WL.move rfl rfl ?_
            refine WA.splitB (i := 104) rfl (fun h104 => ?_) (fun h104 => ?_)
            · skip
              refine WL.step (WL.guardT rfl rfl rfl ?_)
              refine WL.move rfl rfl ?_
              refine WL.step (WL.guardT rfl rfl rfl ?_)
              refine WL.nilCheck rfl rfl ?_
              refine WL.step (WL.guardT rfl rfl rfl ?_)
              refine WL.fieldAddr0 F.fld76_2 rfl rfl ?_
              refine WL.step (WL.guardT rfl rfl rfl ?_)
              refine WL.loadP F.one9 rfl rfl (by repeat (first | exact List.Mem.head _ | apply List.Mem.tail)) rfl ?_
              refine WL.step (WL.guardT rfl rfl rfl ?_)
              refine WL.neS rfl rfl rfl ?_
              refine WL.step ?_
              refine WL.pickT rfl rfl rfl ?_
              refine WL.step ?_
              refine WL.move rfl rfl ?_
              refine WA.splitB (i := 111) rfl (fun h111 => ?_) (fun h111 => ?_)
              · skip
                refine WL.step (WL.guardT rfl rfl rfl ?_)
                refine WL.move rfl rfl ?_
                refine WL.step (WL.guardT rfl rfl rfl ?_)
                refine WL.nilCheck rfl rfl ?_
                refine WL.step (WL.guardT rfl rfl rfl ?_)
                refine WL.fieldAddr0 F.fld76_2 rfl rfl ?_
                refine WL.step (WL.guardT rfl rfl rfl ?_)
                refine WL.loadP F.one9 rfl rfl (by repeat (first | exact List.Mem.head _ | apply List.Mem.tail)) rfl ?_
                refine WL.step (WL.guardT rfl rfl rfl ?_)
                refine WL.callV F.fun79 rfl rfl (fun w _ => isName_c _ w) ?_
                refine WL.step (WL.guardT rfl rfl rfl ?_)
                refine WL.not rfl rfl ?_
                refine WL.step ?_
                refine WL.pickT rfl rfl rfl ?_
                refine WL.nil ?_
                refine WQ.byCut hQ (subF_bool ?_ ⟨rfl, trivial⟩ rfl)
                first | (rw [h104, h111]; rfl) | (rw [h104, h111]) | (rw [h104]; rfl)
              · skip
                refine WL.step (WL.guardF rfl rfl rfl rfl rfl rfl ?_)
                refine WL.step (WL.guardF rfl rfl rfl rfl rfl rfl ?_)
                refine WL.step (WL.guardF rfl rfl rfl rfl rfl rfl ?_)
                refine WL.step (WL.guardF rfl rfl rfl rfl rfl rfl ?_)
                refine WL.step (WL.guardF rfl rfl rfl rfl rfl rfl ?_)
                refine WL.step (WL.guardF rfl rfl rfl rfl rfl rfl ?_)
                refine WL.step ?_
                refine WL.pickF rfl rfl rfl ?_
                refine WL.nil ?_
                refine WQ.byCut hQ (subF_bool ?_ ⟨rfl, trivial⟩ rfl)
                first | (rw [h104, h111]; rfl) | (rw [h104, h111]) | (rw [h104]; rfl)
            · skip
              refine WL.step (WL.guardF rfl rfl rfl rfl rfl rfl ?_)
              refine WL.step (WL.guardF rfl rfl rfl rfl rfl rfl ?_)
              refine WL.step (WL.guardF rfl rfl rfl rfl rfl rfl ?_)
              refine WL.step (WL.guardF rfl rfl rfl rfl rfl rfl ?_)
              refine WL.step (WL.guardF rfl rfl rfl rfl rfl rfl ?_)
              refine WL.step ?_
              refine WL.pickF rfl rfl rfl ?_
              refine WL.step ?_
              refine WL.move rfl rfl ?_
              refine WL.step (WL.guardF rfl rfl rfl rfl rfl rfl ?_)
              refine WL.step (WL.guardF rfl rfl rfl rfl rfl rfl ?_)
              refine WL.step (WL.guardF rfl rfl rfl rfl rfl rfl ?_)
              refine WL.step (WL.guardF rfl rfl rfl rfl rfl rfl ?_)
              refine WL.step (WL.guardF rfl rfl rfl rfl rfl rfl ?_)
              refine WL.step (WL.guardF rfl rfl rfl rfl rfl rfl ?_)
              refine WL.step ?_
              refine WL.pickF rfl rfl rfl ?_
              refine WL.nil ?_
              refine WQ.byCut hQ (subF_bool ?_ ⟨rfl, trivial⟩ rfl)
              first | (rw [h104, h111]; rfl) | (rw [h104, h111]) | (rw [h104]; rfl)
          refine WQ.then_normal ?_
          refine WC.cond rfl (fun h118 => ?_) (fun h118 => ?_)
          · skip
            have htok : Fm.tok rest = none := tok_bad hrne hfn h118
            refine WC.region ?_
            refine WL.step ?_
            refine WL.move rfl rfl ?_
            refine WL.step ?_
            refine WL.nilCheck rfl rfl ?_
            refine WL.step ?_
            refine WL.fieldAddr0 F.fld76_1 rfl rfl ?_
            refine WL.step ?_
            refine WL.loadP F.one3 rfl rfl (by repeat (first | exact List.Mem.head _ | apply List.Mem.tail)) rfl ?_
            refine WL.step ?_
            refine WL.build F.stT72 rfl (by repeat (first | exact Built.nil | apply Built.one rfl rfl (by repeat constructor) | apply Built.agg rfl rfl (by repeat constructor))) rfl ?_
            refine WL.step ?_
            refine WL.makeIface F.conc72 rfl rfl ?_
            refine WL.step ?_
            refine WL.panic rfl ?_
            refine WQ.panicked (fun w hS => ?_)
            rw [hnx, htok]
            exact ⟨rfl, _, hS⟩
          · skip
            have htok : Fm.tok rest = some (Fm.word rest) := tok_word hrne hfn h118
            refine WC.skip ?_
            refine WQ.fin (rs := []) rfl .nil (fun w hS => ?_)
            rw [hnx, htok]
            exact ⟨rfl, hS⟩

end Go.Proofs.Ytbippghgkbapnaa
