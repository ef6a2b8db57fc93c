import Derived.Test.YtbippghgkbapnaaM2
import Derived.Test.YtbippghgkbapnaaSpec
import Derived.Test.YtbippghgkbapnaaFacts
namespace Go.Proofs.Ytbippghgkbapnaa
open Go Go.Eng Go.Proofs
def TRpost (bp : Nat) (text : List UInt8) (at_ : Nat) (wd : List UInt8) (w : World) : Fm.TR → Ending → World → Prop
  | .no, e, w' => e = .returned (.bool false) ∧ St w [bp] [pt bp (pcell text at_ wd) 76] w'
  | .yes a x, e, w' => e = .returned (.bool true) ∧ St w [bp] [pt bp (pcell text a x) 76] w'
  | .bad a, e, w' => e = .panicked (trouble a) ∧ ∃ cs, St w [bp] [pt bp cs 76] w'
def PRpost (bp : Nat) (text : List UInt8) (w : World) : Fm.PR → Ending → World → Prop
  | .ok t a x, e, w' => ∃ y : List Nat × Option Addr × Nat, e = .returned (tv t y.2.1 y.2.2) ∧ St w [bp] [own y.1 t (tv t y.2.1 y.2.2), pt bp (pcell text a x) 76] w'
  | .bad a, e, w' => e = .panicked (trouble a) ∧ ∃ cs, St w [bp] [pt bp cs 76] w'
theorem takes_eq {text wd : List UInt8} {at_ : Nat} {a : Nat} {x : List UInt8} (h : Fm.next text at_ wd = .ok a x) : Fm.takes text at_ wd wd = .yes a x := by simp [Fm.takes, h]
theorem takes_bad {text wd : List UInt8} {at_ : Nat} {a : Nat} (h : Fm.next text at_ wd = .bad a) : Fm.takes text at_ wd wd = .bad a := by simp [Fm.takes, h]

theorem takes_c (bp : Nat) (text wd s : List UInt8) (at_ : Nat) (hle : at_ + wd.length ≤ text.length) (hmax : text.length ≤ 140737488355328) (w : World) (hp : w.heap[bp]? = some (.cells (pcell text at_ wd).toArray 76 (0, 0))) :
    Calls Try.prog 86 [Value.pointer (some ⟨bp, 0, none⟩), .string (str s)].toArray w (TRpost bp text at_ wd w (Fm.takes text at_ wd s)) := by
  refine enter Try.func86 rfl Try.ntmps86 rfl (St.init1 hp) ?_
  refine WC.seq ?_
  refine WC.region ?_
  refine WL.step ?_
  refine WL.assign rfl rfl ?_
  refine WL.nil ?_
  refine WQ.then_normal ?_
  refine WC.seq ?_
  refine WC.seq ?_
  refine WC.region ?_
  refine WL.step ?_
  refine WL.move rfl rfl ?_
  refine WL.step ?_
  refine WL.nilCheck rfl rfl ?_
  refine WL.step ?_
  refine WL.fieldAddr0 F.fld76_2 rfl rfl ?_
  refine WL.step ?_
  refine WL.loadP F.one9 rfl rfl (by repeat (first | exact List.Mem.head _ | apply List.Mem.tail)) rfl ?_
  refine WL.step ?_
  refine WL.move rfl rfl ?_
  refine WL.step ?_
  refine WL.neS rfl rfl rfl ?_
  refine WL.nil ?_
  refine WQ.then_normal ?_
  refine WC.cond rfl (fun h10 => ?_) (fun h10 => ?_)
  · skip
    have hne : wd ≠ s := by simpa using h10
    refine WC.seq ?_
    refine WC.region ?_
    refine WL.step ?_
    refine WL.assign rfl rfl ?_
    refine WL.nil ?_
    refine WQ.then_normal ?_
    refine WC.ret ?_
    refine WQ.then_ret ?_
    refine WQ.ret (rs := [.tmp 4]) rfl (.tmp rfl .nil) (fun w hS => ?_)
    rw [show Fm.takes text at_ wd s = .no by simp [Fm.takes, hne]]
    exact ⟨rfl, hS⟩
  · skip
    have hes : wd = s := by simpa using h10
    subst hes
    have hN := fun (w : World) (hp : w.heap[bp]? = some (.cells (pcell text at_ wd).toArray 76 (0, 0))) => next_c bp text wd at_ hle hmax w hp
    refine WC.skip ?_
    refine WQ.then_normal ?_
    refine WC.seq ?_
    rcases hn : Fm.next text at_ wd with ⟨a, x⟩ | a
    · skip
      rw [hn] at hN
      refine WC.region ?_
      refine WL.step ?_
      refine WL.move rfl rfl ?_
      refine WL.step ?_
      refine WL.call1S (bs' := pcell text a x) F.fun46 rfl rfl (by repeat (first | exact Rem.here | apply Rem.there)) (fun w hS => hN w (hS.heap (by repeat (first | exact List.Mem.head _ | apply List.Mem.tail)))) ?_
      refine WL.nil ?_
      refine WQ.then_normal ?_
      refine WC.seq ?_
      refine WC.region ?_
      refine WL.step ?_
      refine WL.assign rfl rfl ?_
      refine WL.nil ?_
      refine WQ.then_normal ?_
      refine WC.ret ?_
      refine WQ.ret (rs := [.tmp 4]) rfl (.tmp rfl .nil) (fun w hS => ?_)
      rw [takes_eq hn]
      exact ⟨rfl, hS⟩
    · skip
      rw [hn] at hN
      refine WC.region ?_
      refine WL.step ?_
      refine WL.move rfl rfl ?_
      refine WL.step ?_
      refine WL.call1P F.fun46 (fun d h => by cases h; rfl) rfl (by repeat (first | exact Rem.here | apply Rem.there)) (fun w hS => hN w (hS.heap (by repeat (first | exact List.Mem.head _ | apply List.Mem.tail)))) (fun cs => ?_)
      refine WQ.then_panic ?_
      refine WQ.panicked (fun w hS => ?_)
      rw [takes_bad hn]
      exact ⟨rfl, _, hS⟩

def MRpost (bp : Nat) (text : List UInt8) (at_ : Nat) (w : World) : Fm.TR → Ending → World → Prop
  | .no, e, w' => e = .panicked (trouble at_) ∧ ∃ cs, St w [bp] [pt bp cs 76] w'
  | .yes a x, e, w' => e = .returned (.tuple #[]) ∧ St w [bp] [pt bp (pcell text a x) 76] w'
  | .bad a, e, w' => e = .panicked (trouble a) ∧ ∃ cs, St w [bp] [pt bp cs 76] w'

theorem must_c (bp : Nat) (text wd s : List UInt8) (at_ : Nat) (hle : at_ + wd.length ≤ text.length) (hmax : text.length ≤ 140737488355328) (w : World) (hp : w.heap[bp]? = some (.cells (pcell text at_ wd).toArray 76 (0, 0))) :
    Calls Try.prog 87 [Value.pointer (some ⟨bp, 0, none⟩), .string (str s)].toArray w (MRpost bp text at_ w (Fm.takes text at_ wd s)) := by
  have hN := fun (w : World) (hp : w.heap[bp]? = some (.cells (pcell text at_ wd).toArray 76 (0, 0))) => takes_c bp text wd s at_ hle hmax w hp
  refine enter Try.func87 rfl Try.ntmps87 rfl (St.init1 hp) ?_
  refine WC.seq ?_
  rcases hn : Fm.takes text at_ wd s with _ | ⟨a, x⟩ | a
  · skip
    rw [hn] at hN
    refine WC.region ?_
    refine WL.step ?_
    refine WL.move rfl rfl ?_
    refine WL.step ?_
    refine WL.move rfl rfl ?_
    refine WL.step ?_
    refine WL.call1S (bs' := pcell text at_ wd) F.fun86 rfl rfl (by repeat (first | exact Rem.here | apply Rem.there)) (fun w hS => hN w (hS.heap (by repeat (first | exact List.Mem.head _ | apply List.Mem.tail)))) ?_
    refine WL.step ?_
    refine WL.not rfl rfl ?_
    refine WL.nil ?_
    refine WQ.then_normal ?_
    refine WC.condT rfl ?_
    refine WC.region ?_
    refine WL.step ?_
    refine WL.move rfl rfl ?_
    refine WL.step ?_
    refine WL.nilCheck rfl rfl ?_
    refine WL.step ?_
    refine WL.fieldAddr0 F.fld76_1 rfl rfl ?_
    refine WL.step ?_
    refine WL.loadP F.one3 rfl rfl (by repeat (first | exact List.Mem.head _ | apply List.Mem.tail)) rfl ?_
    refine WL.step ?_
    refine WL.build F.stT72 rfl (by repeat (first | exact Built.nil | apply Built.one rfl rfl (by repeat constructor) | apply Built.agg rfl rfl (by repeat constructor))) rfl ?_
    refine WL.step ?_
    refine WL.makeIface F.conc72 rfl rfl ?_
    refine WL.step ?_
    refine WL.panic rfl ?_
    refine WQ.panicked (fun w hS => ?_)
    exact ⟨rfl, _, hS⟩
  · skip
    rw [hn] at hN
    refine WC.region ?_
    refine WL.step ?_
    refine WL.move rfl rfl ?_
    refine WL.step ?_
    refine WL.move rfl rfl ?_
    refine WL.step ?_
    refine WL.call1S (bs' := pcell text a x) F.fun86 rfl rfl (by repeat (first | exact Rem.here | apply Rem.there)) (fun w hS => hN w (hS.heap (by repeat (first | exact List.Mem.head _ | apply List.Mem.tail)))) ?_
    refine WL.step ?_
    refine WL.not rfl rfl ?_
    refine WL.nil ?_
    refine WQ.then_normal ?_
    refine WC.condF rfl ?_
    refine WC.skip ?_
    refine WQ.fin (rs := []) rfl .nil (fun w hS => ?_)
    exact ⟨rfl, hS⟩
  · skip
    rw [hn] at hN
    refine WC.region ?_
    refine WL.step ?_
    refine WL.move rfl rfl ?_
    refine WL.step ?_
    refine WL.move rfl rfl ?_
    refine WL.step ?_
    refine WL.call1P F.fun86 (fun d h => by cases h; rfl) rfl (by repeat (first | exact Rem.here | apply Rem.there)) (fun w hS => hN w (hS.heap (by repeat (first | exact List.Mem.head _ | apply List.Mem.tail)))) (fun cs => ?_)
    refine WQ.then_panic ?_
    refine WQ.panicked (fun w hS => ?_)
    exact ⟨rfl, _, hS⟩

end Go.Proofs.Ytbippghgkbapnaa
