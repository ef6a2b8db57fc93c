import Derived.Test.YtbippghgkbapnaaEng9
import Derived.Test.YtbippghgkbapnaaSpec3
import Derived.Test.YtbippghgkbapnaaM6
import Derived.Test.YtbippghgkbapnaaSpec
import Derived.Test.YtbippghgkbapnaaFacts
set_option linter.unusedSimpArgs false
set_option linter.unusedVariables false
namespace Go.Proofs.Ytbippghgkbapnaa
open Go Go.Eng Go.Proofs
structure PCn (bp : Nat) (text : List UInt8) (n : Nat) : Prop where
  ch : PC bp text 47 [pp bp] .choice n
  sa : PC bp text 85 [pp bp] .same n
  im : PC bp text 105 [pp bp] .implies n
  ro : ∀ i : Nat, i ≤ 3 → PC bp text 112 [pp bp, .int .i64 (i : Int)] (.row i) n
  no : PC bp text 114 [pp bp] .not n
  le : PC bp text 115 [pp bp] .least n
theorem PC.zero {bp : Nat} {text : List UInt8} {f : Nat} {args : List Value} {nt : Fm.NT} : PC bp text f args nt 0 := fun a x r w _ h _ => by simp [Fm.parse] at h
theorem pc_all (bp : Nat) (text : List UInt8) (hmax : text.length ≤ 1099511627776) : ∀ n, PCn bp text n := by
  intro n
  induction n using Nat.strongRecOn with
  | _ n ih =>
    cases n with
    | zero => exact ⟨PC.zero, PC.zero, PC.zero, fun _ _ => PC.zero, PC.zero, PC.zero⟩
    | succ n =>
      have hm : text.length ≤ 140737488355328 := by omega
      have h := ih n (Nat.lt_succ_self n)
      exact ⟨choice_c bp text hm n h.sa h.ch, same_c bp text hm n h.im h.im, implies_c bp text hm n (h.ro 0 (by omega)) h.im,
        fun i hi => row_c bp text hmax n i hi h.no (fun hi3 m hm => (ih m (by omega)).ro (i + 1) (by omega)),
        not_c bp text hm n (fun m hm => (ih m (by omega)).le), least_c bp text hm n h.ch⟩

theorem catch_idle (b2 b3 b4 : Nat) (w : World) :
    CallsD Try.prog 45 [pp b2, pp b3, pp b4].toArray .returning w fun e u' w' => e = .returned (.tuple #[]) ∧ u' = .returning ∧ St w [] [] w' := by
  refine enterS Try.func45 rfl Try.ntmps45 rfl rfl rfl (St.init _) Recovers.returning (fun c₀ cs => ?_)
  refine WC.seq ?_
  refine WC.region ?_
  refine WL.step ?_
  refine WL.move rfl rfl ?_
  refine WL.step ?_
  refine WL.bin rfl rfl rfl (v := .bool false) (fun w => by kernel_rfl) ?_
  refine WL.nil ?_
  refine WQ.then_normal ?_
  refine WC.condF rfl ?_
  refine WC.skip ?_
  exact WQ.finS (rs := []) rfl .nil (fun w hS => ⟨rfl, rfl, hS⟩)

theorem _root_.Go.Eng.St.init3 {w : World} {b c d : Nat} {bs cs ds : List Value} {e1 e2 e3 : TypeId} (hb : w.heap[b]? = some (.cells bs.toArray e1 (0, 0))) (hc : w.heap[c]? = some (.cells cs.toArray e2 (0, 0)))
    (hd : w.heap[d]? = some (.cells ds.toArray e3 (0, 0))) (h1 : b ≠ c) (h2 : b ≠ d) (h3 : c ≠ d) : St w [b, c, d] [pt b bs e1, pt c cs e2, pt d ds e3] w := by
  refine ⟨rfl, rfl, rfl, Nat.le_refl _, fun _ _ _ => rfl, ?_, ?_, ?_⟩
  · intro x hx
    simp only [List.mem_cons, List.not_mem_nil, or_false] at hx
    rcases hx with rfl | rfl | rfl
    · exact hb
    · exact hc
    · exact hd
  · intro x hx k hk
    simp only [List.mem_cons, List.not_mem_nil, or_false] at hx
    rcases hx with rfl | rfl | rfl
    · have hk' : k = b := hk
      subst hk'
      exact ⟨lt_of_heap hb, fun _ => by simp⟩
    · have hk' : k = c := hk
      subst hk'
      exact ⟨lt_of_heap hc, fun _ => by simp⟩
    · have hk' : k = d := hk
      subst hk'
      exact ⟨lt_of_heap hd, fun _ => by simp⟩
  · refine .cons (fun x hx k hk hk2 => ?_) (.cons (fun x hx k hk hk2 => ?_) (.cons (fun x hx => by cases hx) .nil))
    · have hk' : k = b := hk
      simp only [List.mem_cons, List.not_mem_nil, or_false] at hx
      rcases hx with rfl | rfl
      · exact h1 (hk'.symm.trans hk2)
      · exact h2 (hk'.symm.trans hk2)
    · have hk' : k = c := hk
      simp only [List.mem_cons, List.not_mem_nil, or_false] at hx
      subst hx
      exact h3 (hk'.symm.trans hk2)

theorem catch_trouble (b2 b3 b4 : Nat) (at_ : Nat) (v2 v3 v4 : List Value) (h23 : b2 ≠ b3) (h24 : b2 ≠ b4) (h34 : b3 ≠ b4) (hv2 : v2.length = 3) (hv3 : v3.length = 1) (hv4 : v4.length = 1) (w : World)
    (h2 : w.heap[b2]? = some (.cells v2.toArray 25 (0, 0))) (h3 : w.heap[b3]? = some (.cells v3.toArray 3 (0, 0))) (h4 : w.heap[b4]? = some (.cells v4.toArray 26 (0, 0))) :
    CallsD Try.prog 45 [pp b2, pp b3, pp b4].toArray (.panicking (trouble at_)) w fun e u' w' => e = .returned (.tuple #[]) ∧ u' = .panicking [{ v := .iface 72 (.agg #[.int .i64 (at_ : Int)]), recovered := true }] ∧
      St w [b2, b3, b4] [pt b2 [.int .u8 0, .string (str []), .slice none 0 0] 25, pt b3 [.int .i64 (at_ : Int)] 3, pt b4 [.int .i64 4] 26] w' := by
  obtain ⟨x1, x2, x3, rfl⟩ : ∃ x1 x2 x3, v2 = [x1, x2, x3] := by match v2, hv2 with | [x1, x2, x3], _ => exact ⟨x1, x2, x3, rfl⟩
  obtain ⟨y, rfl⟩ : ∃ y, v3 = [y] := List.length_eq_one_iff.1 hv3
  obtain ⟨z, rfl⟩ : ∃ z, v4 = [z] := List.length_eq_one_iff.1 hv4
  refine enterS Try.func45 rfl Try.ntmps45 rfl rfl rfl (St.init3 h2 h3 h4 h23 h24 h34) (Recovers.panicking _ []) (fun c₀ cs => ?_)
  refine WC.seq ?_
  refine WC.region ?_
  refine WL.step ?_
  refine WL.move rfl rfl ?_
  refine WL.step ?_
  refine WL.bin rfl rfl rfl (v := .bool true) (fun w => by kernel_rfl) ?_
  refine WL.nil ?_
  refine WQ.then_normal ?_
  refine WC.condT rfl ?_
  refine WC.seq ?_
  refine WC.region ?_
  refine WL.step ?_
  refine WL.move rfl rfl ?_
  refine WL.step ?_
  refine WL.typeAssert rfl rfl (v := .tuple #[.agg #[.int .i64 (at_ : Int)], .bool true]) (fun w => by kernel_rfl) ?_
  refine WL.step ?_
  refine WL.move rfl rfl ?_
  refine WL.step ?_
  refine WL.extract rfl rfl rfl ?_
  refine WL.step ?_
  refine WL.extract rfl rfl rfl ?_
  refine WL.step ?_
  refine WL.alloc F.zero72 rfl (fun b4_1 => ?_)
  refine WL.step ?_
  refine WL.storeN F.agg72 rfl rfl rfl (by simp [Value.oneCell']) (by repeat (first | exact Upd.here | apply Upd.there)) (by repeat constructor) ?_
  refine WL.step ?_
  refine WL.assign rfl rfl ?_
  refine WL.nil ?_
  refine WQ.then_normal ?_
  refine WC.seq ?_
  refine WC.seq ?_
  refine WC.region ?_
  refine WL.step ?_
  refine WL.move rfl rfl ?_
  refine WL.step ?_
  refine WL.not rfl rfl ?_
  refine WL.nil ?_
  refine WQ.then_normal ?_
  refine WC.condF rfl ?_
  refine WC.skip ?_
  refine WQ.then_normal ?_
  refine WC.draws [([4, 5], fun w => w.cell? ⟨b4_1, 0, none⟩ = some (.int .i64 (at_ : Int)))] (by kernel_rfl) (fun w hS => facts_cons (hS.cell (by repeat (first | exact List.Mem.head _ | apply List.Mem.tail)) rfl) (facts_nil)) ?_
  refine WD.take (i := 0) rfl rfl rfl rfl (by kernel_rfl) (by kernel_rfl) (by kernel_rfl) (fun _ _ _ h => h) (by kernel_rfl) need_none (Yl.build F.stT25 rfl (by repeat (first | exact Built.nil | apply Built.one rfl rfl (by repeat constructor) | apply Built.agg rfl rfl (by repeat constructor)))) ?_
  refine WD.take (i := 1) rfl rfl rfl rfl (by kernel_rfl) (by kernel_rfl) (by kernel_rfl) (fun _ _ _ h => h) (by kernel_rfl) need_none (Yl.fieldAddr0 F.fld72_0 rfl) ?_
  refine WD.take (i := 2) rfl rfl rfl rfl (by kernel_rfl) (by kernel_rfl) (by kernel_rfl) (fun _ _ _ h => h) (by kernel_rfl) (need_at 0 6 rfl (by kernel_rfl)) (Yl.load1 F.one3 rfl) ?_
  refine WD.one (i := 3) (by kernel_rfl) rfl ?_
  refine WL.storeN F.agg25 rfl rfl rfl (by simp [Value.oneCell']) (by repeat (first | exact Upd.here | apply Upd.there)) (by repeat constructor) ?_
  refine WD.on (closed_of (by kernel_rfl)) (fun w hS => Sx.keep (hS.cell (by repeat (first | exact List.Mem.head _ | apply List.Mem.tail)) rfl) (Sx.none)) ?_
  refine WD.one (i := 4) (by kernel_rfl) rfl ?_
  refine WL.store1 F.one3 rfl rfl rfl (by repeat (first | exact Upd.here | apply Upd.there)) (by repeat constructor) ?_
  refine WD.on (closed_of (by kernel_rfl)) (fun w hS => Sx.gone rfl (Sx.none)) ?_
  refine WD.one (i := 5) (by kernel_rfl) rfl ?_
  refine WL.store1 F.one26 rfl rfl rfl (by repeat (first | exact Upd.here | apply Upd.there)) (by repeat constructor) ?_
  refine WD.on (closed_of (by kernel_rfl)) (fun w hS => Sx.gone rfl (Sx.none)) ?_
  refine WD.done (by kernel_rfl) ?_
  exact WQ.finS (rs := []) rfl .nil (fun w hS => ⟨rfl, rfl, hS.sublist (List.Sublist.cons _ (List.Sublist.refl _))⟩)

end Go.Proofs.Ytbippghgkbapnaa
