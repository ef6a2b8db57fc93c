import Derived.Test.YtbippghgkbapnaaEng10
import Derived.Test.YtbippghgkbapnaaSpec4
import Derived.Test.YtbippghgkbapnaaM8
import Derived.Test.YtbippghgkbapnaaSpec
import Derived.Test.YtbippghgkbapnaaFacts
set_option linter.unusedSimpArgs false
set_option linter.unusedVariables false
namespace Go.Proofs.Ytbippghgkbapnaa
open Go Go.Eng Go.Proofs
namespace F
theorem by89 : ByT Try.prog 89 9 5 := ⟨by kernel_rfl, by kernel_rfl, by
  obtain ⟨i, h1, h2⟩ := Option.map_eq_some_iff.1 (show (Try.prog.info? 5).map (fun i => (i.zero, i.size, i.bytes)) = some (some (.int .u8 0), 1, 1) by kernel_rfl)
  simp only [Prod.mk.injEq] at h2
  exact ⟨i, h1, h2.1, h2.2.1, h2.2.2⟩⟩
theorem und88 : Try.prog.underlying 88 = some (.pointer 91) := by kernel_rfl
theorem und139 : Try.prog.underlying 139 = some .unsafePointer := by kernel_rfl
theorem und131 : Try.prog.underlying 131 = some (.pointer 5) := by kernel_rfl
theorem cells5 : Try.prog.cellsOf 5 = 1 := by kernel_rfl
theorem size91 : (Try.prog.info? 91).map (·.size) = some 2 := by kernel_rfl
theorem lies91 : liesAt Try.prog Try.prog.depth 91 (2 / Try.prog.cellsOf 91) 0 91 1 = true := by kernel_rfl
end F
theorem neq88 (b : Nat) (w : World) : (do eqGuard .neq 88 (.tmp 17) (.tmp 18) (pp b) (pp b); binOp .neq 88 (pp b) (pp b) : Sem Value).run Try.prog w = .ok (.bool false) w := by
  obtain ⟨i, hi, hs⟩ := Option.map_eq_some_iff.1 F.size91
  have : ∀ d, (Op.equalIn (d+1) 88 (pp b) (pp b)).run Try.prog w = .ok true w := by
    intro d
    simp [Op.equalIn, run_underlying F.und88, sizeOf, typeInfo, hi, hs, sameAddr]
  have h2 : (Op.equal 88 (pp b) (pp b)).run Try.prog w = .ok true w := this 9999
  have h1 : (eqGuard .neq 88 (.tmp 17) (.tmp 18) (pp b) (pp b)).run Try.prog w = .ok () w := by kernel_rfl
  simp only [Sem.run_bind, h1, Result.andThen_ok]
  simp only [binOp]
  simp [h2]
/-- The block of a slice value, if any. -/
def ob (v : Value) : List Nat := match v.ownBlock with | some k => [k] | none => []
theorem mem_ob {v : Value} {k : Nat} : k ∈ ob v ↔ v.ownBlock = some k := by
  unfold ob
  cases v.ownBlock with
  | none => simp
  | some j => simp [eq_comm]

theorem copyCheck_c (b : Nat) (q v : Value) (hq : q = .pointer none ∨ q = pp b) (w : World) (hp : w.heap[b]? = some (.cells [q, v].toArray 91 (0, 0))) :
    Calls Try.prog 94 [pp b].toArray w fun e w' => e = .returned (.tuple #[]) ∧ St w [b] [pt b [pp b, v] 91] w' := by
  obtain ⟨i91, hi91, hs91⟩ := Option.map_eq_some_iff.1 F.size91
  refine enter Try.func94 rfl Try.ntmps94 rfl (St.init1 hp) ?_
  refine WC.seq ?_
  rcases hq with rfl | rfl
  · skip
    refine WC.region ?_
    refine WL.step ?_
    refine WL.move rfl rfl ?_
    refine WL.step ?_
    refine WL.nilCheck rfl rfl ?_
    refine WL.step ?_
    refine WL.fieldAddr0 F.fld91_0 rfl rfl ?_
    refine WL.step ?_
    refine WL.loadP F.one88 rfl rfl (by repeat (first | exact List.Mem.head _ | apply List.Mem.tail)) rfl ?_
    refine WL.step ?_
    refine WL.bin rfl rfl rfl (v := .bool true) (fun w => by kernel_rfl) ?_
    refine WL.nil ?_
    refine WQ.then_normal ?_
    refine WC.condT rfl ?_
    refine WC.region ?_
    refine WL.step ?_
    refine WL.move rfl rfl ?_
    refine WL.step ?_
    refine WL.move rfl rfl ?_
    refine WL.step ?_
    refine WL.convert rfl rfl (v := pp b) (fun w hS => Lib.run_to_unsafe w ⟨b, 0, none⟩ F.und88 F.und139 hi91 (by rw [hs91]; decide) (e := 91) (cells := 2) (by simp [World.shape?, hS.heap (cs := [.pointer none, v]) (e := 91) (by repeat (first | exact List.Mem.head _ | apply List.Mem.tail))]) (Nat.zero_lt_succ 1)) ?_
    refine WL.step ?_
    refine WL.callE rfl rfl (v := pp b) (fun w => by kernel_rfl) ?_
    refine WL.step ?_
    refine WL.convert rfl rfl (v := pp b) (fun w hS => Lib.run_from_unsafe w ⟨b, 0, none⟩ F.und139 F.und88 hi91 (e := 91) (cells := 2) (by simp [World.shape?, hS.heap (cs := [.pointer none, v]) (e := 91) (by repeat (first | exact List.Mem.head _ | apply List.Mem.tail))]) F.lies91) ?_
    refine WL.step ?_
    refine WL.nilCheck rfl rfl ?_
    refine WL.step ?_
    refine WL.fieldAddr0 F.fld91_0 rfl rfl ?_
    refine WL.step ?_
    refine WL.store1 F.one88 rfl rfl rfl (by repeat (first | exact Upd.here | apply Upd.there)) (by repeat constructor) ?_
    refine WL.nil ?_
    exact WQ.fin (rs := []) rfl .nil (fun w hS => ⟨rfl, hS⟩)
  · skip
    refine WC.region ?_
    refine WL.step ?_
    refine WL.move rfl rfl ?_
    refine WL.step ?_
    refine WL.nilCheck rfl rfl ?_
    refine WL.step ?_
    refine WL.fieldAddr0 F.fld91_0 rfl rfl ?_
    refine WL.step ?_
    refine WL.loadP F.one88 rfl rfl (by repeat (first | exact List.Mem.head _ | apply List.Mem.tail)) rfl ?_
    refine WL.step ?_
    refine WL.bin rfl rfl rfl (v := .bool false) (fun w => by kernel_rfl) ?_
    refine WL.nil ?_
    refine WQ.then_normal ?_
    refine WC.condF rfl ?_
    refine WC.seq ?_
    refine WC.region ?_
    refine WL.step ?_
    refine WL.move rfl rfl ?_
    refine WL.step ?_
    refine WL.nilCheck rfl rfl ?_
    refine WL.step ?_
    refine WL.fieldAddr0 F.fld91_0 rfl rfl ?_
    refine WL.step ?_
    refine WL.loadP F.one88 rfl rfl (by repeat (first | exact List.Mem.head _ | apply List.Mem.tail)) rfl ?_
    refine WL.step ?_
    refine WL.move rfl rfl ?_
    refine WL.step ?_
    refine WL.bin rfl rfl rfl (v := .bool false) (fun w => neq88 b w) ?_
    refine WL.nil ?_
    refine WQ.then_normal ?_
    refine WC.condF rfl ?_
    refine WC.skip ?_
    exact WQ.fin (rs := []) rfl .nil (fun w hS => ⟨rfl, hS⟩)

theorem bcells_append (l s : List UInt8) : bcells (l ++ s) = bcells l ++ bcells s := by simp [bcells]
/-- A builder of strings that has these bytes. -/
def bld (b : Nat) (q v : Value) (l : List UInt8) : List Chunk := [pt b [q, v] 91, rowc v l.length 5 1 (bcells l)]

theorem WriteString_c (b : Nat) (q v : Value) (l s : List UInt8) (hq : q = .pointer none ∨ q = pp b) (hb : l.length + s.length ≤ 140737488355328) (w : World) (hS0 : St w (b :: ob v) (bld b q v l) w) :
    Calls Try.prog 53 [pp b, .string (str s)].toArray w fun e w' => ∃ x : Option Addr × Nat, e = .returned (.tuple #[.int .i64 (s.length : Int), .nilIface]) ∧ St w (b :: ob v) (bld b (pp b) (.slice x.1 (l ++ s).length x.2) (l ++ s)) w' := by
  refine enter Try.func53 rfl Try.ntmps53 rfl (C := [pt b [q, v] 91, rowc v l.length 5 1 (bcells l)]) hS0 ?_
  refine WC.seq ?_
  refine WC.region ?_
  refine WL.step ?_
  refine WL.assign rfl rfl ?_
  refine WL.step ?_
  refine WL.assign rfl rfl ?_
  refine WL.nil ?_
  refine WQ.then_normal ?_
  refine WC.seq ?_
  refine WC.region ?_
  refine WL.step ?_
  refine WL.move rfl rfl ?_
  refine WL.step ?_
  refine WL.call1S (v := .tuple #[]) (bs := [q, v]) (bs' := [pp b, v]) (e := 91) F.fun94 rfl rfl (by repeat (first | exact Rem.here | apply Rem.there)) (fun w hS => copyCheck_c b q v hq w (hS.heap (by repeat (first | exact List.Mem.head _ | apply List.Mem.tail)))) ?_
  refine WL.nil ?_
  refine WQ.then_normal ?_
  refine WC.seq ?_
  refine WC.region ?_
  refine WL.step ?_
  refine WL.move rfl rfl ?_
  refine WL.step ?_
  refine WL.move rfl rfl ?_
  refine WL.step ?_
  refine WL.nilCheck rfl rfl ?_
  refine WL.step ?_
  refine WL.fieldAddr0 F.fld91_1 rfl rfl ?_
  refine WL.step ?_
  refine WL.loadP F.one89 rfl rfl (by repeat (first | exact List.Mem.head _ | apply List.Mem.tail)) rfl ?_
  refine WL.step ?_
  refine WL.move rfl rfl ?_
  refine WL.step ?_
  refine WL.appendS F.by89 rfl rfl rfl (by repeat (first | exact Rem.here | apply Rem.there)) hb (fun a cap => ?_)
  refine WL.step ?_
  refine WL.nilCheck rfl rfl ?_
  refine WL.step ?_
  refine WL.fieldAddr0 F.fld91_1 rfl rfl ?_
  refine WL.step ?_
  refine WL.store1 F.one89 rfl rfl rfl (by repeat (first | exact Upd.here | apply Upd.there)) (by repeat constructor) ?_
  refine WL.nil ?_
  refine WQ.then_normal ?_
  refine WC.seq ?_
  refine WC.region ?_
  refine WL.step ?_
  refine WL.move rfl rfl ?_
  refine WL.step ?_
  refine WL.lenS F.und9 rfl rfl ?_
  refine WL.step ?_
  refine WL.assign rfl rfl ?_
  refine WL.step ?_
  refine WL.assign rfl rfl ?_
  refine WL.nil ?_
  refine WQ.then_normal ?_
  refine WC.ret ?_
  refine WQ.ret (rs := [.tmp 4, .tmp 5]) rfl (.tmp rfl (.tmp rfl .nil)) (fun w hS => ?_)
  refine ⟨(a, cap), rfl, ?_⟩
  have h2 := (St.pick (St.pick hS (c := rowc (.slice a (l.length + s.length) cap) (l.length + s.length) 5 1 (bcells l ++ bcells s)) (by repeat (first | exact Rem.here | apply Rem.there))) (c := pt b [pp b, .slice a (l.length + s.length) cap] 91) (by repeat (first | exact Rem.here | apply Rem.there)))
  simpa only [bld, List.length_append, bcells_append] using h2.two2

theorem String_c (b : Nat) (q : Value) (a : Option Addr) (cap : Nat) (l : List UInt8) (hne : l ≠ []) (hb : l.length ≤ 140737488355328) (w : World) (hS0 : St w (b :: ob (.slice a l.length cap)) (bld b q (.slice a l.length cap) l) w) :
    Calls Try.prog 57 [pp b].toArray w fun e w' => e = .returned (.string (str l)) ∧ St w (b :: ob (.slice a l.length cap)) [pt b [q, .slice a l.length cap] 91] w' := by
  have hcap : cap ≠ 0 := by
    have hro : w.ownsRow 0 5 1 (.slice a l.length cap) l.length (bcells l) := hS0.ok (rowc (.slice a l.length cap) l.length 5 1 (bcells l)) (by repeat (first | exact List.Mem.head _ | apply List.Mem.tail))
    have hpos := List.length_pos_iff.2 hne
    rcases hro.2 with ⟨_, h0⟩ | ⟨g, cp, cur, hv, _, _, hle, _⟩
    · omega
    · injection hv with _ _ hc
      omega
  refine enter Try.func57 rfl Try.ntmps57 rfl (C := [pt b [q, .slice a l.length cap] 91, rowc (.slice a l.length cap) l.length 5 1 (bcells l)]) hS0 ?_
  refine WC.seq ?_
  refine WC.region ?_
  refine WL.step ?_
  refine WL.assign rfl rfl ?_
  refine WL.nil ?_
  refine WQ.then_normal ?_
  refine WC.seq ?_
  refine WC.draws [([4, 10], fun w => w.cell? ⟨b, 1, none⟩ = some (.slice a l.length cap)), ([10], fun w => w.cell? ⟨b, 1, none⟩ = some (.slice a l.length cap))] (by kernel_rfl) (fun w hS => facts_cons (hS.cell (by repeat (first | exact List.Mem.head _ | apply List.Mem.tail)) rfl) (facts_cons (hS.cell (by repeat (first | exact List.Mem.head _ | apply List.Mem.tail)) rfl) (facts_nil))) ?_
  refine WD.take (i := 0) rfl rfl rfl rfl (by kernel_rfl) (by kernel_rfl) (by kernel_rfl) (fun _ _ _ h => h) (by kernel_rfl) need_none (Yl.move rfl) ?_
  refine WD.take (i := 1) rfl rfl rfl rfl (by kernel_rfl) (by kernel_rfl) (by kernel_rfl) (fun _ _ _ h => h) (by kernel_rfl) need_none (Yl.nilCheck rfl) ?_
  refine WD.take (i := 2) rfl rfl rfl rfl (by kernel_rfl) (by kernel_rfl) (by kernel_rfl) (fun _ _ _ h => h) (by kernel_rfl) need_none (Yl.fieldAddr0 F.fld91_1 rfl) ?_
  refine WD.take (i := 3) rfl rfl rfl rfl (by kernel_rfl) (by kernel_rfl) (by kernel_rfl) (fun _ _ _ h => h) (by kernel_rfl) (need_at 0 12 rfl (by kernel_rfl)) (Yl.load1 F.one89 rfl) ?_
  refine WD.take (i := 5) rfl rfl rfl rfl (by kernel_rfl) (by kernel_rfl) (by kernel_rfl) (fun _ _ _ h => h) (by kernel_rfl) need_none (Yl.move rfl) ?_
  refine WD.take (i := 6) rfl rfl rfl rfl (by kernel_rfl) (by kernel_rfl) (by kernel_rfl) (fun _ _ _ h => h) (by kernel_rfl) need_none (Yl.nilCheck rfl) ?_
  refine WD.take (i := 7) rfl rfl rfl rfl (by kernel_rfl) (by kernel_rfl) (by kernel_rfl) (fun _ _ _ h => h) (by kernel_rfl) need_none (Yl.fieldAddr0 F.fld91_1 rfl) ?_
  refine WD.take (i := 8) rfl rfl rfl rfl (by kernel_rfl) (by kernel_rfl) (by kernel_rfl) (fun _ _ _ h => h) (by kernel_rfl) (need_at 1 12 rfl (by kernel_rfl)) (Yl.load1 F.one89 rfl) ?_
  refine WD.take (i := 9) rfl rfl rfl rfl (by kernel_rfl) (by kernel_rfl) (by kernel_rfl) (fun _ _ _ h => h) (by kernel_rfl) need_none (Yl.lenSl F.und89 rfl) ?_
  refine WD.one (i := 4) (by kernel_rfl) rfl ?_
  refine WL.sliceData rfl rfl (.inr hcap) ?_
  refine WD.on (closed_of (by kernel_rfl)) (fun w hS => Sx.gone rfl (Sx.keep (hS.cell (by repeat (first | exact List.Mem.head _ | apply List.Mem.tail)) rfl) (Sx.none))) ?_
  refine WD.one (i := 10) (by kernel_rfl) rfl ?_
  refine WL.unsafeString F.und131 F.cells5 rfl rfl rfl (by repeat (first | exact Rem.here | apply Rem.there)) hne hb ?_
  refine WD.on (closed_of (by kernel_rfl)) (fun w hS => Sx.gone rfl (Sx.gone rfl (Sx.none))) ?_
  refine WD.take (i := 11) rfl rfl rfl rfl (by kernel_rfl) (by kernel_rfl) (by kernel_rfl) (fun _ _ _ h => h) (by kernel_rfl) need_none (Yl.assign rfl) ?_
  refine WD.done (by kernel_rfl) ?_
  refine WQ.then_normal ?_
  refine WC.ret ?_
  exact WQ.ret (rs := [.tmp 2]) rfl (.tmp rfl .nil) (fun w hS => ⟨rfl, hS⟩)

end Go.Proofs.Ytbippghgkbapnaa
