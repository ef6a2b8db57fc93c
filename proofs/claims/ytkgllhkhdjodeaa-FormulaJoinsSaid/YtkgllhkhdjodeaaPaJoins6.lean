import Derived.Test.YtkgllhkhdjodeaaPaJoins5
import Derived.RangeFuncOwn
import Derived.RangeFuncLeaves
import Derived.RangeFuncSeq
import Derived.OrdersIn
import Derived.TacticsIn
set_option linter.unusedSimpArgs false
set_option linter.unusedVariables false
namespace Go.Proofs.Ytkgllhkhdjodeaa
open Go Go.Eng Go.Proofs
def largeB (ls : List (List Int)) : Bool := decide (40 < ls.length) || ls.any (fun c => decide (80 < c.length))
theorem large_no {ls : List (List Int)} (h : largeB ls = false) : ls.length ≤ 40 ∧ ∀ c ∈ ls, c.length ≤ 80 := by
  simp only [largeB, Bool.or_eq_false_iff, decide_eq_false_iff_not, List.any_eq_false, decide_eq_true_eq] at h
  exact ⟨by omega, fun c hc => by have := h.2 c hc; omega⟩

theorem Large_c (ls : List (List Int)) (a : Option Addr) (cap : Nat) (us : List Value) (w : World) (hr : RdLL w ls a us) : Pure Try.prog 14 [.slice a ls.length cap] w (.bool (largeB ls)) := by
  refine enter Try.func14 rfl Try.ntmps14 rfl (St.init _) ?_
  refine WC.seq ?_
  refine WC.region ?_
  refine WL.step ?_
  refine WL.assign rfl rfl ?_
  refine WL.nil ?_
  refine WQ.then_normal ?_
  refine WC.seq ?_
  refine WC.seq ?_
  refine WC.region ?_
  refine WL.step ?_
  refine WL.move rfl rfl ?_
  refine WL.step ?_
  refine WL.lenSl F.und33 rfl rfl ?_
  refine WL.step ?_
  refine WL.gtI rfl rfl rfl ?_
  refine WL.nil ?_
  refine WQ.then_normal ?_
  refine WC.cond rfl (fun h6 => ?_) (fun h6 => ?_)
  · skip
    have hres : largeB ls = true := by
      have h9 : decide (40 < ls.length) = true := by simp at h6 ⊢; omega
      unfold largeB; rw [h9]; rfl
    refine WC.seq ?_
    refine WC.region ?_
    refine WL.step ?_
    refine WL.assign rfl rfl ?_
    refine WL.nil ?_
    refine WQ.then_normal ?_
    refine WC.ret ?_
    refine WQ.then_ret ?_
    exact WQ.ret (rs := [.tmp 2]) rfl (.tmp rfl .nil) (fun w hS => ⟨by rw [hres]; rfl, hS⟩)
  · skip
    have hs40 : decide (40 < ls.length) = false := by simp at h6 ⊢; omega
    have hl40 : ls.length ≤ 40 := by simpa using hs40
    refine WC.skip ?_
    refine WQ.then_normal ?_
    refine WC.seq ?_
    refine WC.seq ?_
    refine WC.region ?_
    refine WL.step ?_
    refine WL.assign rfl rfl ?_
    refine WL.nil ?_
    refine WQ.then_normal ?_
    refine WC.block ?_
    refine WC.loop (α := Nat) (fun i => i ≤ ls.length ∧ (ls.take i).any (fun c => decide (80 < c.length)) = false) (fun i => [(0, .slice a ls.length cap), (3, .int .i64 (i : Int))]) (fun _ => []) (fun i => ls.length - i) (0) ?_ ?_ ?_ ?_
    · exact ⟨Nat.zero_le _, rfl⟩
    · exact ⟨rfl, rfl, trivial⟩
    · rfl
    rintro i ⟨hi, hno⟩
    refine WC.seq ?_
    refine WC.seq ?_
    refine WC.region ?_
    refine WL.step ?_
    refine WL.move rfl rfl ?_
    refine WL.step ?_
    refine WL.move rfl rfl ?_
    refine WL.step ?_
    refine WL.lenSl F.und33 rfl rfl ?_
    refine WL.step ?_
    refine WL.ltI rfl rfl rfl ?_
    refine WL.nil ?_
    refine WQ.then_normal ?_
    refine WC.cond rfl (fun h10 => ?_) (fun h10 => ?_)
    · skip
      have hlt : i < ls.length := by simpa using h10
      obtain ⟨c, b, off, a1, cap1, hc, rfl, hcell, hrc⟩ := hr.at hlt
      refine WC.skip ?_
      refine WQ.then_normal ?_
      refine WC.seq ?_
      refine WC.block ?_
      refine WC.seq ?_
      refine WC.region ?_
      refine WL.step ?_
      refine WL.move rfl rfl ?_
      refine WL.step ?_
      refine WL.move rfl rfl ?_
      refine WL.step ?_
      refine WL.indexAddr F.sl33 rfl rfl rfl hlt ?_
      refine WL.step ?_
      refine WL.load1 F.one23 rfl rfl (v := .slice a1 c.length cap1) (fun w hS => hS.oldc (by simpa using hcell) (by simp)) ?_
      refine WL.step ?_
      refine WL.lenSl F.und23 rfl rfl ?_
      refine WL.step ?_
      refine WL.gtI rfl rfl rfl ?_
      refine WL.nil ?_
      refine WQ.then_normal ?_
      refine WC.cond rfl (fun h18 => ?_) (fun h18 => ?_)
      · skip
        have hres : largeB ls = true := by
          have h9 : ls.any (fun c => decide (80 < c.length)) = true := any_at hc (by simp at h18 ⊢; omega)
          unfold largeB; rw [h9, Bool.or_true]
        refine WC.seq ?_
        refine WC.region ?_
        refine WL.step ?_
        refine WL.assign rfl rfl ?_
        refine WL.nil ?_
        refine WQ.then_normal ?_
        refine WC.ret ?_
        refine WQ.block_ret ?_
        refine WQ.then_ret ?_
        refine WQ.then_ret ?_
        refine WQ.block_ret ?_
        refine WQ.then_ret ?_
        exact WQ.ret (rs := [.tmp 2]) rfl (.tmp rfl .nil) (fun w hS => ⟨by rw [hres]; rfl, hS⟩)
      · skip
        refine WC.skip ?_
        refine WQ.block_normal ?_
        refine WQ.then_normal ?_
        refine WC.region ?_
        refine WL.step ?_
        refine WL.move rfl rfl ?_
        refine WL.step ?_
        refine WL.add rfl rfl rfl ⟨by omega, by omega⟩ ?_
        refine WL.step ?_
        refine WL.assign rfl rfl ?_
        refine WL.nil ?_
        refine WQ.back (i + 1) ?_ ?_ ?_ ?_
        · exact ⟨by omega, any_take hc hno (by simp at h18 ⊢; omega)⟩
        · omega
        · exact ⟨rfl, rfl, trivial⟩
        · rfl
    · skip
      have hie : i = ls.length := by simp at h10; omega
      subst hie
      rw [List.take_length] at hno
      have hres : largeB ls = false := by unfold largeB; rw [hs40, hno]; rfl
      refine WC.exit ?_
      refine WQ.then_exit ?_
      refine WQ.then_exit ?_
      refine WQ.block_exit ?_
      refine WQ.then_normal ?_
      refine WC.seq ?_
      refine WC.region ?_
      refine WL.step ?_
      refine WL.assign rfl rfl ?_
      refine WL.nil ?_
      refine WQ.then_normal ?_
      refine WC.ret ?_
      exact WQ.ret (rs := [.tmp 2]) rfl (.tmp rfl .nil) (fun w hS => ⟨by rw [hres]; rfl, hS⟩)

structure RW where
  i : Nat
  G : List Nat
  vs : List Value
  ss : List (List Int)
  aa : Option Addr
  ca : Nat
def Shaped (a : Option Addr) : Prop := a = none ∨ ∃ b off, a = some ⟨b, off, none⟩
abbrev RowsX := { x : (List Nat × List Value) × Option Addr × Nat // Shaped x.2.1 }
def rowsC (x : RowsX) (ls : List (List Int)) : List Chunk := [rowc (.slice x.1.2.1 ls.length x.1.2.2) ls.length 23 1 x.1.1.2, stepsC x.1.1.1 x.1.1.2 ls]

theorem Rows_c (ls : List (List Int)) (a : Option Addr) (cap : Nat) (us : List Value) (hll : ls.length ≤ 1000) (hlens : ∀ c ∈ ls, c.length ≤ 1000) (w : World) (hr : RdLL w ls a us) :
    Calls Try.prog 22 [.slice a ls.length cap].toArray w fun e w' => ∃ x : RowsX, e = .returned (.slice x.1.2.1 ls.length x.1.2.2) ∧ St w [] (rowsC x ls) w' := by
  refine enter Try.func22 rfl Try.ntmps22 rfl (St.init _) ?_
  refine WC.seq ?_
  refine WC.region ?_
  refine WL.step ?_
  refine WL.assign rfl rfl ?_
  refine WL.nil ?_
  refine WQ.then_normal ?_
  refine WC.seq ?_
  refine WC.region ?_
  refine WL.step ?_
  refine WL.assign rfl rfl ?_
  refine WL.nil ?_
  refine WQ.then_normal ?_
  refine WC.seq ?_
  refine WC.seq ?_
  refine WC.region ?_
  refine WL.step ?_
  refine WL.assign rfl rfl ?_
  refine WL.nil ?_
  refine WQ.then_normal ?_
  refine WC.block ?_
  refine WC.chunks (fun w hS => hS.stepsNil) ?_
  refine WC.chunks (fun w hS => (hS.rowNil 23 1)) ?_
  refine WC.loop (α := RW) (fun g => g.i ≤ ls.length ∧ g.ss = ls.take g.i ∧ Shaped g.aa) (fun g => [(0, .slice a ls.length cap), (3, .slice g.aa g.i g.ca), (4, .int .i64 (g.i : Int))]) (fun g => [rowc (.slice g.aa g.i g.ca) g.i 23 1 g.vs, stepsC g.G g.vs g.ss]) (fun g => ls.length - g.i) (⟨0, [], [], [], none, 0⟩) ?_ ?_ ?_ ?_
  · exact ⟨Nat.zero_le _, rfl, .inl rfl⟩
  · exact ⟨rfl, rfl, rfl, trivial⟩
  · rfl
  rintro ⟨i, G, vs, ss, aa, ca⟩ ⟨hi, hss, hsh⟩
  dsimp only at hi hss hsh
  show WC _ _ _ _ _ _ _ [(0, .slice a ls.length cap), (3, .slice aa i ca), (4, .int .i64 (i : Int))] [rowc (.slice aa i ca) i 23 1 vs, stepsC G vs ss]
  refine WC.seq ?_
  refine WC.seq ?_
  refine WC.region ?_
  refine WL.step ?_
  refine WL.move rfl rfl ?_
  refine WL.step ?_
  refine WL.move rfl rfl ?_
  refine WL.step ?_
  refine WL.lenSl F.und33 rfl rfl ?_
  refine WL.step ?_
  refine WL.ltI rfl rfl rfl ?_
  refine WL.nil ?_
  refine WQ.then_normal ?_
  refine WC.cond rfl (fun h8 => ?_) (fun h8 => ?_)
  · skip
    have hlt : i < ls.length := by simpa using h8
    obtain ⟨c, b, off, a1, cap1, hc, rfl, hcell, hrc⟩ := hr.at hlt
    have hcl := hlens c (List.mem_of_getElem? hc)
    refine WC.skip ?_
    refine WQ.then_normal ?_
    refine WC.seq ?_
    refine WC.block ?_
    refine WC.region ?_
    refine WL.step ?_
    refine WL.move rfl rfl ?_
    refine WL.step ?_
    refine WL.move rfl rfl ?_
    refine WL.step ?_
    refine WL.move rfl rfl ?_
    refine WL.step ?_
    refine WL.indexAddr F.sl33 rfl rfl rfl hlt ?_
    refine WL.step ?_
    refine WL.load1 F.one23 rfl rfl (v := .slice a1 c.length cap1) (fun w hS => hS.oldc (by simpa using hcell) (by simp)) ?_
    refine WA.chunks (fun w hS => (hS.rowNil 3 1)) ?_
    refine WL.step ?_
    refine WL.appendC (n := 0) (v := .slice none 0 0) (xs := []) (news := c.map (Value.int .i64)) F.el23 rfl rfl rfl (by repeat (first | exact Rem.here | apply Rem.there)) (fun w hS hm => (hrc.next hS).news hm) (by simp) (ints_one _) (Nat.le_trans (m := 1099511627776) (by omega) (by decide)) (by omega) (fun ad ac => ?_)
    rw [Nat.zero_add, List.nil_append]
    refine WL.step ?_
    refine WL.buildSlice F.sl33 F.ez33 rfl rfl rfl rfl (by repeat (first | exact Built.nil | apply Built.one rfl rfl (by repeat constructor) | apply Built.agg rfl rfl (by repeat constructor))) rfl (fun b17 => ?_)
    refine WL.step ?_
    refine WL.appendE (news := [.slice ad c.length ac]) F.el33 rfl rfl rfl (by repeat (first | exact Rem.here | apply Rem.there)) (fun w hS j u hu => by rw [Nat.zero_add]; exact hS.cell (cs := [.slice ad c.length ac]) (by repeat (first | exact List.Mem.head _ | apply List.Mem.tail)) hu) rfl (by simp [Value.oneCell']) (Nat.le_trans (m := 1099511627776) (by omega) (by decide)) (by omega) (fun a4 c4 => ?_)
    refine WA.know (φ := ∃ g, a4 = some ⟨g, 0, none⟩ ∧ i + 1 = i + 1 ∧ i + 1 ≤ c4) (fun w hS => rowc_addr (hS.ok (rowc (.slice a4 (i + 1) c4) (i + 1) 23 1 (vs ++ [.slice ad c.length ac])) (by repeat (first | exact List.Mem.head _ | apply List.Mem.tail))) (by omega)) (fun ⟨g, hta, _, _⟩ => ?_)
    refine WL.step ?_
    refine WL.assign rfl rfl ?_
    refine WL.nil ?_
    refine WQ.block_normal ?_
    refine WQ.then_normal ?_
    refine WC.region ?_
    refine WL.step ?_
    refine WL.move rfl rfl ?_
    refine WL.step ?_
    refine WL.add rfl rfl rfl ⟨by omega, by omega⟩ ?_
    refine WL.step ?_
    refine WL.assign rfl rfl ?_
    refine WL.nil ?_
    refine WQ.chunksE (C' := fun G2 : List Nat => [rowc (.slice a4 (i + 1) c4) (i + 1) 23 1 (vs ++ [.slice ad c.length ac]), stepsC G2 (vs ++ [.slice ad c.length ac]) (ss ++ [c])]) (fun w hS => ?_) (fun G2 => ?_)
    · obtain ⟨G2, h9⟩ := St.stepsSnocR rfl ((St.pick (St.pick hS (c := rowc (.slice ad c.length ac) c.length 3 1 (c.map (Value.int .i64))) (by repeat (first | exact Rem.here | apply Rem.there))) (c := stepsC G vs ss) (by repeat (first | exact Rem.here | apply Rem.there))))
      exact ⟨G2, ((St.pick (St.pick h9 (c := stepsC G2 (vs ++ [.slice ad c.length ac]) (ss ++ [c])) (by repeat (first | exact Rem.here | apply Rem.there))) (c := rowc (.slice a4 (i + 1) c4) (i + 1) 23 1 (vs ++ [.slice ad c.length ac])) (by repeat (first | exact Rem.here | apply Rem.there)))).sublist (List.Sublist.cons_cons _ (List.Sublist.cons_cons _ (List.nil_sublist _)))⟩
    refine WQ.back (⟨i + 1, G2, vs ++ [.slice ad c.length ac], ss ++ [c], a4, c4⟩) ?_ ?_ ?_ ?_
    · exact ⟨by show i + 1 ≤ _; omega, by show ss ++ [c] = _; rw [hss, List.take_add_one, hc]; rfl, .inr ⟨g, 0, hta⟩⟩
    · (show ls.length - (i + 1) < ls.length - i; omega)
    · exact ⟨rfl, rfl, rfl, trivial⟩
    · rfl
  · skip
    have hie : i = ls.length := by simp at h8; omega
    subst hie
    rw [List.take_length] at hss
    subst hss
    refine WC.exit ?_
    refine WQ.then_exit ?_
    refine WQ.then_exit ?_
    refine WQ.block_exit ?_
    refine WQ.then_normal ?_
    refine WC.seq ?_
    refine WC.region ?_
    refine WL.step ?_
    refine WL.move rfl rfl ?_
    refine WL.step ?_
    refine WL.assign rfl rfl ?_
    refine WL.nil ?_
    refine WQ.then_normal ?_
    refine WC.ret ?_
    exact WQ.ret (rs := [.tmp 2]) rfl (.tmp rfl .nil) (fun w hS => ⟨⟨((G, vs), aa, ca), hsh⟩, rfl, hS⟩)

theorem Alike_c (l : List Int) (a a2 : Option Addr) (cap cap2 : Nat) (hll : l.length ≤ 1099511627776) (w : World) (hr : RdC w l a) (hr2 : RdC w l a2) : Pure Try.prog 24 [.slice a l.length cap, .slice a2 l.length cap2] w (.bool true) := by
  refine enter Try.func24 rfl Try.ntmps24 rfl (St.init _) ?_
  refine WC.seq ?_
  refine WC.region ?_
  refine WL.step ?_
  refine WL.assign rfl rfl ?_
  refine WL.nil ?_
  refine WQ.then_normal ?_
  refine WC.seq ?_
  refine WC.seq ?_
  refine WC.region ?_
  refine WL.step ?_
  refine WL.move rfl rfl ?_
  refine WL.step ?_
  refine WL.lenSl F.und23 rfl rfl ?_
  refine WL.step ?_
  refine WL.move rfl rfl ?_
  refine WL.step ?_
  refine WL.lenSl F.und23 rfl rfl ?_
  refine WL.step ?_
  refine WL.neI rfl rfl rfl ?_
  refine WL.nil ?_
  refine WQ.then_normal ?_
  refine WC.cond rfl (fun h10 => ?_) (fun h10 => ?_)
  · skip
    simp at h10
  · skip
    refine WC.skip ?_
    refine WQ.then_normal ?_
    refine WC.seq ?_
    refine WC.seq ?_
    refine WC.region ?_
    refine WL.step ?_
    refine WL.assign rfl rfl ?_
    refine WL.nil ?_
    refine WQ.then_normal ?_
    refine WC.block ?_
    refine WC.loop (α := Nat) (fun i => i ≤ l.length) (fun i => [(0, .slice a l.length cap), (1, .slice a2 l.length cap2), (5, .int .i64 (i : Int))]) (fun _ => []) (fun i => l.length - i) (0) ?_ ?_ ?_ ?_
    · exact Nat.zero_le _
    · exact ⟨rfl, rfl, rfl, trivial⟩
    · rfl
    rintro i hi
    refine WC.seq ?_
    refine WC.seq ?_
    refine WC.region ?_
    refine WL.step ?_
    refine WL.move rfl rfl ?_
    refine WL.step ?_
    refine WL.move rfl rfl ?_
    refine WL.step ?_
    refine WL.lenSl F.und23 rfl rfl ?_
    refine WL.step ?_
    refine WL.ltI rfl rfl rfl ?_
    refine WL.nil ?_
    refine WQ.then_normal ?_
    refine WC.cond rfl (fun h14 => ?_) (fun h14 => ?_)
    · skip
      have hlt : i < l.length := by simpa using h14
      obtain ⟨x, hx⟩ : ∃ y, l[i]? = some y := ⟨_, List.getElem?_eq_getElem hlt⟩
      obtain ⟨b, off, rfl, hcell⟩ := hr i x hx
      obtain ⟨b2, off2, rfl, hcell2⟩ := hr2 i x hx
      refine WC.skip ?_
      refine WQ.then_normal ?_
      refine WC.seq ?_
      refine WC.block ?_
      refine WC.seq ?_
      refine WC.drawsL (by kernel_rfl) (FactsOk.cons (ds := []) (LoadOk.by (Y := fun w => w.cell? ⟨b, off + i * 1, none⟩ = some (.int .i64 x)) (fun w hS => by rw [Nat.mul_one]; exact hS.oldc hcell (by simp))) (FactsOk.cons (ds := []) (LoadOk.by (Y := fun w => w.cell? ⟨b2, off2 + i * 1, none⟩ = some (.int .i64 x)) (fun w hS => by rw [Nat.mul_one]; exact hS.oldc hcell2 (by simp))) (FactsOk.nil))) ?_
      refine WD.take (i := 0) rfl rfl rfl rfl (by kernel_rfl) (by kernel_rfl) (by kernel_rfl) (fun _ _ _ h => h) (by kernel_rfl) need_none (Yl.move rfl) ?_
      refine WD.take (i := 1) rfl rfl rfl rfl (by kernel_rfl) (by kernel_rfl) (by kernel_rfl) (fun _ _ _ h => h) (by kernel_rfl) need_none (Yl.move rfl) ?_
      refine WD.take (i := 2) rfl rfl rfl rfl (by kernel_rfl) (by kernel_rfl) (by kernel_rfl) (fun _ _ _ h => h) (by kernel_rfl) need_none (Yl.indexAddr F.sl23 rfl rfl hlt) ?_
      refine WD.take (i := 3) rfl rfl rfl rfl (by kernel_rfl) (by kernel_rfl) (by kernel_rfl) (fun _ _ _ h => h) (by kernel_rfl) (need_at 0 9 rfl (by kernel_rfl)) (Yl.load1 F.one3 rfl) ?_
      refine WD.take (i := 4) rfl rfl rfl rfl (by kernel_rfl) (by kernel_rfl) (by kernel_rfl) (fun _ _ _ h => h) (by kernel_rfl) need_none (Yl.move rfl) ?_
      refine WD.take (i := 5) rfl rfl rfl rfl (by kernel_rfl) (by kernel_rfl) (by kernel_rfl) (fun _ _ _ h => h) (by kernel_rfl) need_none (Yl.move rfl) ?_
      refine WD.take (i := 6) rfl rfl rfl rfl (by kernel_rfl) (by kernel_rfl) (by kernel_rfl) (fun _ _ _ h => h) (by kernel_rfl) need_none (Yl.indexAddr F.sl23 rfl rfl hlt) ?_
      refine WD.take (i := 7) rfl rfl rfl rfl (by kernel_rfl) (by kernel_rfl) (by kernel_rfl) (fun _ _ _ h => h) (by kernel_rfl) (need_at 1 9 rfl (by kernel_rfl)) (Yl.load1 F.one3 rfl) ?_
      refine WD.take (i := 8) rfl rfl rfl rfl (by kernel_rfl) (by kernel_rfl) (by kernel_rfl) (fun _ _ _ h => h) (by kernel_rfl) need_none (Yl.neI rfl rfl) ?_
      refine WD.done (by kernel_rfl) ?_
      refine WQ.then_normal ?_
      refine WC.cond rfl (fun h25 => ?_) (fun h25 => ?_)
      · skip
        simp at h25
      · skip
        refine WC.skip ?_
        refine WQ.block_normal ?_
        refine WQ.then_normal ?_
        refine WC.region ?_
        refine WL.step ?_
        refine WL.move rfl rfl ?_
        refine WL.step ?_
        refine WL.add rfl rfl rfl ⟨by omega, by omega⟩ ?_
        refine WL.step ?_
        refine WL.assign rfl rfl ?_
        refine WL.nil ?_
        refine WQ.back (i + 1) ?_ ?_ ?_ ?_
        · exact (by omega)
        · omega
        · exact ⟨rfl, rfl, rfl, trivial⟩
        · rfl
    · skip
      refine WC.exit ?_
      refine WQ.then_exit ?_
      refine WQ.then_exit ?_
      refine WQ.block_exit ?_
      refine WQ.then_normal ?_
      refine WC.seq ?_
      refine WC.region ?_
      refine WL.step ?_
      refine WL.assign rfl rfl ?_
      refine WL.nil ?_
      refine WQ.then_normal ?_
      refine WC.ret ?_
      exact WQ.ret (rs := [.tmp 4]) rfl (.tmp rfl .nil) (fun w hS => ⟨rfl, hS⟩)

theorem lsame_c (ls : List (List Int)) (a a2 : Option Addr) (cap cap2 : Nat) (us us2 : List Value) (hll : ls.length ≤ 1000) (hlens : ∀ c ∈ ls, c.length ≤ 1000) (w : World) (hr : RdLL w ls a us) (hr2 : RdLL w ls a2 us2) : Pure Try.prog 26 [.slice a ls.length cap, .slice a2 ls.length cap2] w (.bool true) := by
  refine enter Try.func26 rfl Try.ntmps26 rfl (St.init _) ?_
  refine WC.seq ?_
  refine WC.region ?_
  refine WL.step ?_
  refine WL.assign rfl rfl ?_
  refine WL.nil ?_
  refine WQ.then_normal ?_
  refine WC.seq ?_
  refine WC.seq ?_
  refine WC.region ?_
  refine WL.step ?_
  refine WL.move rfl rfl ?_
  refine WL.step ?_
  refine WL.lenSl F.und33 rfl rfl ?_
  refine WL.step ?_
  refine WL.move rfl rfl ?_
  refine WL.step ?_
  refine WL.lenSl F.und33 rfl rfl ?_
  refine WL.step ?_
  refine WL.neI rfl rfl rfl ?_
  refine WL.nil ?_
  refine WQ.then_normal ?_
  refine WC.cond rfl (fun h10 => ?_) (fun h10 => ?_)
  · skip
    simp at h10
  · skip
    refine WC.skip ?_
    refine WQ.then_normal ?_
    refine WC.seq ?_
    refine WC.seq ?_
    refine WC.region ?_
    refine WL.step ?_
    refine WL.assign rfl rfl ?_
    refine WL.nil ?_
    refine WQ.then_normal ?_
    refine WC.block ?_
    refine WC.loop (α := Nat) (fun i => i ≤ ls.length) (fun i => [(0, .slice a ls.length cap), (1, .slice a2 ls.length cap2), (5, .int .i64 (i : Int))]) (fun _ => []) (fun i => ls.length - i) (0) ?_ ?_ ?_ ?_
    · exact Nat.zero_le _
    · exact ⟨rfl, rfl, rfl, trivial⟩
    · rfl
    rintro i hi
    refine WC.seq ?_
    refine WC.seq ?_
    refine WC.region ?_
    refine WL.step ?_
    refine WL.move rfl rfl ?_
    refine WL.step ?_
    refine WL.move rfl rfl ?_
    refine WL.step ?_
    refine WL.lenSl F.und33 rfl rfl ?_
    refine WL.step ?_
    refine WL.ltI rfl rfl rfl ?_
    refine WL.nil ?_
    refine WQ.then_normal ?_
    refine WC.cond rfl (fun h14 => ?_) (fun h14 => ?_)
    · skip
      have hlt : i < ls.length := by simpa using h14
      obtain ⟨c, b, off, a1, cap1, hc, rfl, hcell, hrc⟩ := hr.at hlt
      obtain ⟨c2, b2, off2, a3, cap3, hc2, rfl, hcell2, hrc2⟩ := hr2.at hlt
      obtain rfl : c = c2 := by rw [hc] at hc2; injection hc2
      refine WC.skip ?_
      refine WQ.then_normal ?_
      refine WC.seq ?_
      refine WC.block ?_
      refine WC.seq ?_
      refine WC.drawsL (by kernel_rfl) (FactsOk.cons (ds := [8]) (LoadOk.by (Y := fun w => w.cell? ⟨b, off + i * 1, none⟩ = some (.slice a1 c.length cap1)) (fun w hS => by rw [Nat.mul_one]; exact hS.oldc hcell (by simp))) (FactsOk.cons (ds := [8]) (LoadOk.by (Y := fun w => w.cell? ⟨b2, off2 + i * 1, none⟩ = some (.slice a3 c.length cap3)) (fun w hS => by rw [Nat.mul_one]; exact hS.oldc hcell2 (by simp))) (FactsOk.nil))) ?_
      refine WD.take (i := 0) rfl rfl rfl rfl (by kernel_rfl) (by kernel_rfl) (by kernel_rfl) (fun _ _ _ h => h) (by kernel_rfl) need_none (Yl.move rfl) ?_
      refine WD.take (i := 1) rfl rfl rfl rfl (by kernel_rfl) (by kernel_rfl) (by kernel_rfl) (fun _ _ _ h => h) (by kernel_rfl) need_none (Yl.move rfl) ?_
      refine WD.take (i := 2) rfl rfl rfl rfl (by kernel_rfl) (by kernel_rfl) (by kernel_rfl) (fun _ _ _ h => h) (by kernel_rfl) need_none (Yl.indexAddr F.sl33 rfl rfl hlt) ?_
      refine WD.take (i := 3) rfl rfl rfl rfl (by kernel_rfl) (by kernel_rfl) (by kernel_rfl) (fun _ _ _ h => h) (by kernel_rfl) (need_at 0 10 rfl (by kernel_rfl)) (Yl.load1 F.one23 rfl) ?_
      refine WD.take (i := 4) rfl rfl rfl rfl (by kernel_rfl) (by kernel_rfl) (by kernel_rfl) (fun _ _ _ h => h) (by kernel_rfl) need_none (Yl.move rfl) ?_
      refine WD.take (i := 5) rfl rfl rfl rfl (by kernel_rfl) (by kernel_rfl) (by kernel_rfl) (fun _ _ _ h => h) (by kernel_rfl) need_none (Yl.move rfl) ?_
      refine WD.take (i := 6) rfl rfl rfl rfl (by kernel_rfl) (by kernel_rfl) (by kernel_rfl) (fun _ _ _ h => h) (by kernel_rfl) need_none (Yl.indexAddr F.sl33 rfl rfl hlt) ?_
      refine WD.take (i := 7) rfl rfl rfl rfl (by kernel_rfl) (by kernel_rfl) (by kernel_rfl) (fun _ _ _ h => h) (by kernel_rfl) (need_at 1 10 rfl (by kernel_rfl)) (Yl.load1 F.one23 rfl) ?_
      refine WD.one (i := 8) (by kernel_rfl) rfl ?_
      refine WL.callV F.fun24 rfl rfl (fun w hS => Alike_c c a1 a3 cap1 cap3 (by have := hlens c (List.mem_of_getElem? hc); omega) w (hrc.next hS) (hrc2.next hS)) ?_
      refine WD.on (closed_of (by kernel_rfl)) (fun w hS => Sx.gone rfl (Sx.gone rfl (Sx.none))) ?_
      refine WD.take (i := 9) rfl rfl rfl rfl (by kernel_rfl) (by kernel_rfl) (by kernel_rfl) (fun _ _ _ h => h) (by kernel_rfl) need_none (Yl.not rfl) ?_
      refine WD.done (by kernel_rfl) ?_
      refine WQ.then_normal ?_
      refine WC.cond rfl (fun h26 => ?_) (fun h26 => ?_)
      · skip
        simp at h26
      · skip
        refine WC.skip ?_
        refine WQ.block_normal ?_
        refine WQ.then_normal ?_
        refine WC.region ?_
        refine WL.step ?_
        refine WL.move rfl rfl ?_
        refine WL.step ?_
        refine WL.add rfl rfl rfl ⟨by omega, by omega⟩ ?_
        refine WL.step ?_
        refine WL.assign rfl rfl ?_
        refine WL.nil ?_
        refine WQ.back (i + 1) ?_ ?_ ?_ ?_
        · exact (by omega)
        · omega
        · exact ⟨rfl, rfl, rfl, trivial⟩
        · rfl
    · skip
      refine WC.exit ?_
      refine WQ.then_exit ?_
      refine WQ.then_exit ?_
      refine WQ.block_exit ?_
      refine WQ.then_normal ?_
      refine WC.seq ?_
      refine WC.region ?_
      refine WL.step ?_
      refine WL.assign rfl rfl ?_
      refine WL.nil ?_
      refine WQ.then_normal ?_
      refine WC.ret ?_
      exact WQ.ret (rs := [.tmp 4]) rfl (.tmp rfl .nil) (fun w hS => ⟨rfl, hS⟩)

end Go.Proofs.Ytkgllhkhdjodeaa

namespace Go.Proofs.Ytkgllhkhdjodeaa
open Go Go.Eng Go.Proofs
def propL (q : Int → Bool) : Nat → List Int
  | 0 => []
  | n + 1 => propL q n ++ (if q ((n : Int) + 1) then [(n : Int) + 1] else if q (-((n : Int) + 1)) then [-((n : Int) + 1)] else [])
def propE (n : Int) (ls : List (List Int)) (fixed : List Int) : List Int × Int :=
  if Fm.mayE n ls = 0 then (if fixed.all (Fm.litB n) then (match Fm.consF 66 ls fixed with
    | some o => if Fm.conflictB ls o then ([], 9) else (propL (fun z => o.contains z) n.toNat, 0)
    | none => ([], 0)) else ([], 2)) else ([], Fm.mayE n ls)
def PropPost (n : Int) (ls : List (List Int)) (fixed : List Int) (w : World) (e : Ending) (w' : World) : Prop :=
  ∃ x : Option Addr × Nat, e = .returned (.tuple #[.slice x.1 (propE n ls fixed).1.length x.2, .int .i64 (propE n ls fixed).2]) ∧
    St w [] [rowc (.slice x.1 (propE n ls fixed).1.length x.2) (propE n ls fixed).1.length 3 1 ((propE n ls fixed).1.map (Value.int .i64))] w'
theorem RdC.one {w : World} {b off : Nat} {x : Int} (h : w.cell? ⟨b, off, none⟩ = some (.int .i64 x)) : RdC w [x] (some ⟨b, off, none⟩) := fun j y hy => by
  match j, hy with
  | 0, hy => simp at hy; subst hy; exact ⟨b, off, rfl, h⟩
  | j + 1, hy => simp at hy

structure P2 where
  j : Nat
  out : List Int
  ad : Option Addr
  ac : Nat

end Go.Proofs.Ytkgllhkhdjodeaa

namespace Go.Proofs.Ytkgllhkhdjodeaa
open Go Go.Eng Go.Proofs
end Go.Proofs.Ytkgllhkhdjodeaa

namespace Go.Proofs.Ytkgllhkhdjodeaa
open Go Go.Eng Go.Proofs
theorem und4b : Try.prog.underlying 4 = some .bool := by kernel_rfl
theorem run_eqB {a b : Bool} (x y : Operand) (w : World) : (do eqGuard .eql 4 x y (.bool a) (.bool b); binOp .eql 4 (.bool a) (.bool b) : Sem Value).run Try.prog w = .ok (.bool (a == b)) w := by
  have h := run_eql_bool (P := Try.prog) (w := w) 4 a b und4b
  simp [eqGuard, h]
theorem wrap_u64 {n : Nat} (h : n < 18446744073709551616) : IntKind.u64.wrap (n : Int) = (n : Int) := by
  simp only [IntKind.wrap, IntKind.bits, IntKind.signed, Bool.false_and, Bool.false_eq_true, if_false]
  omega
theorem conv39 {n : Nat} (hn : n < 9223372036854775808) (w : World) : (convert 3 60 (.int .i64 (n : Int))).run Try.prog w = .ok (.int .u64 (n : Int)) w := by
  have h := run_convert_int (P := Try.prog) w 3 60 .i64 (n : Int) (by kernel_rfl) (by kernel_rfl)
  rw [show Try.prog.intKind 60 = .u64 by kernel_rfl, wrap_u64 (by omega)] at h
  exact h
theorem sat_bits {M : Nat} {x : Int} (hx : x ≠ 0) : satL M x = ((((M >>> (x.natAbs - 1) % 2 : Nat) : Int) == 1) == decide (0 < x)) := by
  have h1 : ((((M >>> (x.natAbs - 1) % 2 : Nat) : Int) == 1)) = M.testBit (x.natAbs - 1) := by
    rw [Nat.testBit_eq_decide_div_mod_eq, Nat.shiftRight_eq_div_pow, Bool.eq_iff_iff]
    generalize M / 2 ^ (x.natAbs - 1) = q
    rw [beq_iff_eq, decide_eq_true_eq]
    omega
  rw [h1]
  unfold satL
  by_cases hp : 0 < x
  · rw [if_pos hp, decide_eq_true hp, show (x - 1).toNat = x.natAbs - 1 by omega]; simp
  · rw [if_neg hp, decide_eq_false hp, show (-x - 1).toNat = x.natAbs - 1 by omega]; simp

theorem abs_c (x : Int) (hx : -1000 ≤ x ∧ x ≤ 1000) (w : World) : Pure Try.prog 53 [.int .i64 x] w (.int .i64 (x.natAbs : Int)) := by
  refine enter Try.func53 rfl Try.ntmps53 rfl (St.init _) ?_
  refine WC.seq ?_
  refine WC.region ?_
  refine WL.step ?_
  refine WL.assign rfl rfl ?_
  refine WL.nil ?_
  refine WQ.then_normal ?_
  refine WC.seq ?_
  refine WC.seq ?_
  refine WC.region ?_
  refine WL.step ?_
  refine WL.move rfl rfl ?_
  refine WL.step ?_
  refine WL.ltI rfl rfl rfl ?_
  refine WL.nil ?_
  refine WQ.then_normal ?_
  refine WC.cond rfl (fun h4 => ?_) (fun h4 => ?_)
  · skip
    have hp : x < 0 := by simpa using h4
    have he : -x = (x.natAbs : Int) := by omega
    refine WC.seq ?_
    refine WC.region ?_
    refine WL.step ?_
    refine WL.move rfl rfl ?_
    refine WL.step ?_
    refine WL.negI rfl rfl (by omega) ?_
    refine WL.step ?_
    refine WL.assign rfl rfl ?_
    refine WL.nil ?_
    refine WQ.then_normal ?_
    refine WC.ret ?_
    refine WQ.then_ret ?_
    exact WQ.ret (rs := [.tmp 2]) rfl (.tmp rfl .nil) (fun w hS => ⟨congrArg (fun z => Ending.returned (Value.int .i64 z)) he, hS⟩)
  · skip
    have hp : ¬ x < 0 := by simpa using h4
    have he : x = (x.natAbs : Int) := by omega
    refine WC.skip ?_
    refine WQ.then_normal ?_
    refine WC.seq ?_
    refine WC.region ?_
    refine WL.step ?_
    refine WL.move rfl rfl ?_
    refine WL.step ?_
    refine WL.assign rfl rfl ?_
    refine WL.nil ?_
    refine WQ.then_normal ?_
    refine WC.ret ?_
    exact WQ.ret (rs := [.tmp 2]) rfl (.tmp rfl .nil) (fun w hS => ⟨congrArg (fun z => Ending.returned (Value.int .i64 z)) he, hS⟩)

theorem Holds_c (ls : List (List Int)) (M : Nat) (a : Option Addr) (cap : Nat) (us : List Value) (hll : ls.length ≤ 1000) (hlens : ∀ c ∈ ls, c.length ≤ 1000) (hbd : ∀ c ∈ ls, ∀ x ∈ c, Lit x) (w : World) (hr : RdLL w ls a us) : Pure Try.prog 29 [.slice a ls.length cap, .int .u32 (M : Int)] w (.bool (holdsB ls M)) := by
  refine enter Try.func29 rfl Try.ntmps29 rfl (St.init _) ?_
  refine WC.seq ?_
  refine WC.region ?_
  refine WL.step ?_
  refine WL.assign rfl rfl ?_
  refine WL.nil ?_
  refine WQ.then_normal ?_
  refine WC.seq ?_
  refine WC.seq ?_
  refine WC.region ?_
  refine WL.step ?_
  refine WL.assign rfl rfl ?_
  refine WL.nil ?_
  refine WQ.then_normal ?_
  refine WC.block ?_
  refine WC.loop (α := Nat) (fun i => i ≤ ls.length ∧ (ls.take i).all (satC M) = true) (fun i => [(0, .slice a ls.length cap), (1, .int .u32 (M : Int)), (5, .int .i64 (i : Int))]) (fun _ => []) (fun i => ls.length - i) (0) ?_ ?_ ?_ ?_
  · exact ⟨Nat.zero_le _, rfl⟩
  · exact ⟨rfl, rfl, rfl, trivial⟩
  · rfl
  rintro i ⟨hi, hno⟩
  refine WC.seq ?_
  refine WC.seq ?_
  refine WC.region ?_
  refine WL.step ?_
  refine WL.move rfl rfl ?_
  refine WL.step ?_
  refine WL.move rfl rfl ?_
  refine WL.step ?_
  refine WL.lenSl F.und33 rfl rfl ?_
  refine WL.step ?_
  refine WL.ltI rfl rfl rfl ?_
  refine WL.nil ?_
  refine WQ.then_normal ?_
  refine WC.cond rfl (fun h12 => ?_) (fun h12 => ?_)
  · skip
    have hlt : i < ls.length := by simpa using h12
    obtain ⟨c, b, off, a1, cap1, hc, rfl, hcell, hrc⟩ := hr.at hlt
    have hcl := hlens c (List.mem_of_getElem? hc)
    have hcb := hbd c (List.mem_of_getElem? hc)
    refine WC.skip ?_
    refine WQ.then_normal ?_
    refine WC.seq ?_
    refine WC.block ?_
    refine WC.seq ?_
    refine WC.region ?_
    refine WL.step ?_
    refine WL.assign rfl rfl ?_
    refine WL.nil ?_
    refine WQ.then_normal ?_
    refine WC.seq ?_
    refine WC.seq ?_
    refine WC.region ?_
    refine WL.step ?_
    refine WL.assign rfl rfl ?_
    refine WL.nil ?_
    refine WQ.then_normal ?_
    refine WC.block ?_
    refine WC.loop (α := Bool × Nat) (fun g => g.2 ≤ c.length ∧ g.1 = (c.take g.2).any (satL M)) (fun g => [(0, .slice (some ⟨b, off, none⟩) ls.length cap), (1, .int .u32 (M : Int)), (5, .int .i64 (i : Int)), (6, .bool g.1), (7, .int .i64 (g.2 : Int))]) (fun _ => []) (fun g => c.length - g.2) ((false, 0)) ?_ ?_ ?_ ?_
    · exact ⟨Nat.zero_le _, rfl⟩
    · exact ⟨rfl, rfl, rfl, rfl, rfl, trivial⟩
    · rfl
    rintro ⟨fd, j⟩ ⟨hj, hf⟩
    dsimp only at hj hf
    show WC _ _ _ _ _ _ _ [(0, .slice (some ⟨b, off, none⟩) ls.length cap), (1, .int .u32 (M : Int)), (5, .int .i64 (i : Int)), (6, .bool fd), (7, .int .i64 (j : Int))] []
    refine WC.seq ?_
    refine WC.seq ?_
    refine WC.region ?_
    refine WL.step ?_
    refine WL.move rfl rfl ?_
    refine WL.step ?_
    refine WL.move rfl rfl ?_
    refine WL.step ?_
    refine WL.move rfl rfl ?_
    refine WL.step ?_
    refine WL.indexAddr F.sl33 rfl rfl rfl hlt ?_
    refine WL.step ?_
    refine WL.load1 F.one23 rfl rfl (v := .slice a1 c.length cap1) (fun w hS => hS.oldc (by simpa using hcell) (by simp)) ?_
    refine WL.step ?_
    refine WL.lenSl F.und23 rfl rfl ?_
    refine WL.step ?_
    refine WL.ltI rfl rfl rfl ?_
    refine WL.nil ?_
    refine WQ.then_normal ?_
    refine WC.cond rfl (fun h21 => ?_) (fun h21 => ?_)
    · skip
      have hjlt : j < c.length := by simpa using h21
      obtain ⟨x, hx⟩ : ∃ y, c[j]? = some y := ⟨_, List.getElem?_eq_getElem hjlt⟩
      have hxl := hcb x (List.mem_of_getElem? hx)
      obtain ⟨b2, off2, ha1, hcell2⟩ := hrc j x hx
      subst ha1
      refine WC.skip ?_
      refine WQ.then_normal ?_
      refine WC.seq ?_
      refine WC.block ?_
      refine WC.seq ?_
      refine WC.region ?_
      refine WL.step ?_
      refine WL.move rfl rfl ?_
      refine WL.step ?_
      refine WL.move rfl rfl ?_
      refine WL.step ?_
      refine WL.indexAddr F.sl33 rfl rfl rfl hlt ?_
      refine WL.step ?_
      refine WL.load1 F.one23 rfl rfl (v := .slice (some ⟨b2, off2, none⟩) c.length cap1) (fun w hS => hS.oldc (by simpa using hcell) (by simp)) ?_
      refine WL.step ?_
      refine WL.move rfl rfl ?_
      refine WL.step ?_
      refine WL.indexAddr F.sl23 rfl rfl rfl hjlt ?_
      refine WL.step ?_
      refine WL.load1 F.one3 rfl rfl (v := .int .i64 x) (fun w hS => hS.oldc (by simpa using hcell2) (by simp)) ?_
      refine WL.step ?_
      refine WL.assign rfl rfl ?_
      refine WL.nil ?_
      refine WQ.then_normal ?_
      refine WC.cutF [(6, .bool (fd || satL M x)), (0, .slice (some ⟨b, off, none⟩) ls.length cap), (1, .int .u32 (M : Int)), (5, .int .i64 (i : Int)), (7, .int .i64 (j : Int))] (fun Q' hQ => ?_) ?_
      · skip
        refine WC.region ?_
        refine WL.step ?_
        refine WL.move rfl rfl ?_
        refine WL.step ?_
        refine WL.move rfl rfl ?_
        refine WA.splitB (i := 32) rfl (fun g32 => ?_) (fun g32 => ?_)
        · skip
          refine WL.step (WL.guardF rfl rfl rfl rfl rfl rfl ?_)
          refine WL.step (WL.guardF rfl rfl rfl rfl rfl rfl ?_)
          refine WL.step (WL.guardF rfl rfl rfl rfl rfl rfl ?_)
          refine WL.step (WL.guardF rfl rfl rfl rfl rfl rfl ?_)
          refine WL.step (WL.guardF rfl rfl rfl rfl rfl rfl ?_)
          refine WL.step (WL.guardF rfl rfl rfl rfl rfl rfl ?_)
          refine WL.step (WL.guardF rfl rfl rfl rfl rfl rfl ?_)
          refine WL.step (WL.guardF rfl rfl rfl rfl rfl rfl ?_)
          refine WL.step (WL.guardF rfl rfl rfl rfl rfl rfl ?_)
          refine WL.step (WL.guardF rfl rfl rfl rfl rfl rfl ?_)
          refine WL.step (WL.guardF rfl rfl rfl rfl rfl rfl ?_)
          refine WL.step ?_
          refine WL.pickT rfl rfl rfl ?_
          refine WL.step ?_
          refine WL.assign rfl rfl ?_
          refine WL.nil ?_
          refine WQ.byCut hQ (subF_bool ?_ ⟨rfl, rfl, rfl, rfl, trivial⟩ rfl)
          first | (rw [g32, Bool.true_or]) | (rw [g32, Bool.false_or, sat_bits hxl.1])
        · skip
          refine WL.step (WL.guardT rfl rfl rfl ?_)
          refine WL.move rfl rfl ?_
          refine WL.step (WL.guardT rfl rfl rfl ?_)
          refine WL.move rfl rfl ?_
          refine WL.step (WL.guardT rfl rfl rfl ?_)
          refine WL.callV F.fun53 rfl rfl (fun w _ => abs_c x (by omega) w) ?_
          refine WL.step (WL.guardT rfl rfl rfl ?_)
          refine WL.sub rfl rfl rfl ⟨by omega, by omega⟩ ?_
          refine WA.say 36 (.int .i64 ((x.natAbs - 1 : Nat) : Int)) (congrArg (fun z => some (Value.int .i64 z)) (show (x.natAbs : Int) - 1 = ((x.natAbs - 1 : Nat) : Int) by omega)) ?_
          refine WL.step (WL.guardT rfl rfl rfl ?_)
          refine WL.convert rfl rfl (v := .int .u64 ((x.natAbs - 1 : Nat) : Int)) (fun w hS => conv39 (by omega) w) ?_
          refine WL.step (WL.guardT rfl rfl rfl ?_)
          refine WL.bin (v := .int .u32 ((M >>> (x.natAbs - 1) : Nat) : Int)) rfl rfl rfl (fun w => run_shrU (by omega) _ _ _ w) ?_
          refine WL.step (WL.guardT rfl rfl rfl ?_)
          refine WL.bin (v := .int .u32 ((M >>> (x.natAbs - 1) % 2 : Nat) : Int)) rfl rfl rfl (fun w => run_rem2 _ _ _ w) ?_
          refine WL.step (WL.guardT rfl rfl rfl ?_)
          refine WL.eqI rfl rfl rfl ?_
          refine WL.step (WL.guardT rfl rfl rfl ?_)
          refine WL.move rfl rfl ?_
          refine WL.step (WL.guardT rfl rfl rfl ?_)
          refine WL.gtI rfl rfl rfl ?_
          refine WL.step (WL.guardT rfl rfl rfl ?_)
          refine WL.bin (v := .bool ((((M >>> (x.natAbs - 1) % 2 : Nat) : Int) == 1) == decide (0 < x))) rfl rfl rfl (fun w => run_eqB _ _ w) ?_
          refine WL.step ?_
          refine WL.pickF rfl rfl rfl ?_
          refine WL.step ?_
          refine WL.assign rfl rfl ?_
          refine WL.nil ?_
          refine WQ.byCut hQ (subF_bool ?_ ⟨rfl, rfl, rfl, rfl, trivial⟩ rfl)
          first | (rw [g32, Bool.true_or]) | (rw [g32, Bool.false_or, sat_bits hxl.1])
      refine WQ.block_normal ?_
      refine WQ.then_normal ?_
      refine WC.region ?_
      refine WL.step ?_
      refine WL.move rfl rfl ?_
      refine WL.step ?_
      refine WL.add rfl rfl rfl ⟨by omega, by omega⟩ ?_
      refine WL.step ?_
      refine WL.assign rfl rfl ?_
      refine WL.nil ?_
      refine WQ.back ((fd || satL M x, j + 1)) ?_ ?_ ?_ ?_
      · exact ⟨by show j + 1 ≤ _; omega, by show _ = (c.take (j + 1)).any (satL M); rw [List.take_add_one, hx, List.any_append, ← hf]; simp⟩
      · (show c.length - (j + 1) < c.length - j; omega)
      · exact ⟨rfl, rfl, rfl, rfl, rfl, trivial⟩
      · rfl
    · skip
      have hje : j = c.length := by simp at h21; omega
      subst hje
      rw [List.take_length] at hf
      refine WC.exit ?_
      refine WQ.then_exit ?_
      refine WQ.then_exit ?_
      refine WQ.block_exit ?_
      refine WQ.then_normal ?_
      refine WC.seq ?_
      refine WC.region ?_
      refine WL.step ?_
      refine WL.move rfl rfl ?_
      refine WL.step ?_
      refine WL.not rfl rfl ?_
      refine WL.nil ?_
      refine WQ.then_normal ?_
      refine WC.cond rfl (fun h46 => ?_) (fun h46 => ?_)
      · skip
        have hres : holdsB ls M = false := by
          have h9 : satC M c = false := by show c.any (satL M) = false; rw [← hf]; simpa using h46
          exact all_at hc h9
        refine WC.seq ?_
        refine WC.region ?_
        refine WL.step ?_
        refine WL.assign rfl rfl ?_
        refine WL.nil ?_
        refine WQ.then_normal ?_
        refine WC.ret ?_
        refine WQ.block_ret ?_
        refine WQ.then_ret ?_
        refine WQ.then_ret ?_
        refine WQ.block_ret ?_
        refine WQ.then_ret ?_
        exact WQ.ret (rs := [.tmp 4]) rfl (.tmp rfl .nil) (fun w hS => ⟨by rw [hres]; rfl, hS⟩)
      · skip
        refine WC.skip ?_
        refine WQ.block_normal ?_
        refine WQ.then_normal ?_
        refine WC.region ?_
        refine WL.step ?_
        refine WL.move rfl rfl ?_
        refine WL.step ?_
        refine WL.add rfl rfl rfl ⟨by omega, by omega⟩ ?_
        refine WL.step ?_
        refine WL.assign rfl rfl ?_
        refine WL.nil ?_
        refine WQ.back (i + 1) ?_ ?_ ?_ ?_
        · exact ⟨by omega, all_takeB hc hno (by show c.any (satL M) = true; rw [← hf]; simpa using h46)⟩
        · omega
        · exact ⟨rfl, rfl, rfl, trivial⟩
        · rfl
  · skip
    have hie : i = ls.length := by simp at h12; omega
    subst hie
    rw [List.take_length] at hno
    refine WC.exit ?_
    refine WQ.then_exit ?_
    refine WQ.then_exit ?_
    refine WQ.block_exit ?_
    refine WQ.then_normal ?_
    refine WC.seq ?_
    refine WC.region ?_
    refine WL.step ?_
    refine WL.assign rfl rfl ?_
    refine WL.nil ?_
    refine WQ.then_normal ?_
    refine WC.ret ?_
    exact WQ.ret (rs := [.tmp 4]) rfl (.tmp rfl .nil) (fun w hS => ⟨by rw [show holdsB ls M = true from hno]; rfl, hS⟩)

end Go.Proofs.Ytkgllhkhdjodeaa

namespace Go.Proofs.Ytkgllhkhdjodeaa
open Go Go.Eng Go.Proofs
def modelsL (n : Nat) (ls : List (List Int)) : List Nat := (List.range (2 ^ n)).filter (holdsB ls)
def u32s (l : List Nat) : List Value := l.map (fun m : Nat => Value.int .u32 (m : Int))
structure MD where
  M : Nat
  out : List Nat
  ad : Option Addr
  ac : Nat

theorem Models_c (n : Nat) (hn : n ≤ 24) (ls : List (List Int)) (a : Option Addr) (cap : Nat) (us : List Value) (hll : ls.length ≤ 1000) (hlens : ∀ c ∈ ls, c.length ≤ 1000) (hbd : ∀ c ∈ ls, ∀ x ∈ c, Lit x) (w : World) (hr : RdLL w ls a us) :
    Calls Try.prog 27 [.int .i64 (n : Int), .slice a ls.length cap].toArray w fun e w' => ∃ x : Option Addr × Nat, e = .returned (.slice x.1 (modelsL n ls).length x.2) ∧ St w [] [rowc (.slice x.1 (modelsL n ls).length x.2) (modelsL n ls).length 22 1 (u32s (modelsL n ls))] w' := by
  have h2n : 2 ^ n ≤ 2 ^ 24 := Nat.pow_le_pow_right (by decide) hn
  refine enter Try.func27 rfl Try.ntmps27 rfl (St.init _) ?_
  refine WC.seq ?_
  refine WC.region ?_
  refine WL.step ?_
  refine WL.assign rfl rfl ?_
  refine WL.nil ?_
  refine WQ.then_normal ?_
  refine WC.seq ?_
  refine WC.region ?_
  refine WL.step ?_
  refine WL.assign rfl rfl ?_
  refine WL.nil ?_
  refine WQ.then_normal ?_
  refine WC.seq ?_
  refine WC.seq ?_
  refine WC.region ?_
  refine WL.step ?_
  refine WL.assign rfl rfl ?_
  refine WL.nil ?_
  refine WQ.then_normal ?_
  refine WC.block ?_
  refine WC.chunks (fun w hS => (hS.rowNil 22 1)) ?_
  refine WC.loop (α := MD) (fun g => g.M ≤ 2 ^ n ∧ g.out = (List.range g.M).filter (holdsB ls)) (fun g => [(0, .int .i64 (n : Int)), (1, .slice a ls.length cap), (5, .slice g.ad g.out.length g.ac), (6, .int .u32 (g.M : Int))]) (fun g => [rowc (.slice g.ad g.out.length g.ac) g.out.length 22 1 (u32s g.out)]) (fun g => 2 ^ n - g.M) (⟨0, [], none, 0⟩) ?_ ?_ ?_ ?_
  · exact ⟨Nat.zero_le _, rfl⟩
  · exact ⟨rfl, rfl, rfl, rfl, trivial⟩
  · rfl
  rintro ⟨M, out, ad, ac⟩ ⟨hM, hout⟩
  dsimp only at hM hout
  show WC _ _ _ _ _ _ _ [(0, .int .i64 (n : Int)), (1, .slice a ls.length cap), (5, .slice ad out.length ac), (6, .int .u32 (M : Int))] [rowc (.slice ad out.length ac) out.length 22 1 (u32s out)]
  have hol : out.length ≤ M := by rw [hout]; exact Nat.le_trans (List.length_filter_le _ _) (by simp)
  refine WC.seq ?_
  refine WC.seq ?_
  refine WC.region ?_
  refine WL.step ?_
  refine WL.move rfl rfl ?_
  refine WL.step ?_
  refine WL.move rfl rfl ?_
  refine WL.step ?_
  refine WL.convert rfl rfl (v := .int .u64 (n : Int)) (fun w hS => conv39 (by omega) w) ?_
  refine WL.step ?_
  refine WL.bin (v := .int .u32 ((2 ^ n : Nat) : Int)) rfl rfl rfl (fun w => run_shl1U (by omega) _ _ _ w) ?_
  refine WL.step ?_
  refine WL.ltI rfl rfl rfl ?_
  refine WL.nil ?_
  refine WQ.then_normal ?_
  refine WC.cond rfl (fun h11 => ?_) (fun h11 => ?_)
  · skip
    have hlt : M < 2 ^ n := by have h12 := of_decide_eq_true h11; omega
    refine WC.skip ?_
    refine WQ.then_normal ?_
    refine WC.seq ?_
    refine WC.block ?_
    refine WC.seq ?_
    refine WC.region ?_
    refine WL.step ?_
    refine WL.move rfl rfl ?_
    refine WL.step ?_
    refine WL.move rfl rfl ?_
    refine WL.step ?_
    refine WL.callV F.fun29 rfl rfl (fun w hS => Holds_c ls M a cap us hll hlens hbd w (hr.next hS)) ?_
    refine WL.nil ?_
    refine WQ.then_normal ?_
    refine WC.cond rfl (fun h16 => ?_) (fun h16 => ?_)
    · skip
      refine WC.region ?_
      refine WL.step ?_
      refine WL.move rfl rfl ?_
      refine WL.step ?_
      refine WL.move rfl rfl ?_
      refine WL.step ?_
      refine WL.buildSlice F.sl53 F.ez53 rfl rfl rfl rfl (by repeat (first | exact Built.nil | apply Built.one rfl rfl (by repeat constructor) | apply Built.agg rfl rfl (by repeat constructor))) rfl (fun b19 => ?_)
      refine WL.step ?_
      refine WL.appendE (news := [.int .u32 (M : Int)]) F.el53 rfl rfl rfl (by repeat (first | exact Rem.here | apply Rem.there)) (fun w hS jj u hu => by rw [Nat.zero_add]; exact hS.cell (cs := [.int .u32 (M : Int)]) (by repeat (first | exact List.Mem.head _ | apply List.Mem.tail)) hu) rfl (by simp [Value.oneCell']) (Nat.le_trans (m := 2199023255552) (by omega) (by decide)) (by omega) (fun ad3 ac3 => ?_)
      refine WL.step ?_
      refine WL.assign rfl rfl ?_
      refine WL.nil ?_
      refine WQ.block_normal ?_
      refine WQ.then_normal ?_
      refine WC.region ?_
      refine WL.step ?_
      refine WL.move rfl rfl ?_
      refine WL.step ?_
      refine WL.bin (v := .int .u32 ((M + 1 : Nat) : Int)) rfl rfl rfl (fun w => run_inc32 (by omega) _ _ _ w) ?_
      refine WL.step ?_
      refine WL.assign rfl rfl ?_
      refine WL.nil ?_
      refine WQ.say 5 (.slice ad3 (out ++ [M]).length ac3) (by rw [List.length_append]; rfl) ?_
      refine WQ.chunks (C' := [rowc (.slice ad3 (out ++ [M]).length ac3) (out ++ [M]).length 22 1 (u32s (out ++ [M]))]) (fun w hS => ?_) ?_
      · have hol2 : (out ++ [M]).length = out.length + 1 := by simp
        rw [hol2, u32s, List.map_append]
        exact ((St.pick hS (c := rowc (.slice ad3 (out.length + 1) ac3) (out.length + 1) 22 1 (u32s out ++ [.int .u32 (M : Int)])) (by repeat (first | exact Rem.here | apply Rem.there)))).sublist (List.Sublist.cons_cons _ (List.nil_sublist _))
      refine WQ.back (⟨M + 1, out ++ [M], ad3, ac3⟩) ?_ ?_ ?_ ?_
      · exact ⟨by show M + 1 ≤ _; omega, by show _ = (List.range (M + 1)).filter _; rw [List.range_succ, List.filter_append, ← hout]; simp [h16]⟩
      · (show 2 ^ n - (M + 1) < 2 ^ n - M; omega)
      · exact ⟨rfl, rfl, rfl, rfl, trivial⟩
      · rfl
    · skip
      refine WC.skip ?_
      refine WQ.block_normal ?_
      refine WQ.then_normal ?_
      refine WC.region ?_
      refine WL.step ?_
      refine WL.move rfl rfl ?_
      refine WL.step ?_
      refine WL.bin (v := .int .u32 ((M + 1 : Nat) : Int)) rfl rfl rfl (fun w => run_inc32 (by omega) _ _ _ w) ?_
      refine WL.step ?_
      refine WL.assign rfl rfl ?_
      refine WL.nil ?_
      refine WQ.back (⟨M + 1, out, ad, ac⟩) ?_ ?_ ?_ ?_
      · exact ⟨by show M + 1 ≤ _; omega, by show _ = (List.range (M + 1)).filter _; rw [List.range_succ, List.filter_append, ← hout]; simp [h16]⟩
      · (show 2 ^ n - (M + 1) < 2 ^ n - M; omega)
      · exact ⟨rfl, rfl, rfl, rfl, trivial⟩
      · rfl
  · skip
    have hMe : M = 2 ^ n := by have h12 := of_decide_eq_false h11; omega
    subst hMe
    refine WC.exit ?_
    refine WQ.then_exit ?_
    refine WQ.then_exit ?_
    refine WQ.block_exit ?_
    refine WQ.then_normal ?_
    refine WC.seq ?_
    refine WC.region ?_
    refine WL.step ?_
    refine WL.move rfl rfl ?_
    refine WL.step ?_
    refine WL.assign rfl rfl ?_
    refine WL.nil ?_
    refine WQ.then_normal ?_
    refine WC.ret ?_
    exact WQ.ret (rs := [.tmp 4]) rfl (.tmp rfl .nil) (fun w hS => ⟨(ad, ac), by rw [← show out = modelsL n ls from hout]; rfl, by rw [← show out = modelsL n ls from hout]; exact ((St.pick hS (c := rowc (.slice ad out.length ac) out.length 22 1 (u32s out)) (by repeat (first | exact Rem.here | apply Rem.there)))).sublist (List.Sublist.cons_cons _ (List.nil_sublist _))⟩)

end Go.Proofs.Ytkgllhkhdjodeaa

namespace Go.Proofs.Ytkgllhkhdjodeaa
open Go Go.Eng Go.Proofs
end Go.Proofs.Ytkgllhkhdjodeaa

namespace Go.Proofs.Ytkgllhkhdjodeaa
open Go Go.Eng Go.Proofs Dg
theorem run_neB {x y : Operand} (a b : Bool) (w : World) : (do eqGuard .neq 4 x y (.bool a) (.bool b); binOp .neq 4 (.bool a) (.bool b) : Sem Value).run Try.prog w = .ok (.bool (a != b)) w := by
  have h := run_neq_bool (P := Try.prog) (w := w) 4 a b und4b
  simp [eqGuard, h]
  cases a <;> cases b <;> rfl

end Go.Proofs.Ytkgllhkhdjodeaa

/-! Features of a number; the set of an odd number of them. -/
namespace Dg
def featL (f : Nat) : List Nat := (List.range 24).filter (fun i => f.testBit i)
def parB (vs : List Nat) (c : Cf) : Bool := vs.foldl (fun b i => b != c i) false
def parT : List Nat → Bool → BT
  | [], b => .lf b
  | v :: vs, b => .nd v (parT vs b) (parT vs (!b))
end Dg

namespace Go.Proofs.Ytkgllhkhdjodeaa
open Go Go.Eng Go.Proofs Dg
abbrev nums (l : List Nat) : List Value := l.map (fun (i : Nat) => Value.int .i64 (i : Int))
def featN (f i : Nat) : List Nat := (List.range i).filter (fun j => f.testBit j)
structure FeatG where
  i : Nat
  a : Option Addr
  c : Nat

end Go.Proofs.Ytkgllhkhdjodeaa

/-
  A range over a function: the statement, its rounds, the functions that yield. By an AI agent.
-/
namespace Go.Eng
open Go Go.RowKit Go.Proofs.Ytkgllhkhdjodeaa
/-! ### from the plain calculus to a round's -/
abbrev FR (l : Nat) : Fence := Fence.wide.inRound l
def isDefer : Op → Bool
  | .defer _ => true
  | _ => false
theorem not_defer {op : Op} (h : isDefer op = false) : ∀ c, op ≠ .defer c := fun c e => by rw [e] at h; cases h
section
variable {P : Program} {ops : Array Oper} {Q : Exit → Act → World → Prop} {n : Nat}
theorem rowsIn_wide {row : String} {args : Array Value} {w : World} {R : Value → World → Prop} (h : Rows P row args w R) : RowsIn Fence.wide n P row args w R := fun c cs _ => by
  obtain ⟨v, w', h1, h2⟩ := h c cs
  exact ⟨v, w', h1, stepsIn_wide.2 h2⟩
theorem upon_in {F : Fence} (hF : F = Fence.wide ∨ ∃ l, F = FR l) {o : Oper} {a : Act} {K : Act → World → Prop} {r : Result Next} (h : o.upon P a K Q r) : o.uponIn F n P a K Q r := by
  have hc : ∀ {m : Nat} {f : FuncId} {args : Array Value} {w : World} {R : Ending → World → Prop}, Calls P f args w R → CallsIn F m P f args w R := fun {m} {f} {args} {w} {R} h => by
    rcases hF with rfl | ⟨l, rfl⟩
    · exact callsIn_wide.2 h
    · exact callsIn_wide.2 h
  have hr : ∀ {m : Nat} {row : String} {args : Array Value} {w : World} {R : Value → World → Prop}, Rows P row args w R → RowsIn F m P row args w R := fun {m} {row} {args} {w} {R} h => by
    rcases hF with rfl | ⟨l, rfl⟩
    · exact rowsIn_wide h
    · exact rowsIn_wide h
  have hd : F.depth.isSome = true → 1 ≤ n := by
    rcases hF with rfl | ⟨l, rfl⟩ <;> (intro h; cases h)
  cases r with
  | ok x w' =>
    cases x <;> simp only [Oper.upon] at h <;> first
      | exact h
      | exact ⟨hd, hc h⟩
      | exact ⟨hd, hr h⟩
      | exact h.elim
  | halt x w' => cases x <;> first | exact h | exact h.elim
theorem semAt_nd {ρ : Operand → Value} {o : Oper} {ro : Option Nat} (h : isDefer o.op = false) : Oper.semAt ro ρ o = execOp ρ o := Oper.semAt_eq ro ρ o (not_defer h)
theorem fn_in {F : Fence} (hF : F = Fence.wide ∨ ∃ l, F = FR l) (f : FuncId) : F.fn f := by
  rcases hF with rfl | ⟨l, rfl⟩ <;> trivial
theorem oper_in {F : Fence} (hF : F = Fence.wide ∨ ∃ l, F = FR l) {o : Oper} {a : Act} {w : World} {K : Act → World → Prop} (hd : isDefer o.op = false) (h : o.wp P a w K Q) : o.wpIn F n P a w K Q :=
  ⟨fun f _ => fn_in hF f, by rw [semAt_nd hd]; exact upon_in hF h⟩
theorem wpO_in {F : Fence} (hF : F = Fence.wide ∨ ∃ l, F = FR l) {o : Oper} {rest : List Oper} {a : Act} {w : World} (hd : isDefer o.op = false) (hQ : ¬ LetsOut Q) (h : wpO P ops Q o (wpListIn F n P ops Q rest) a w) : wpListIn F n P ops Q (o :: rest) a w := by
  unfold wpO at h
  unfold wpListIn
  split at h
  · rename_i hw
    rw [if_pos hw]
    rcases h with h | ⟨_, h⟩
    · exact oper_in hF hd h
    · exact absurd h hQ
  · rename_i hw
    rw [if_neg hw]
    exact ⟨fun f _ => fn_in hF f, h⟩
theorem list_in {F : Fence} (hF : F = Fence.wide ∨ ∃ l, F = FR l) (hQ : ¬ LetsOut Q) : ∀ (l : List Oper) (a : Act) (w : World), (l.all fun o => !isDefer o.op) = true → wpList P ops Q l a w → wpListIn F n P ops Q l a w
  | [], _, _, _, h => h
  | o :: rest, a, w, hd, h => by
    simp only [List.all_cons, Bool.and_eq_true, Bool.not_eq_true'] at hd
    unfold wpListIn
    unfold wpList at h
    split at h
    · rename_i hw
      rw [if_pos hw]
      rcases h with h | ⟨_, h⟩
      · exact Oper.wpIn_mono (fun a w h => list_in hF hQ rest a w hd.2 h) (oper_in hF hd.1 h)
      · exact absurd h hQ
    · rename_i hw
      rw [if_neg hw]
      exact ⟨fun f _ => fn_in hF f, list_in hF hQ rest _ _ hd.2 h⟩
theorem any_in {F : Fence} (hF : F = Fence.wide ∨ ∃ l, F = FR l) (hQ : ¬ LetsOut Q) (hd : (ops.toList.all fun o => !isDefer o.op) = true) : ∀ (fuel : Nat) (listed : Array Bool) (a : Act) (w : World), wpAny P .any ops Q fuel listed a w → wpAnyIn F n P .any ops Q fuel listed a w
  | 0, _, _, _, h => h
  | fuel + 1, listed, a, w, h => ⟨h.1, fun i hi => by
    have h1 := h.2 i hi
    unfold wpOp at h1
    unfold wpOpIn
    split at h1
    · rename_i ho; simp only [ho]; exact any_in hF hQ hd fuel _ _ _ h1
    · rename_i o ho
      simp only [ho]
      have hdo : isDefer o.op = false := by
        have := List.all_eq_true.1 hd o (by rw [← Array.getElem?_toList] at ho; exact List.mem_of_getElem? ho)
        simpa using this
      split at h1
      · rename_i hw
        rw [if_pos hw]
        rcases h1 with h1 | ⟨_, h1⟩
        · exact Oper.wpIn_mono (fun a w h => any_in hF hQ hd fuel _ a w h) (oper_in hF hdo h1)
        · exact absurd h1 hQ
      · rename_i hw
        rw [if_neg hw]
        exact ⟨fun f _ => fn_in hF f, any_in hF hQ hd fuel _ _ _ h1⟩⟩
end
/-! ### the control of a round -/
section
variable {P : Program} {w0 : World} {O : List Nat} {ops : Array Oper} {Q : Exit → Act → World → Prop} {N : Nat} {D : List Deferred} {L : FL} {C : List Chunk} {K : Act → World → Prop}
def WI (P : Program) (l : Nat) (w0 : World) (O : List Nat) (c : Code) (Q : Exit → Act → World → Prop) (N : Nat) (D : List Deferred) (L : FL) (C : List Chunk) : Prop :=
  ∀ a w, Fr N D L a → St w0 O C w → c.wpIn (FR l) 0 P Q a w
variable {l : Nat}
theorem WI.seq {x y : Code} (h : WI P l w0 O x (Exit.then (y.wpIn (FR l) 0 P Q) Q) N D L C) : WI P l w0 O (.seq x y) Q N D L C := fun a w hF hS => wpIn_seq (h a w hF hS)
theorem WI.skip (h : WQ w0 O Q .normal N D L C) : WI P l w0 O .skip Q N D L C := fun a w hF hS => wpIn_skip (h a w hF hS)
theorem WI.label {i : Nat} (h : WQ w0 O Q .normal N D L C) : WI P l w0 O (.label i) Q N D L C := fun a w hF hS => wpIn_label (h a w hF hS)
theorem WI.ret (h : WQ w0 O Q .ret N D L C) : WI P l w0 O .ret Q N D L C := fun a w hF hS => wpIn_ret (h a w hF hS)
theorem WI.exit {i : Nat} (h : WQ w0 O Q (.exit i) N D L C) : WI P l w0 O (.exit i) Q N D L C := fun a w hF hS => wpIn_exit (h a w hF hS)
theorem WI.block {i : Nat} {c : Code} (h : WI P l w0 O c (Exit.inBlock i Q) N D L C) : WI P l w0 O (.block i c) Q N D L C := fun a w hF hS => wpIn_block (h a w hF hS)
theorem WI.region {i : Nat} {r : List Oper} (hQ : ¬ LetsOut Q) (hd : (r.all fun o => !isDefer o.op) = true) (h : WA w0 O (wpList P r.toArray Q r) N D L C) : WI P l w0 O (.region i r.toArray false) Q N D L C := fun a w hF hS =>
  wpIn_region_lit (list_in (.inr ⟨l, rfl⟩) hQ r a w hd (h a w hF hS))
theorem WI.cond {c : Operand} {x y : Code} {t : Bool} (hc : ev L c = some (.bool t)) (ht : t = true → WI P l w0 O x Q N D L C) (hf : t = false → WI P l w0 O y Q N D L C) :
    WI P l w0 O (.cond c x y) Q N D L C := fun a w hF hS => wpIn_cond_split (hF.ev hc) (fun h => ht h a w hF hS) (fun h => hf h a w hF hS)
theorem WI.condT {c : Operand} {x y : Code} (hc : ev L c = some (.bool true)) (h : WI P l w0 O x Q N D L C) : WI P l w0 O (.cond c x y) Q N D L C :=
  fun a w hF hS => wpIn_cond_true (hF.ev hc) (h a w hF hS)
theorem WI.condF {c : Operand} {x y : Code} (hc : ev L c = some (.bool false)) (h : WI P l w0 O y Q N D L C) : WI P l w0 O (.cond c x y) Q N D L C :=
  fun a w hF hS => wpIn_cond_false (hF.ev hc) (h a w hF hS)
theorem WI.chunks {c : Code} {C' : List Chunk} (hs : ∀ w, St w0 O C w → St w0 O C' w) (h : WI P l w0 O c Q N D L C') : WI P l w0 O c Q N D L C := fun a w hF hS => h a w hF (hs w hS)
theorem WI.know {c : Code} {φ : Prop} (hs : ∀ w, St w0 O C w → φ) (h : φ → WI P l w0 O c Q N D L C) : WI P l w0 O c Q N D L C := fun a w hF hS => h (hs w hS) a w hF hS
/-- A region that draws, in a round. -/
theorem WI.drawsL {id : Nat} {r : List Oper} {Fs : List (List Nat × (World → Prop))} (hQ : ¬ LetsOut Q) (hd : (r.all fun o => !isDefer o.op) = true) (hm : P.follows .mixedOrders = true) (hF : FactsOk w0 O L C Fs)
    (h : WD P w0 O r.toArray Q Fs r.length (Array.replicate r.length false) N D L C) : WI P l w0 O (.region id r.toArray true) Q N D L C := fun a w hFr hS => by
  refine wpIn_region_any hm (any_in (.inr ⟨l, rfl⟩) hQ (by simpa using hd) _ _ _ _ (wpAny_of_T (Fs := Fs) _ _ _ _ ?_))
  have hc : Closed r.toArray (Array.replicate r.length false) := by
    intro j oj _ hl
    rcases Nat.lt_or_ge j r.length with h' | h'
    · simp [h'] at hl
    · simp [h'] at hl
  have hS' : St w0 O C { w with drawn := w.drawn + 1 } := ⟨hS.os, hS.tape, hS.output, hS.size, hS.old, fun c hc => c.loc w _ (fun _ _ => rfl) (hS.ok c hc), hS.bnd, hS.disj⟩
  have h1 := h hc a { w with drawn := w.drawn + 1 } hFr hS' (fun f hf _ => hF _ hS' f hf)
  simpa using h1
/-! ### a region that yields -/
theorem WC.regionIn {i : Nat} {r : List Oper} (h : WA w0 O (wpListIn Fence.wide 0 P r.toArray Q r) N D L C) : WC P w0 O (.region i r.toArray false) Q N D L C := fun a w hF hS =>
  wpIn_wide.1 (wpIn_region_lit (h a w hF hS))
theorem WIL.nil (h : WQ w0 O Q .normal N D L C) : WA w0 O (wpListIn Fence.wide 0 P ops Q []) N D L C := fun a w hF hS => h a w hF hS
theorem WIL.step {o : Oper} {rest : List Oper} (hQ : ¬ LetsOut Q) (hd : isDefer o.op = false) (h : WK P w0 O ops Q o (wpListIn Fence.wide 0 P ops Q rest) N D L C) : WA w0 O (wpListIn Fence.wide 0 P ops Q (o :: rest)) N D L C := fun a w hF hS =>
  wpO_in (.inl rfl) hd hQ (h a w hF hS)
theorem WIL.guardT {o : Oper} {rest : List Oper} {j : Nat} {g : Bool} {dj : Nat} (hgd : o.guard = some (j, g)) (hj : (ops[j]?).bind (·.dst) = some dj) (hv : lk L dj = some (.bool g))
    (h : WA w0 O (wpListIn Fence.wide 0 P ops Q ({ o with guard := none } :: rest)) N D L C) : WA w0 O (wpListIn Fence.wide 0 P ops Q (o :: rest)) N D L C := fun a w hF hS => by
  have h' := h a w hF hS
  have hw : Region.wanted o (yielded ops a.tmps) = true := by
    have := hF.get dj _ hv
    simp [Region.wanted, hgd, yielded, hj, this]
  unfold wpListIn at h' ⊢
  rw [if_pos hw]
  rw [if_pos (by simp [Region.wanted])] at h'
  exact h'
variable {d : Nat} {ty : TypeId} {pos : String} {af : Array Edge}
theorem WIL.yield {β : Type} {b : Bool} {rest : List Oper} {x : Operand} {xs : List Operand} {tys : Array TypeId} {vs : List Value} {cs : β → List Chunk} {Cs C1 : List Chunk} {O' : List Nat} {φ : β → Prop}
    (hd : Nat.blt d N = true) (hfv : ev L x = some (.func (.yield l) #[] #[])) (hx : evs L xs = some vs) (hp : C.Perm (Cs ++ C1)) (hO1 : ∀ c ∈ Cs, ∀ k, c.fp k → k ∈ O') (hO2 : ∀ k ∈ O', ∃ c ∈ Cs, c.fp k)
    (hc : ∀ w, St w0 O (Cs ++ C1) w → St w O' Cs w → YieldAt Fence.wide 0 P l vs.toArray w fun e w' => e = .returned (.bool b) ∧ ∃ x, φ x ∧ St w O' (cs x) w')
    (h : ∀ x, φ x → WA w0 O (wpListIn Fence.wide 0 P ops Q rest) N D ((d, .bool b) :: L) (cs x ++ C1)) :
    WA w0 O (wpListIn Fence.wide 0 P ops Q (⟨some d, .call { callee := .value x, args := xs.toArray, argTypes := tys }, ty, pos, af, none⟩ :: rest)) N D L C := fun a w hF hS => by
  have ha : xs.toArray.map a.eval = vs.toArray := by apply Array.ext'; simp [hF.evs hx]
  have hS1 := hS.perm hp
  obtain ⟨fn, tmps, assign, body, hy, hR⟩ := hc w hS1 (hS1.focus hO1)
  unfold wpListIn
  rw [if_pos (by simp [Region.wanted])]
  refine ⟨fun f _ => trivial, ?_⟩
  have e1 : (Oper.semAt Fence.wide.round a.eval ⟨some d, .call { callee := .value x, args := xs.toArray, argTypes := tys }, ty, pos, af, none⟩).run P w = .ok (.round l fn tmps assign body) w := by
    rw [semAt_nd rfl]
    simp [execOp, resolve, Deferred.ofValue, hF.ev hfv, invoke, ha, hy]
  rw [e1]
  refine ⟨fun h => (by cases h), hR.mono ?_⟩
  rintro e w' ⟨rfl, y, hφ, hS'⟩
  exact h y hφ _ w' (hF.put d _ hd) (hS1.callC hS' hO2)
end
/-! ### the statement -/
/-- One block that is no row of cells. -/
def ob1 (b : Nat) (o : Obj) : Chunk where
  fp k := k = b
  ok w := w.heap[b]? = some o
  loc w w' h hw := by rw [h b rfl]; exact hw
theorem FpIs.ob1 {b : Nat} {o : Obj} : FpIs (ob1 b o) [b] := fun k => by simp [Eng.ob1]
section
variable {P : Program} {w0 : World} {O : List Nat} {ops : Array Oper} {Q : Exit → Act → World → Prop} {N : Nat} {D : List Deferred} {L : FL} {C : List Chunk} {K : Act → World → Prop}
theorem St.allocO {w : World} (h : St w0 O C w) (o : Obj) : St w0 O (ob1 w.heap.size o :: C) (w.alloc o) := by
  have hh : ∀ k, k < w.heap.size → (w.alloc o).heap[k]? = w.heap[k]? := fun k hk => Below.heap_alloc w _ k hk
  refine ⟨h.os, h.tape, h.output, by have := h.size; simp; omega, fun k hk ho => ?_, ?_, ?_, ?_⟩
  · rw [hh k (Nat.lt_of_lt_of_le hk h.size)]; exact h.old k hk ho
  · intro c hc
    rcases List.mem_cons.1 hc with rfl | hc
    · exact World.alloc_heap_new w o
    · exact c.loc w _ (fun k hk => hh k (h.bnd c hc k hk).1) (h.ok c hc)
  · intro c hc k hk
    rcases List.mem_cons.1 hc with rfl | hc
    · have : k = w.heap.size := hk
      subst this
      exact ⟨by simp, fun hlt => absurd hlt (Nat.not_lt.2 h.size)⟩
    · exact ⟨by have := (h.bnd c hc k hk).1; simp; omega, (h.bnd c hc k hk).2⟩
  · refine List.Pairwise.cons (fun c hc k hk hk' => ?_) h.disj
    have : k = w.heap.size := hk
    subst this
    exact Nat.lt_irrefl _ (h.bnd c hc _ hk').1
theorem St.putO {w : World} {b : Nat} {o : Obj} (h : St w0 O (ob1 b o :: C) w) (o' : Obj) : St w0 O (ob1 b o' :: C) (w.putObj b o') := by
  have hb : b < w.heap.size := lt_of_heap (h.ok _ (List.mem_cons_self ..))
  have hbn := h.bnd _ (List.mem_cons_self ..) b rfl
  have hd := List.pairwise_cons.1 h.disj
  refine ⟨h.os, h.tape, h.output, by rw [World.putObj_size]; exact h.size, fun k hk ho => ?_, ?_, ?_, List.Pairwise.cons hd.1 hd.2⟩
  · rw [World.putObj_heap_other (fun e => by subst e; exact ho (hbn.2 hk))]; exact h.old k hk ho
  · intro c hc
    rcases List.mem_cons.1 hc with rfl | hc9
    · exact World.putObj_heap_same hb
    · exact c.loc w _ (fun k hk => World.putObj_heap_other (fun e => hd.1 c hc9 b rfl (e ▸ hk))) (h.ok c (List.mem_cons_of_mem _ hc9))
  · intro c hc k hk
    rw [World.putObj_size]
    rcases List.mem_cons.1 hc with rfl | hc
    · exact h.bnd _ (List.mem_cons_self ..) k hk
    · exact h.bnd c (List.mem_cons_of_mem _ hc) k hk
/-- What a round begins with. -/
def putL : List Nat → List Value → FL → FL
  | p :: ps, v :: vs, L => putL ps vs ((p, v) :: L)
  | _, _, L => L
theorem Fr.putL {Dd : List Deferred} : ∀ (ps : List Nat) (vs : List Value) {L : FL} {t : Array Value}, (ps.all fun p => Nat.blt p N) = true → Fr N Dd L { tmps := t, defers := Dd } →
    Fr N Dd (Eng.putL ps vs L) { tmps := (ps.zip vs).foldl (fun t (q : Nat × Value) => t.setIfInBounds q.1 q.2) t, defers := Dd }
  | [], _, _, _, _, h => by simpa [Eng.putL] using h
  | _ :: _, [], _, _, _, h => by simpa [Eng.putL] using h
  | p :: ps, v :: vs, L, t, hp, h => by
    simp only [List.all_cons, Bool.and_eq_true] at hp
    simp only [Eng.putL, List.zip_cons_cons, List.foldl_cons]
    exact Fr.putL ps vs hp.2 (h.put p v hp.1)
/-- How a round ends: on it goes. -/
def rdPost (G : Prop → Prop) (w1 : World) (O : List Nat) {σ : Type} (I : σ → Prop) (J : σ → List Chunk) : Exit → Act → World → Prop
  | .normal, _, w => ∃ y, I y ∧ St w1 O (J y) w
  | _, _, _ => False
theorem WQ.round {G : Prop → Prop} {σ : Type} {I : σ → Prop} {J : σ → List Chunk} (y : σ) (hI : I y) (h : ∀ w, St w0 O C w → St w0 O (J y) w) : WQ w0 O (rdPost G w0 O I J) .normal N D L C := fun a w hF hS => ⟨y, hI, h w hS⟩
/-- Between the assignment to the loop's left sides and the body. -/
def beginK (P : Program) (l : Nat) (body : Code) (Q : Exit → Act → World → Prop) (a : Act) (w : World) : Prop := ∃ w2, (Instr.beginRound l).run P w = .ok () w2 ∧ body.wpIn (FR l) 0 P Q a w2
theorem WQ.begin {l : Nat} {body : Code} {r : Loop} {C1 : List Chunk} (hr : r.state = .ready) (hp : C.Perm (ob1 l (.loop r) :: C1)) (h : WI P l w0 O body Q N D L (ob1 l (.loop { r with state := .busy }) :: C1)) :
    WQ w0 O (Exit.then (beginK P l body Q) (fun _ _ _ => False)) .normal N D L C := fun a w hF hS => by
  have hS1 := hS.perm hp
  exact ⟨_, run_beginRound (hS1.ok _ (List.mem_cons_self ..)) hr, h a _ hF (hS1.putO _)⟩
abbrev recOf (fn : FuncId) (t : Array Value) (ps : List Nat) (assign body : Code) (Db : Nat) : Loop := { state := .ready, pending := none, fn, tmps := t, params := ps.toArray, assign, body, defers := Db }
theorem WC.rangeFunc {σ : Type} {g : Operand} {ps : List Nat} {assign body : Code} {gf : FuncId} {cap : List Value} {C1 : List Chunk} {n : Nat} (encs : Nat → List Value) (I : Nat → σ → Prop) (J : σ → List Chunk) (G : σ → List Nat) (y0 : σ)
    (hJ : ∀ y, FpL (J y) (G y)) (hI0 : I 0 y0) (hg : ev L g = some (.func (.func gf) #[] cap.toArray)) (hf : funB P gf = some true) (hps : ∀ k, (encs k).length = ps.length) (hpN : (ps.all fun p => Nat.blt p N) = true) (hp : C.Perm (J y0 ++ C1))
    (hc : ∀ (l : Nat) (ch : σ → Chunk) (w : World), w0.heap.size ≤ l → St w0 O (J y0 ++ C1) w → (∀ y, FpIs (ch y) (l :: G y)) → (∀ c ∈ J y0 ++ C1, ∀ k, c.fp k → k ≠ l) → St w (l :: G y0) [ch y0] w →
      (∀ k y w1, k < n → I k y → St w (l :: G y0) [ch y] w1 → YieldAt Fence.wide 0 P l (encs k).toArray w1 fun e w' => e = .returned (.bool true) ∧ ∃ y', I (k + 1) y' ∧ St w1 (l :: G y) [ch y'] w') →
      Calls P gf (Value.func (.yield l) #[] #[] :: cap).toArray w fun e w' => ∃ y, (∃ v, e = .returned v) ∧ I n y ∧ St w (l :: G y0) [ch y] w')
    (hround : ∀ (l : Nat) (r : Loop) k y w1, k < n → I k y → r.state = .ready → w0.heap.size ≤ l → St w0 O (J y ++ C1) w1 →
      WI P l w1 (l :: G y) assign (Exit.then (beginK P l body (rdPost (fun p => p) w1 (l :: G y) (I (k + 1)) (fun y => ob1 l (.loop { r with state := .busy }) :: J y))) (fun _ _ _ => False)) N [] (putL ps (encs k) L) (ob1 l (.loop r) :: J y))
    (hdone : ∀ Db y, I n y → WQ w0 O Q .normal N ({ target := .collected Db, args := #[] } :: D) L (ob1 Db (.deferred (some [])) :: J y ++ C1)) :
    WC P w0 O (.rangeFunc g ps.toArray assign body) Q N D L C := fun a w hFr hS0 => by
  have hS := hS0.perm hp
  refine (wpIn_wide (n := 1)).1 (wpIn_rangeFunc ?_)
  intro fn _
  show ∃ l mark w₁ d w₁' f args w₂, (Instr.enterLoop fn a.tmps ps.toArray assign body none).run P w = _ ∧ _
  obtain ⟨W1, hW1⟩ : ∃ W1, (w.alloc (.deferred (some []))).alloc (.loop (recOf fn a.tmps ps assign body w.heap.size)) = W1 := ⟨_, rfl⟩
  have hSd := (hS.allocO (.deferred (some []))).allocO (.loop (recOf fn a.tmps ps assign body w.heap.size))
  rw [hW1, World.size_alloc] at hSd
  have hlsz : w0.heap.size ≤ w.heap.size + 1 := Nat.le_succ_of_le hS.size
  refine ⟨w.heap.size + 1, [{ target := .collected w.heap.size, args := #[] }], W1, { target := .fn (.func gf) cap.toArray, args := #[.func (.yield (w.heap.size + 1)) #[] #[]] }, W1, gf,
    #[.func (.yield (w.heap.size + 1)) #[] #[]] ++ cap.toArray, W1, ?_, ?_, ?_, ?_, fun h => (by cases h), ?_⟩
  · rw [← hW1]; exact run_enterLoop_outer _ _ _ _ _
  · simp only [resolve, hFr.ev hg]
    simp [go_sem]
  · intro f' _; trivial
  · simp [invoke, go_sem, run_callFunc hf]
  obtain ⟨Db, hD⟩ : ∃ Db, w.heap.size = Db := ⟨_, rfl⟩
  obtain ⟨l, hl⟩ : ∃ l, Db + 1 = l := ⟨_, rfl⟩
  rw [hD] at hSd hlsz ⊢
  rw [hl] at hSd hlsz ⊢
  have hch : ∀ y, FpIs (bun (l :: G y) (fun _ : Unit => ob1 l (.loop (recOf fn a.tmps ps assign body Db)) :: J y) (fun _ => True)) (l :: G y) := fun y k => Iff.rfl
  have hclose : ∀ (y : σ) {v : World} {O1 : List Nat} {C2 : List Chunk} {wb : World}, St wb O1 (ob1 l (.loop (recOf fn a.tmps ps assign body Db)) :: J y ++ C2) v → St wb O1 (bun (l :: G y) (fun _ : Unit => ob1 l (.loop (recOf fn a.tmps ps assign body Db)) :: J y) (fun _ => True) :: C2) v := fun y {v} {O1} {C2} {wb} h =>
    St.bunClose' (Cs := fun _ : Unit => ob1 l (.loop (recOf fn a.tmps ps assign body Db)) :: J y) () trivial (.cons FpIs.ob1 (hJ y)) h
  -- the world in which the iterator is called
  have hSP : St w0 O (ob1 l (.loop (recOf fn a.tmps ps assign body Db)) :: J y0 ++ (ob1 Db (.deferred (some [])) :: C1)) W1 := hSd.perm (.cons _ (List.perm_middle.symm))
  have hfoc : St W1 (l :: G y0) [bun (l :: G y0) (fun _ : Unit => ob1 l (.loop (recOf fn a.tmps ps assign body Db)) :: J y0) (fun _ => True)] W1 :=
    (hclose y0 hSP).focus (Cs := [_]) (C1 := ob1 Db (.deferred (some [])) :: C1) (fun c hc k hk => by rw [List.mem_singleton.1 hc] at hk; exact hk)
  have hJC : St w0 O (J y0 ++ C1) W1 := hSP.sublist (List.Sublist.cons _ ((List.Sublist.refl _).append (List.sublist_cons_self ..)))
  have hdis : ∀ c ∈ J y0 ++ C1, ∀ k, c.fp k → k ≠ l := fun c hc k hk e => by
    have h1 := (hS.bnd c hc k hk).1
    subst e; omega
  refine (callsIn_wide (n := 0)).2 ?_
  have hargs : #[Value.func (.yield l) #[] #[]] ++ cap.toArray = (Value.func (.yield l) #[] #[] :: cap).toArray := by simp
  rw [hargs]
  refine (hc l (fun y => bun (l :: G y) (fun _ : Unit => ob1 l (.loop (recOf fn a.tmps ps assign body Db)) :: J y) (fun _ => True)) W1 hlsz hJC hch hdis hfoc ?_).mono ?_
  · -- one round
    intro k y w1 hk hI hSy
    obtain ⟨_, _, _, _, hSo⟩ := hSy.bunOpen
    have hlr := hSo.ok _ (List.mem_cons_self ..)
    have hS1 : St w1 (l :: G y) (ob1 l (.loop (recOf fn a.tmps ps assign body Db)) :: J y) w1 := by
      have h9 : St W1 (l :: G y0) ((ob1 l (.loop (recOf fn a.tmps ps assign body Db)) :: J y) ++ []) w1 := hSo
      exact h9.focus (FpL.one (.cons FpIs.ob1 (hJ y)))
    have hglob : St w0 O (J y ++ C1) w1 := by
      have h8 : St w0 O ([bun (l :: G y0) (fun _ : Unit => ob1 l (.loop (recOf fn a.tmps ps assign body Db)) :: J y0) (fun _ => True)] ++ (ob1 Db (.deferred (some [])) :: C1)) W1 := hclose y0 hSP
      have h9 := h8.callC hSy (fun k hk => ⟨_, List.mem_singleton.2 rfl, hk⟩)
      obtain ⟨_, _, _, _, h7⟩ := (show St w0 O (bun (l :: G y) (fun _ : Unit => ob1 l (.loop (recOf fn a.tmps ps assign body Db)) :: J y) (fun _ => True) :: (ob1 Db (.deferred (some [])) :: C1)) w1 from h9).bunOpen
      exact (show St w0 O (ob1 l (.loop (recOf fn a.tmps ps assign body Db)) :: (J y ++ (ob1 Db (.deferred (some [])) :: C1))) w1 from h7).sublist (List.Sublist.cons _ ((List.Sublist.refl _).append (List.sublist_cons_self ..)))
    have hy := run_yield (P := P) (args := (encs k).toArray) hlr (by simp [hps k])
    refine ⟨_, _, _, _, hy, ?_⟩
    have hfr : Fr N [] (putL ps (encs k) L) { tmps := ((recOf fn a.tmps ps assign body Db).params.zip (encs k).toArray).foldl (fun t (q : Tmp × Value) => t.setIfInBounds q.1 q.2) (recOf fn a.tmps ps assign body Db).tmps, defers := [] } := by
      have h1 : Fr N [] L { tmps := a.tmps, defers := [] } := ⟨rfl, hFr.size, hFr.get⟩
      have h2 := Fr.putL ps (encs k) hpN h1
      simpa using h2
    have hw := hround l (recOf fn a.tmps ps assign body Db) k y w1 hk hI rfl hlsz hglob _ w1 hfr hS1
    refine roundIn_of_wpIn (F := Fence.wide) trivial (wpIn_mono hw ?_)
    intro e a1 w2 h
    cases e with
    | normal =>
      obtain ⟨w3, hb, hbody⟩ := h
      refine ⟨w3, hb, wpIn_mono hbody ?_⟩
      intro e2 a2 w4 h4
      cases e2 with
      | normal =>
        obtain ⟨y', hI', hS'⟩ := h4
        have hl4 := hS'.ok _ (List.mem_cons_self ..)
        refine ⟨_, _, run_endRound none hl4, rfl, y', hI', ?_⟩
        have h5 := hS'.putO (.loop { (recOf fn a.tmps ps assign body Db) with state := .ready, pending := none })
        have h6 : St w1 (l :: G y) (ob1 l (.loop (recOf fn a.tmps ps assign body Db)) :: J y' ++ []) (w4.putObj l (.loop { (recOf fn a.tmps ps assign body Db) with state := .ready, pending := none })) := by
          rw [List.append_nil]
          exact h5
        exact hclose y' h6
      | _ => exact h4.elim
    | _ => exact h.elim
  · -- behind the iterator
    rintro e W2 ⟨y, ⟨v, rfl⟩, hIn, hS2⟩
    have h8 : St w0 O ([bun (l :: G y0) (fun _ : Unit => ob1 l (.loop (recOf fn a.tmps ps assign body Db)) :: J y0) (fun _ => True)] ++ (ob1 Db (.deferred (some [])) :: C1)) W1 := hclose y0 hSP
    have h9 := h8.callC hS2 (fun k hk => ⟨_, List.mem_singleton.2 rfl, hk⟩)
    obtain ⟨_, _, _, _, h7⟩ := (show St w0 O (bun (l :: G y) (fun _ : Unit => ob1 l (.loop (recOf fn a.tmps ps assign body Db)) :: J y) (fun _ => True) :: (ob1 Db (.deferred (some [])) :: C1)) W2 from h9).bunOpen
    have hl7 := h7.ok _ (List.mem_cons_self ..)
    refine ⟨none, _, run_endLoop hl7 (by simp), ?_⟩
    have h6 := (show St w0 O (ob1 l (.loop (recOf fn a.tmps ps assign body Db)) :: (J y ++ (ob1 Db (.deferred (some [])) :: C1))) W2 from h7).putO (.loop { (recOf fn a.tmps ps assign body Db) with state := .exhausted })
    refine hdone Db y hIn _ _ ⟨?_, hFr.size, hFr.get⟩ ((h6.sublist (List.sublist_cons_self ..)).perm List.perm_middle)
    show [_] ++ a.defers = _
    rw [hFr.defers]; rfl
/-! ### a function that holds such a statement -/
/-- The body returns, its marks taken. -/
def bodyPostR (P : Program) (fn : Func) (R : Ending → World → Prop) : Exit → Act → World → Prop
  | .normal, a, w | .ret, a, w => LeavesInM Fence.wide 0 P fn a.tmps R a.defers .returning w
  | _, _, _ => False
theorem enterM {f : FuncId} {fn : Func} {c : Code} {args : List Value} {w : World} {R : Ending → World → Prop} (hf : P.funcs[f]? = some fn) (hb : fn.body = some c) (hn : fn.ntmps = N) (hl : Nat.ble args.length N = true) (hS : St w O C w)
    (h : WC P w O c (bodyPostR P fn R) N [] (fl0 args 0) C) : Calls P f args.toArray w R := by
  refine callsIn_wide.1 (callsIn_of_wp_marks (n := 0) hf hb trivial (wpIn_wide.2 (Code.wp_mono (Q := bodyPostR P fn R) (fun e a w h => by cases e <;> first | exact h | exact h.elim) ?_)))
  subst hn
  have := h _ w (Fr.init args fn.ntmps (Nat.le_of_ble_eq_true hl)) hS
  simpa using this
theorem WQ.retM0 {fn : Func} {R : Ending → World → Prop} {rs : List ResultVar} {vs : List Value} (hr : fn.results = rs.toArray) (h : RV P L C rs vs) (hR : ∀ w, St w0 O C w → R (.returned (tup vs)) w) :
    WQ w0 O (bodyPostR P fn R) .ret N [] L C := fun a w hF hS => by
  show LeavesInM Fence.wide 0 P fn a.tmps R a.defers .returning w
  rw [hF.defers]
  exact ⟨_, run_results hr h hF hS, hR w hS⟩
theorem WQ.retM1 {fn : Func} {R : Ending → World → Prop} {rs : List ResultVar} {vs : List Value} {Db : Nat} {C1 : List Chunk} (hr : fn.results = rs.toArray) (hp : C.Perm (ob1 Db (.deferred (some [])) :: C1)) (h : RV P L C1 rs vs) (hR : ∀ w, St w0 O C1 w → R (.returned (tup vs)) w) :
    WQ w0 O (bodyPostR P fn R) .ret N [{ target := .collected Db, args := #[] }] L C := fun a w hF hS => by
  show LeavesInM Fence.wide 0 P fn a.tmps R a.defers .returning w
  rw [hF.defers]
  have hS1 := hS.perm hp
  have hF' : Fr N a.defers L a := ⟨rfl, hF.size, hF.get⟩
  have hS2 := (hS1.putO (.deferred none)).sublist (List.sublist_cons_self ..)
  exact ⟨by simp, .inl ⟨Db, _, rfl, run_takeDeferred (hS1.ok _ (List.mem_cons_self ..)), _, run_results hr h hF' hS2, hR _ hS2⟩⟩
end
end Go.Eng

/-
  A row of sets: their nodes, to be read. By an AI agent.
-/
namespace Go.Proofs.Ytkgllhkhdjodeaa
open Go Go.Eng Go.Proofs Dg
abbrev DV := BT × Option Addr × Nat
def RdIn (w : World) (x : DV) (F : List Nat) : Prop := x.1.ok 0 ∧ ∀ (j : Nat) (u : Value), (decs (canon x.1).1)[j]? = some u → ∃ b off, x.2.1 = some ⟨b, off, none⟩ ∧ w.cell? ⟨b, off + j, none⟩ = some u ∧ b ∈ F
def dsC (F : List Nat) (l : List DV) : Chunk where
  fp k := k ∈ F
  ok w := ∀ x ∈ l, RdIn w x F
  loc w w' h hw := fun x hx => ⟨(hw x hx).1, fun j u hu => by
    obtain ⟨b, off, e1, e2, e3⟩ := (hw x hx).2 j u hu
    exact ⟨b, off, e1, by rw [World.cell?_of_block (h b e3)]; exact e2, e3⟩⟩
theorem FpIs.dsC {F : List Nat} {l : List DV} : FpIs (dsC F l) F := fun k => Iff.rfl
abbrev dcs (l : List DV) : List Value := l.flatMap fun x => [.slice x.2.1 (canon x.1).1.length x.2.2, .int .i64 ((canon x.1).2 : Int)]
section
variable {w0 : World} {O : List Nat} {C : List Chunk}
theorem St.dsNil {w : World} (h : St w0 O C w) : St w0 O (dsC [] [] :: C) w :=
  ⟨h.os, h.tape, h.output, h.size, h.old, fun c hc => by
    rcases List.mem_cons.1 hc with rfl | hc
    · intro x hx; cases hx
    · exact h.ok c hc, fun c hc k hk => by
    rcases List.mem_cons.1 hc with rfl | hc
    · cases hk
    · exact h.bnd c hc k hk, List.Pairwise.cons (fun _ _ _ hk => by cases hk) h.disj⟩
end
end Go.Proofs.Ytkgllhkhdjodeaa

namespace Go.Proofs.Ytkgllhkhdjodeaa
open Go Go.Eng Go.Proofs Dg
end Go.Proofs.Ytkgllhkhdjodeaa

namespace Go.Proofs.Ytkgllhkhdjodeaa
open Go Go.Eng Go.Proofs Dg
abbrev dvs (x : DV) : List Value := [.slice x.2.1 (canon x.1).1.length x.2.2, .int .i64 ((canon x.1).2 : Int)]
def revI (l : List DV) (i : Nat) : List DV := l.mapIdx fun k x => if k < i ∨ l.length ≤ k + i then l.reverse.getD k x else x
end Go.Proofs.Ytkgllhkhdjodeaa

/-
  What a round knows of what lay there before. By an AI agent.
-/
namespace Go.Proofs.Ytkgllhkhdjodeaa
open Go Go.Eng Go.Proofs Dg
theorem St.off {w0 w : World} {O : List Nat} {Cs C1 : List Chunk} {G : List Nat} (h : St w0 O (Cs ++ C1) w) (hG : FpL Cs G) {c : Chunk} (hc : c ∈ C1) {k : Nat} (hk : c.fp k) : k ∉ G := fun hk' => by
  obtain ⟨d, hd, hdk⟩ := hG.two k hk'
  exact (List.pairwise_append.1 h.disj).2.2 d hd c hc k hdk hk
theorem RdC.ext {w0 w : World} {c : List Int} {a : Option Addr} (h : RdC w0 c a) (hE : Ext w0 w) : RdC w c a := fun j x hx => by
  obtain ⟨b, off, ha, hc⟩ := h j x hx
  exact ⟨b, off, ha, hE.cell hc⟩
end Go.Proofs.Ytkgllhkhdjodeaa

/-! The core of clauses. -/
namespace Dg
open Classical in
noncomputable def satB (ls : List (List Int)) : Bool := decide (∃ cf, ls.all (fun k => clauseB k cf) = true)
open Classical in
theorem satB_iff {ls : List (List Int)} : satB ls = true ↔ ∃ cf, ls.all (fun k => clauseB k cf) = true := by unfold satB; exact decide_eq_true_iff
def pickL (ls : List (List Int)) (o : List Nat) : List (List Int) := o.filterMap (fun i => ls[i]?)
noncomputable def coreG (ls : List (List Int)) : Nat → List Nat
  | 0 => []
  | k + 1 => if satB (pickL ls (coreG ls k) ++ ls.drop (k + 1)) then coreG ls k ++ [k] else coreG ls k
end Dg

namespace Go.Proofs.Ytkgllhkhdjodeaa
open Go Go.Eng Go.Proofs Dg
structure BehG where
  Bs : List DV
  sa : Option Addr
  sc : Nat
  Fb : List Nat
structure BehI (ls : List (List Int)) (k : Nat) (y : BehG) : Prop where
  len : y.Bs.length = k + 1
  le : k ≤ ls.length
  ev : ∀ (j : Nat) (x : DV), y.Bs[j]? = some x → ∀ cf, x.1.ev cf = (ls.drop (ls.length - j)).all (fun k => clauseB k cf)
abbrev behJ (b8 : Nat) (y : BehG) : List Chunk := [pt b8 [.slice y.sa y.Bs.length y.sc] 88, rowc (.slice y.sa y.Bs.length y.sc) y.Bs.length 27 2 (dcs y.Bs), dsC y.Fb y.Bs]
abbrev behF (b8 : Nat) (y : BehG) : List Nat := [b8] ++ (ob (.slice y.sa y.Bs.length y.sc) ++ (y.Fb ++ []))
structure CoreS where
  i : Nat
  t : BT
  ad : Option Addr
  ac : Nat
  oa : Option Addr
  oc : Nat
noncomputable def coreR (ls : List (List Int)) : List Nat := if satB ls then [] else coreG ls ls.length
noncomputable def coreE (ls : List (List Int)) : Int := if satB ls then 8 else 0
end Go.Proofs.Ytkgllhkhdjodeaa

/-! The core, as the document finds it. -/
namespace Go.Proofs.Ytkgllhkhdjodeaa
open Go Go.Eng Go.Proofs Dg
noncomputable def leftL (ls : List (List Int)) (i : Nat) : List Nat := coreG ls i ++ List.range' i (ls.length - i)
abbrev hdrs (us : List Value) (o : List Nat) : List Value := o.map (fun j => us.getD j undef)
end Go.Proofs.Ytkgllhkhdjodeaa

namespace Go.Proofs.Ytkgllhkhdjodeaa
open Go Go.Eng Go.Proofs Dg
structure RcS where
  k : Nat
  oa : Option Addr
  oc : Nat
  ca : Option Addr
  cc : Nat
structure LfS where
  i : Nat
  a : Option Addr
  c : Nat

end Go.Proofs.Ytkgllhkhdjodeaa

namespace Go.Proofs.Ytkgllhkhdjodeaa
open Go Go.Eng Go.Proofs Dg
abbrev zs (o : List Nat) : List Int := o.map (fun i : Nat => (i : Int))
end Go.Proofs.Ytkgllhkhdjodeaa

/-! A core without one of its clauses. -/
namespace Go.Proofs.Ytkgllhkhdjodeaa
open Go Go.Eng Go.Proofs Dg
def exO (cr : List Nat) (o : Nat) : Option Nat := if o = 0 then none else cr[o - 1]?
def othO (cr : List Nat) (o k : Nat) : List Nat := (cr.take k).filter (fun j => some j != exO cr o)
end Go.Proofs.Ytkgllhkhdjodeaa

namespace Go.Proofs.Ytkgllhkhdjodeaa
open Go Go.Eng Go.Proofs Dg
structure MinS where
  k : Nat
  ca : Option Addr
  cc : Nat

end Go.Proofs.Ytkgllhkhdjodeaa

/-! All configurations of a set, in their order. -/
namespace Dg
def varsLt (n : Nat) : BT → Prop
  | .lf _ => True
  | .nd v l h => v < n ∧ varsLt n l ∧ varsLt n h
def indep (n : Nat) (f : Cf → Bool) : Prop := ∀ c d : Cf, (∀ j, j < n → c j = d j) → f c = f d
theorem vars_of_indep {n : Nat} : ∀ {t : BT} {m : Nat}, t.ok m → indep n t.ev → varsLt n t
  | .lf _, _, _, _ => trivial
  | .nd v l h, m, ho, hi => by
    obtain ⟨h1, h2, h3, h4, h5⟩ := ho
    have hl : ∀ c, l.ev c = (BT.nd v l h).ev (upd c v false) := fun c => (BT.ev_lo (m := m) ⟨h1, h2, h3, h4, h5⟩ c).symm
    have hh : ∀ c, h.ev c = (BT.nd v l h).ev (upd c v true) := fun c => (BT.ev_hi (m := m) ⟨h1, h2, h3, h4, h5⟩ c).symm
    have hup : ∀ (b : Bool) (c d : Cf), (∀ j, j < n → c j = d j) → ∀ j, j < n → upd c v b j = upd d v b j := fun b c d he j hj => by
      unfold upd; split
      · rfl
      · exact he j hj
    refine ⟨?_, vars_of_indep h4 (fun c d he => by rw [hl, hl]; exact hi _ _ (hup false c d he)), vars_of_indep h5 (fun c d he => by rw [hh, hh]; exact hi _ _ (hup true c d he))⟩
    rcases Nat.lt_or_ge v n with hv | hv
    · exact hv
    · exfalso
      refine h3 (BT.unique h4 h5 fun c => ?_)
      rw [hl, hh]
      exact hi _ _ fun j hj => by rw [upd_ne c false (by omega), upd_ne c true (by omega)]
theorem visitT_vars {n : Nat} : ∀ (t : BT) (out : List Dec), varsLt n t → (∀ x ∈ out, x.1 < n) → ∀ x ∈ (visitT t out).1, x.1 < n
  | .lf b, out, _, h => by simpa [visitT] using h
  | .nd v lo hi, out, hv, h => by
    unfold visitT
    cases look out (.nd v lo hi) with
    | some p => exact h
    | none =>
      have h1 := visitT_vars lo out hv.2.1 h
      have h2 := visitT_vars hi _ hv.2.2 h1
      intro x hx
      rcases List.mem_append.1 hx with hx | hx
      · exact h2 x hx
      · rw [List.mem_singleton.1 hx]; exact hv.1
theorem sup_fold {n : Nat} : ∀ (l : List Dec) (s : Nat), (∀ x ∈ l, x.1 < n) → s < 2 ^ n → l.foldl (fun s x => s ||| 2 ^ x.1) s < 2 ^ n
  | [], s, _, h => h
  | x :: l, s, hx, h => sup_fold l _ (fun y hy => hx y (List.mem_cons_of_mem _ hy)) (Nat.or_lt_two_pow h (Nat.pow_lt_pow_right (by decide) (hx x (List.mem_cons_self ..))))
theorem supT_lt {n : Nat} {t : BT} (ho : t.ok 0) (hi : indep n t.ev) : supT (canon t).1 < 2 ^ n :=
  sup_fold _ _ (visitT_vars t [] (vars_of_indep ho hi) (fun x hx => by cases hx)) (Nat.two_pow_pos n)
theorem supT_take {l : List Dec} {k : Nat} {x : Dec} (h : l[k]? = some x) : supT (l.take (k + 1)) = supT (l.take k) ||| 2 ^ x.1 := by
  unfold supT
  rw [List.take_add_one, h]
  simp
def midC (k i : Nat) (c : Cf) : Cf := fun j => if k ≤ j ∧ j < i then false else c j
theorem midC_self (k : Nat) (c : Cf) : midC k k c = c := by
  funext j; unfold midC; rw [if_neg (by omega)]
theorem midC_step {k i : Nat} (h : k ≤ i) (c : Cf) : midC k i (updI c i false) = midC k (i + 1) c := by
  funext j
  unfold midC updI
  by_cases hj : j = i
  · subst hj
    rw [if_neg (by omega), if_pos (by simp), if_pos (by omega)]
  · by_cases h1 : k ≤ j ∧ j < i
    · rw [if_pos h1, if_pos (by omega)]
    · rw [if_neg h1, if_neg (by omega), if_neg (by omega)]
open Classical in
noncomputable def emptyB (p : Cf → Bool) : Bool := decide (∀ c, p c = false)
theorem emptyB_canon {t : BT} (h : t.ok 0) {p : Cf → Bool} (hp : ∀ c, t.ev c = p c) : ((canon t).2 == 0) = emptyB p := by
  rw [Bool.eq_iff_iff, emptyT h]
  unfold emptyB
  simp [hp]
noncomputable def allS : Nat → (Cf → Bool) → Nat → List Nat
  | 0, p, c => if emptyB p then [] else [c]
  | i + 1, p, c => if emptyB p then [] else allS i (fun cf => p (updI cf i false)) c ++ allS i (fun cf => p (updI cf i true)) (c ||| 2 ^ i)
theorem indep_updI {i : Nat} {p : Cf → Bool} (h : indep (i + 1) p) (b : Bool) : indep i (fun cf => p (updI cf i b)) := fun c d he => h _ _ fun j hj => by
  unfold updI
  by_cases e : (j : Int) = (i : Int)
  · rw [if_pos e, if_pos e]
  · rw [if_neg e, if_neg e]; exact he j (by omega)
theorem or_low {i M : Nat} (h : M < 2 ^ i) : 2 ^ i ||| M = 2 ^ i + M := by
  have e := Nat.two_pow_add_eq_or_of_lt h 1
  rw [Nat.mul_one] at e
  exact e.symm
theorem allS_eq : ∀ (i : Nat) (p : Cf → Bool) (c : Nat), indep i p → allS i p c = ((List.range (2 ^ i)).filter (fun M => p (cfg M))).map (fun M => c ||| M)
  | 0, p, c, h => by
    unfold allS
    have hp : ∀ d, p d = p (cfg 0) := fun d => h _ _ fun j hj => absurd hj (Nat.not_lt_zero _)
    cases he : p (cfg 0) with
    | false =>
      have : emptyB p = true := by unfold emptyB; simp; intro d; rw [hp, he]
      rw [if_pos this]; simp [he]
    | true =>
      have : emptyB p = false := by unfold emptyB; simp; exact ⟨cfg 0, he⟩
      rw [this]; simp [he]
  | i + 1, p, c, h => by
    unfold allS
    cases hE : emptyB p with
    | true =>
      have hf : ∀ d, p d = false := by unfold emptyB at hE; simpa using hE
      simp [hf]
    | false =>
      have f1 : ∀ M, M < 2 ^ i → p (updI (cfg M) i false) = p (cfg M) := fun M hM => by
        refine h _ _ fun j hj => ?_
        unfold updI
        by_cases e : (j : Int) = (i : Int)
        · rw [if_pos e]
          have e' : j = i := by omega
          subst e'
          exact (Nat.testBit_lt_two_pow hM).symm
        · rw [if_neg e]
      have f2 : ∀ M, M < 2 ^ i → p (updI (cfg M) i true) = p (cfg (2 ^ i + M)) := fun M hM => by
        refine h _ _ fun j hj => ?_
        unfold updI cfg
        by_cases e : (j : Int) = (i : Int)
        · rw [if_pos e]
          have e' : j = i := by omega
          subst e'
          rw [Nat.testBit_two_pow_add_eq, Nat.testBit_lt_two_pow hM]; rfl
        · rw [if_neg e, Nat.testBit_two_pow_add_gt (by omega)]
      rw [if_neg (by simp), allS_eq i _ c (indep_updI h false), allS_eq i _ (c ||| 2 ^ i) (indep_updI h true), Nat.pow_succ, Nat.mul_two, List.range_add, List.filter_append, List.map_append, List.filter_map, List.map_map]
      congr 1
      · congr 1
        exact List.filter_congr fun M hM => f1 M (List.mem_range.1 hM)
      · have e1 : (List.range (2 ^ i)).filter (fun M => p (updI (cfg M) i true)) = (List.range (2 ^ i)).filter ((fun M => p (cfg M)) ∘ fun M => 2 ^ i + M) := List.filter_congr fun M hM => f2 M (List.mem_range.1 hM)
        rw [e1]
        refine List.map_congr_left fun M hM => ?_
        have := List.mem_range.1 (List.mem_filter.1 hM).1
        simp only [Function.comp]
        rw [Nat.or_assoc, or_low this]
end Dg
namespace Go.Proofs.Ytkgllhkhdjodeaa
open Go Go.Eng Go.Proofs Dg
theorem indep_ls {ls : List (List Int)} {n : Nat} (h : ∀ c ∈ ls, ∀ x ∈ c, x ≠ 0 ∧ x.natAbs ≤ n) : indep n (fun cf => ls.all (fun k => clauseB k cf)) := fun c d he => by
  have key : ∀ k ∈ ls, clauseB k c = clauseB k d := fun k hk => by
    unfold clauseB
    rw [Bool.eq_iff_iff, List.any_eq_true, List.any_eq_true]
    have kk : ∀ x ∈ k, litC c x = litC d x := fun x hx => by
      have := h k hk x hx
      unfold litC
      by_cases h0 : 0 < x
      · rw [if_pos h0, if_pos h0, he _ (by omega)]
      · rw [if_neg h0, if_neg h0, he _ (by omega)]
    exact ⟨fun ⟨x, hx, hl⟩ => ⟨x, hx, by rw [← kk x hx]; exact hl⟩, fun ⟨x, hx, hl⟩ => ⟨x, hx, by rw [kk x hx]; exact hl⟩⟩
  dsimp only
  rw [Bool.eq_iff_iff, List.all_eq_true, List.all_eq_true]
  exact ⟨fun g k hk => by rw [← key k hk]; exact g k hk, fun g k hk => by rw [key k hk]; exact g k hk⟩
theorem allS_models {ls : List (List Int)} {n : Nat} (h : ∀ c ∈ ls, ∀ x ∈ c, x ≠ 0 ∧ x.natAbs ≤ n) : allS n (fun cf => ls.all (fun k => clauseB k (midC n 24 cf))) 0 = modelsL n ls := by
  have hi := indep_ls h
  have e : (fun cf => ls.all (fun k => clauseB k (midC n 24 cf))) = (fun cf => ls.all (fun k => clauseB k cf)) := by
    funext cf
    exact hi _ _ fun j hj => by unfold midC; rw [if_neg (by omega)]
  rw [e, allS_eq n _ 0 hi]
  unfold modelsL
  have e2 : (List.range (2 ^ n)).filter (fun M => ls.all (fun k => clauseB k (cfg M))) = (List.range (2 ^ n)).filter (holdsB ls) := List.filter_congr fun M _ => (holds_cf ls M).symm
  rw [e2]
  simp
theorem allS_false (i : Nat) (p : Cf → Bool) (h : ∀ c, p c = false) : ∀ c, allS i p c = [] := fun c => by
  have : emptyB p = true := by unfold emptyB; simpa using h
  cases i <;> (unfold allS; rw [if_pos this])
end Go.Proofs.Ytkgllhkhdjodeaa

namespace Go.Proofs.Ytkgllhkhdjodeaa
open Go Go.Eng Go.Proofs Dg
theorem WL.maxI {P : Program} {w0 : World} {O : List Nat} {ops : Array Oper} {Q : Exit → Act → World → Prop} {N : Nat} {D : List Deferred} {L : FL} {C : List Chunk} {K : Act → World → Prop} {d : Nat} {ty : TypeId} {pos : String} {af : Array Edge} {x y : Operand} {k k' : IntKind} {m n r : Int} {ts : Array TypeId} (hd : Nat.blt d N = true) (hx : ev L x = some (.int k m)) (hy : ev L y = some (.int k' n)) (hr : (if m < n then n else m) = r)
    (h : WA w0 O K N D ((d, .int k r) :: L) C) :
    WK P w0 O ops Q ⟨some d, .call { callee := .builtin .max, args := #[x, y], argTypes := ts }, ty, pos, af, none⟩ K N D L C :=
  WL.y (F := fun _ => True) (fun a w hF _ => by
    subst hr
    simp [execOp, resolve, invoke, builtin, hF.ev hx, hF.ev hy, Builtin.max_, Builtin.max2]) hd (fun _ _ => trivial) h
theorem St.trans1 {wL w0 w : World} {F0 G : List Nat} {c c' : Chunk} (h : St wL F0 [c] w0) (hG : FpIs c G) (h' : St w0 G [c'] w) : St wL F0 [c'] w :=
  (show St wL F0 ([c] ++ []) w0 from h).callC h' (fun k hk => ⟨c, List.mem_singleton.2 rfl, (hG k).2 hk⟩)
theorem rdO_own {w0 w : World} {O : List Nat} {Cs C1 : List Chunk} {G : List Nat} {t : BT} {a : Option Addr} {c : Nat} (hS : St w0 O (Cs ++ C1) w) (hG : FpL Cs G) (hm : dC a c t ∈ C1) : RdDecO w (canon t).1 a G := fun j u hu => by
  have hok : (dC a c t).ok w := hS.ok _ (List.mem_append_right _ hm)
  have hpos : 0 < (canon t).1.length := by
    have h1 := (List.getElem?_eq_some_iff.1 hu).1
    rw [decs_len] at h1; omega
  obtain ⟨g, hg, _, _⟩ := rowc_addr hok hpos
  subst hg
  exact ⟨g, 0, rfl, by rw [Nat.zero_add]; exact rowc_cells hok hu, St.off hS hG hm (k := g) rfl⟩
theorem one_fp {σ : Type} {ch : σ → Chunk} {Fs : σ → List Nat} (hch : ∀ y, FpIs (ch y) (Fs y)) (y : σ) : FpL [ch y] (Fs y) := by
  have h := FpL.cons (hch y) FpL.nil
  simpa using h

set_option maxRecDepth 100000 in
theorem walk_c {σ : Type} (ch : σ → Chunk) (Fs : σ → List Nat) (hch : ∀ y, FpIs (ch y) (Fs y)) (I : Nat → σ → Prop) (l : Nat) (xs : List Nat) (wL : World) (F0 : List Nat)
    (hround : ∀ k y w1, k < xs.length → I k y → St wL F0 [ch y] w1 → YieldAt Fence.wide 0 Try.prog l [Value.int .u32 (xs.getD k 0 : Int)].toArray w1 fun e w' => e = .returned (.bool true) ∧ ∃ y', I (k + 1) y' ∧ St w1 (Fs y) [ch y'] w') :
    ∀ (n i : Nat), i < n → ∀ (t : BT) (a : Option Addr) (c : Nat) (p : Cf → Bool) (pre k : Nat) (y : σ) (w : World), t.ok 0 → RdDecO w (canon t).1 a (Fs y) → (∀ cf, t.ev cf = p cf) → i ≤ 24 → pre < 16777216 → (∀ j v, (allS i p pre)[j]? = some v → xs[k + j]? = some v) → I k y → St wL F0 [ch y] w → St w (Fs y) [ch y] w →
    Calls Try.prog 79 [dval t a c, .int .i64 ((i : Int) - 1), .int .u32 (pre : Int), Value.func (.yield l) #[] #[]].toArray w fun e w' => e = .returned (.bool true) ∧ ∃ y', I (k + (allS i p pre).length) y' ∧ St w (Fs y) [ch y'] w' := by
  intro n
  induction n with
  | zero => intro i hi; omega
  | succ n hrec =>
  intro i hin t a c p pre k y w ht hO hev hi24 hpre hseg hI hL hS0
  refine enter Try.func79 rfl Try.ntmps79 rfl (C := [ch y]) hS0 ?_
  refine WC.seq ?_
  refine WC.region ?_
  refine WL.step ?_
  refine WL.boxN rfl rfl (fun b4 => ?_)
  refine WL.step ?_
  refine WL.assign rfl rfl ?_
  refine WL.nil ?_
  refine WQ.then_normal ?_
  refine WC.seq ?_
  refine WC.block ?_
  refine WC.seq ?_
  refine WC.region ?_
  refine WL.step ?_
  refine WL.loadW F.agg27 rfl rfl (by repeat (first | exact List.Mem.head _ | apply List.Mem.tail)) rfl ?_
  refine WL.step ?_
  refine WL.callV F.fun18 rfl rfl (fun w hS => Empty_c t a c w) ?_
  refine WL.step ?_
  refine WL.assign rfl rfl ?_
  refine WL.nil ?_
  refine WQ.then_normal ?_
  refine WC.cond rfl (fun h9 => ?_) (fun h9 => ?_)
  · skip
    have he : emptyB p = true := by (rw [← emptyB_canon ht hev]; exact h9)
    have hnil : allS i p pre = [] := by (cases i <;> (unfold allS; rw [if_pos he]))
    refine WC.seq ?_
    refine WC.region ?_
    refine WL.step ?_
    refine WL.assign rfl rfl ?_
    refine WL.nil ?_
    refine WQ.then_normal ?_
    refine WC.ret ?_
    refine WQ.block_ret ?_
    refine WQ.then_ret ?_
    exact WQ.ret (rs := [.tmp 8]) rfl (.tmp rfl .nil) (fun w hS => ⟨rfl, y, by rw [hnil]; exact hI, ((St.pick hS (c := ch y) (by repeat (first | exact Rem.here | apply Rem.there)))).sublist (List.Sublist.cons_cons _ (List.nil_sublist _))⟩)
  · skip
    have he : emptyB p = false := by (rw [← emptyB_canon ht hev]; exact h9)
    refine WC.seq ?_
    refine WC.region ?_
    refine WL.step ?_
    refine WL.move rfl rfl ?_
    refine WL.step ?_
    refine WL.ltI rfl rfl rfl ?_
    refine WL.step ?_
    refine WL.assign rfl rfl ?_
    refine WL.nil ?_
    refine WQ.then_normal ?_
    refine WC.cond rfl (fun h12 => ?_) (fun h12 => ?_)
    · skip
      have hi0 : i = 0 := by simp at h12; omega
      subst hi0
      have hone : allS 0 p pre = [pre] := by (unfold allS; rw [he]; rfl)
      rw [hone] at hseg ⊢
      have hxk := hseg 0 pre rfl
      rw [Nat.add_zero] at hxk
      have hkx := (List.getElem?_eq_some_iff.1 hxk).1
      have hgd : xs.getD k 0 = pre := by rw [List.getD_eq_getElem?_getD, hxk]; rfl
      refine WC.seq ?_
      refine WC.regionIn ?_
      refine WIL.step (fun ⟨_, _, h, _⟩ => by cases h) rfl ?_
      refine WL.move rfl rfl ?_
      refine WIL.step (fun ⟨_, _, h, _⟩ => by cases h) rfl ?_
      refine WL.move rfl rfl ?_
      refine WA.chunks (C' := [ch y, pt b4 [.slice a (canon t).1.length c, .int .i64 ((canon t).2 : Int)] 27]) (fun w hS => ((St.pick (St.pick hS (c := pt b4 [.slice a (canon t).1.length c, .int .i64 ((canon t).2 : Int)] 27) (by repeat (first | exact Rem.here | apply Rem.there))) (c := ch y) (by repeat (first | exact Rem.here | apply Rem.there)))).sublist (List.Sublist.cons_cons _ (List.Sublist.cons_cons _ (List.nil_sublist _)))) ?_
      refine WIL.yield (β := σ) (b := true) (vs := [.int .u32 (pre : Int)]) (cs := fun z => [ch z]) (Cs := [ch y]) (C1 := [pt b4 [.slice a (canon t).1.length c, .int .i64 ((canon t).2 : Int)] 27]) (O' := Fs y) (φ := I (k + 1)) (by rfl) rfl rfl (List.Perm.refl _) (fun c hc j hj => (by rw [List.mem_singleton.1 hc] at hj; exact (hch y j).1 hj)) (fun j hj => ⟨_, List.mem_singleton.2 rfl, (hch y j).2 hj⟩) (fun w hS hS2 => ?_) (fun y2 hI2 => ?_)
      · have h7 := hround k y w hkx hI (St.trans1 hL (hch y) (((St.pick hS (c := ch y) (by repeat (first | exact Rem.here | apply Rem.there)))).sublist (List.Sublist.cons_cons _ (List.nil_sublist _))))
        rw [hgd] at h7
        exact h7
      refine WIL.step (fun ⟨_, _, h, _⟩ => by cases h) rfl ?_
      refine WL.assign rfl rfl ?_
      refine WIL.nil ?_
      refine WQ.then_normal ?_
      refine WC.ret ?_
      refine WQ.block_ret ?_
      refine WQ.then_ret ?_
      exact WQ.ret (rs := [.tmp 8]) rfl (.tmp rfl .nil) (fun w hS => ⟨rfl, y2, hI2, ((St.pick hS (c := ch y2) (by repeat (first | exact Rem.here | apply Rem.there)))).sublist (List.Sublist.cons_cons _ (List.nil_sublist _))⟩)
    · skip
      obtain ⟨i, rfl⟩ : ∃ j, i = j + 1 := ⟨i - 1, by simp at h12; omega⟩
      have hcat : allS (i + 1) p pre = allS i (fun cf => p (updI cf i false)) pre ++ allS i (fun cf => p (updI cf i true)) (pre ||| 2 ^ i) := by (conv => lhs; unfold allS); rw [he]; rfl
      rw [hcat] at hseg ⊢
      have hp32 : 2 ^ i < 2 ^ 24 := Nat.pow_lt_pow_right (by decide) (by omega)
      have hor : pre ||| 2 ^ i < 2 ^ 24 := Nat.or_lt_two_pow (by omega) (by omega)
      have hdec : ((i + 1 : Nat) : Int) - 1 = (i : Int) := by omega
      rw [hdec]
      refine WC.skip ?_
      refine WQ.block_normal ?_
      refine WQ.then_normal ?_
      refine WC.seq ?_
      refine WC.drawsL (by kernel_rfl) (FactsOk.cons (ds := [2, 7, 11, 19]) (LoadOk.whole (t := 4) rfl (by repeat (first | exact List.Mem.head _ | apply List.Mem.tail))) (FactsOk.cons (ds := [11, 19]) (LoadOk.whole (t := 4) rfl (by repeat (first | exact List.Mem.head _ | apply List.Mem.tail))) (FactsOk.nil))) ?_
      refine WD.take (i := 0) rfl rfl rfl rfl (by kernel_rfl) (by kernel_rfl) (by kernel_rfl) (fun _ _ _ h => h) (by kernel_rfl) (need_at 0 22 rfl (by kernel_rfl)) (Yl.loadN F.agg27 rfl rfl) ?_
      refine WD.take (i := 1) rfl rfl rfl rfl (by kernel_rfl) (by kernel_rfl) (by kernel_rfl) (fun _ _ _ h => h) (by kernel_rfl) need_none (Yl.move rfl) ?_
      refine WD.take (i := 3) rfl rfl rfl rfl (by kernel_rfl) (by kernel_rfl) (by kernel_rfl) (fun _ _ _ h => h) (by kernel_rfl) need_none (Yl.move rfl) ?_
      refine WD.take (i := 4) rfl rfl rfl rfl (by kernel_rfl) (by kernel_rfl) (by kernel_rfl) (fun _ _ _ h => h) (by kernel_rfl) need_none (Yl.sub rfl rfl ⟨by omega, by omega⟩) ?_
      refine WD.take (i := 5) rfl rfl rfl rfl (by kernel_rfl) (by kernel_rfl) (by kernel_rfl) (fun _ _ _ h => h) (by kernel_rfl) need_none (Yl.move rfl) ?_
      refine WD.take (i := 6) rfl rfl rfl rfl (by kernel_rfl) (by kernel_rfl) (by kernel_rfl) (fun _ _ _ h => h) (by kernel_rfl) need_none (Yl.move rfl) ?_
      refine WD.one (i := 2) (by kernel_rfl) rfl ?_
      refine WL.call0 (β := DRes (fun cf => t.ev (updI cf (i : Int) false))) (res := fun z => .returned z.v) (cs := fun z => [z.ch]) (ψ := fun _ => True) F.fun77 (fun d h => by cases h; rfl) rfl (fun w hS => (With_c t a c (i : Int) false w ⟨ht, hO.now hS⟩).mono (fun e w2 ⟨x, h1, h2⟩ => ⟨x, trivial, h1, h2⟩)) (fun z20 _ => ?_)
      refine WD.on (closed_of (by kernel_rfl)) (fun w hS => Sx.gone rfl (Sx.keep ((fun j v hv => by rw [Nat.zero_add]; exact hS.cell (by repeat (first | exact List.Mem.head _ | apply List.Mem.tail)) hv)) (Sx.none))) ?_
      refine WD.one (i := 7) (by kernel_rfl) rfl ?_
      refine WL.callC (β := { z : σ // I (k + (allS i (fun cf => p (updI cf i false)) pre).length) z }) (res := fun _ => .bool true) (cs := fun z => [ch z.1]) (Cs := [ch y]) (C1 := [z20.ch, pt b4 [.slice a (canon t).1.length c, .int .i64 ((canon t).2 : Int)] 27]) (O' := Fs y) F.fun79 (fun d h => by cases h; rfl) rfl (List.perm_append_comm (l₁ := [_, _]) (l₂ := [_])) (fun c hc j hj => (by rw [List.mem_singleton.1 hc] at hj; exact (hch y j).1 hj)) (fun j hj => ⟨_, List.mem_singleton.2 rfl, (hch y j).2 hj⟩) (fun w hS hS2 => (hrec i (by omega) z20.1.1 z20.1.2.1 z20.1.2.2 (fun cf => p (updI cf i false)) pre k y w z20.2.1 (rdO_own (c := z20.1.2.2) hS (one_fp hch y) (List.mem_cons_self ..)) (fun cf => by rw [z20.2.2]; dsimp only; rw [hev]) (by omega) (by omega) (fun j v hv => hseg j v (by rw [List.getElem?_append_left (List.getElem?_eq_some_iff.1 hv).1]; exact hv)) hI (St.trans1 hL (hch y) (((St.pick hS (c := ch y) (by repeat (first | exact Rem.here | apply Rem.there)))).sublist (List.Sublist.cons_cons _ (List.nil_sublist _)))) hS2).mono (fun e w2 ⟨h1, y9, h2, h3⟩ => ⟨⟨y9, h2⟩, h1, h3⟩)) (fun ⟨y25, hI25⟩ => ?_)
      refine WD.on (closed_of (by kernel_rfl)) (fun w hS => Sx.gone rfl (Sx.keep ((fun j v hv => by rw [Nat.zero_add]; exact hS.cell (by repeat (first | exact List.Mem.head _ | apply List.Mem.tail)) hv)) (Sx.none))) ?_
      refine WD.take (i := 8) rfl rfl rfl rfl (by kernel_rfl) (by kernel_rfl) (by kernel_rfl) (fun _ _ _ h => h) (by kernel_rfl) need_none (Yl.move rfl) ?_
      refine fun hcl => WA.splitB (i := 26) rfl (fun g26 => ?_) (fun g26 => ?_)
      · skip
        refine (show WD _ _ _ _ _ _ _ _ _ _ _ _ from ?_) hcl
        refine WD.takeG (i := 9) rfl rfl rfl rfl rfl rfl (by kernel_rfl) (by kernel_rfl) (by kernel_rfl) (fun _ _ _ h => h) (by kernel_rfl) (need_at 1 22 rfl (by kernel_rfl)) (Yl.loadN F.agg27 rfl rfl) ?_
        refine WD.takeG (i := 10) rfl rfl rfl rfl rfl rfl (by kernel_rfl) (by kernel_rfl) (by kernel_rfl) (fun _ _ _ h => h) (by kernel_rfl) need_none (Yl.move rfl) ?_
        refine WD.takeG (i := 12) rfl rfl rfl rfl rfl rfl (by kernel_rfl) (by kernel_rfl) (by kernel_rfl) (fun _ _ _ h => h) (by kernel_rfl) need_none (Yl.move rfl) ?_
        refine WD.takeG (i := 13) rfl rfl rfl rfl rfl rfl (by kernel_rfl) (by kernel_rfl) (by kernel_rfl) (fun _ _ _ h => h) (by kernel_rfl) need_none (Yl.sub rfl rfl ⟨by omega, by omega⟩) ?_
        refine WD.takeG (i := 14) rfl rfl rfl rfl rfl rfl (by kernel_rfl) (by kernel_rfl) (by kernel_rfl) (fun _ _ _ h => h) (by kernel_rfl) need_none (Yl.move rfl) ?_
        refine WD.takeG (i := 15) rfl rfl rfl rfl rfl rfl (by kernel_rfl) (by kernel_rfl) (by kernel_rfl) (fun _ _ _ h => h) (by kernel_rfl) need_none (Yl.move rfl) ?_
        refine WD.takeG (i := 16) rfl rfl rfl rfl rfl rfl (by kernel_rfl) (by kernel_rfl) (by kernel_rfl) (fun _ _ _ h => h) (by kernel_rfl) need_none (Yl.bin rfl rfl (fun w => run_shl1 (by omega) _ _ _ w)) ?_
        refine WD.takeG (i := 17) rfl rfl rfl rfl rfl rfl (by kernel_rfl) (by kernel_rfl) (by kernel_rfl) (fun _ _ _ h => h) (by kernel_rfl) need_none (Yl.bin rfl rfl (fun w => run_or (by omega) (by omega) _ _ _ w)) ?_
        refine WD.takeG (i := 18) rfl rfl rfl rfl rfl rfl (by kernel_rfl) (by kernel_rfl) (by kernel_rfl) (fun _ _ _ h => h) (by kernel_rfl) need_none (Yl.move rfl) ?_
        refine WD.one (i := 11) (by kernel_rfl) rfl ?_
        refine WL.guardT rfl rfl rfl ?_
        refine WL.call0 (β := DRes (fun cf => t.ev (updI cf (i : Int) true))) (res := fun z => .returned z.v) (cs := fun z => [z.ch]) (ψ := fun _ => True) F.fun77 (fun d h => by cases h; rfl) rfl (fun w hS => (With_c t a c (i : Int) true w ⟨ht, hO.now hS⟩).mono (fun e w2 ⟨x, h1, h2⟩ => ⟨x, trivial, h1, h2⟩)) (fun z29 _ => ?_)
        refine WD.on (closed_of (by kernel_rfl)) (fun w hS => Sx.gone rfl (Sx.gone rfl (Sx.none))) ?_
        refine WD.one (i := 19) (by kernel_rfl) rfl ?_
        refine WL.guardT rfl rfl rfl ?_
        refine WL.callC (β := { z : σ // I ((k + (allS i (fun cf => p (updI cf i false)) pre).length) + (allS i (fun cf => p (updI cf i true)) (pre ||| 2 ^ i)).length) z }) (res := fun _ => .bool true) (cs := fun z => [ch z.1]) (Cs := [ch y25]) (C1 := [z29.ch, z20.ch, pt b4 [.slice a (canon t).1.length c, .int .i64 ((canon t).2 : Int)] 27]) (O' := Fs y25) F.fun79 (fun d h => by cases h; rfl) rfl (List.Perm.swap _ _ _ |>.trans (List.Perm.refl _)) (fun c hc j hj => (by rw [List.mem_singleton.1 hc] at hj; exact (hch y25 j).1 hj)) (fun j hj => ⟨_, List.mem_singleton.2 rfl, (hch y25 j).2 hj⟩) (fun w hS hS2 => (hrec i (by omega) z29.1.1 z29.1.2.1 z29.1.2.2 (fun cf => p (updI cf i true)) (pre ||| 2 ^ i) (k + (allS i (fun cf => p (updI cf i false)) pre).length) y25 w z29.2.1 (rdO_own (c := z29.1.2.2) hS (one_fp hch y25) (List.mem_cons_self ..)) (fun cf => by rw [z29.2.2]; dsimp only; rw [hev]) (by omega) (by omega) (fun j v hv => by have h7 := hseg ((allS i (fun cf => p (updI cf i false)) pre).length + j) v (by rw [List.getElem?_append_right (by omega), Nat.add_sub_cancel_left]; exact hv); rwa [← Nat.add_assoc] at h7) hI25 (St.trans1 hL (hch y) (((St.pick hS (c := ch y25) (by repeat (first | exact Rem.here | apply Rem.there)))).sublist (List.Sublist.cons_cons _ (List.nil_sublist _)))) hS2).mono (fun e w2 ⟨h1, y9, h2, h3⟩ => ⟨⟨y9, h2⟩, h1, h3⟩)) (fun ⟨y37, hI37⟩ => ?_)
        refine WD.on (closed_of (by kernel_rfl)) (fun w hS => Sx.gone rfl (Sx.gone rfl (Sx.none))) ?_
        refine WD.take (i := 20) rfl rfl rfl rfl (by kernel_rfl) (by kernel_rfl) (by kernel_rfl) (fun _ _ _ h => h) (by kernel_rfl) need_none (Yl.pickT rfl rfl) ?_
        refine WD.take (i := 21) rfl rfl rfl rfl (by kernel_rfl) (by kernel_rfl) (by kernel_rfl) (fun _ _ _ h => h) (by kernel_rfl) need_none (Yl.assign rfl) ?_
        refine WD.done (by kernel_rfl) ?_
        refine WQ.then_normal ?_
        refine WC.ret ?_
        refine WQ.ret (rs := [.tmp 8]) rfl (.tmp rfl .nil) (fun w hS => ⟨rfl, y37, ?_, ((St.pick hS (c := ch y37) (by repeat (first | exact Rem.here | apply Rem.there)))).sublist (List.Sublist.cons_cons _ (List.nil_sublist _))⟩)
        rw [List.length_append, ← Nat.add_assoc]; exact hI37
      · skip
        refine (show WD _ _ _ _ _ _ _ _ _ _ _ _ from ?_) hcl
        cases g26

end Go.Proofs.Ytkgllhkhdjodeaa

namespace Go.Proofs.Ytkgllhkhdjodeaa
open Go Go.Eng Go.Proofs Dg
theorem RdDecO.cross {w0 w : World} {F : List Nat} {C : List Chunk} {l : List Dec} {a : Option Addr} (h : RdDecO w0 l a F) (hS : St w0 F C w) : RdDecO w l a F := fun j u hu => by
  obtain ⟨b, off, e1, e2, e3⟩ := h j u hu
  exact ⟨b, off, e1, hS.oldc e2 e3, e3⟩

theorem All1_c {σ : Type} (ch : σ → Chunk) (Fs : σ → List Nat) (hch : ∀ y, FpIs (ch y) (Fs y)) (I : Nat → σ → Prop) (l b2 b3 : Nat) (t : BT) (a : Option Addr) (c k : Nat) (hk : k ≤ 24) (p : Cf → Bool) (hev : ∀ cf, t.ev cf = p cf) (y0 : σ) (hI0 : I 0 y0) (w : World)
    (hb2 : ∀ j v, (dvs (t, a, c))[j]? = some v → w.cell? ⟨b2, 0 + j, none⟩ = some v) (hn2 : b2 ∉ Fs y0) (hb3 : w.cell? ⟨b3, 0, none⟩ = some (.int .i64 (k : Int))) (hn3 : b3 ∉ Fs y0) (ht : t.ok 0) (hO : RdDecO w (canon t).1 a (Fs y0))
    (hround : ∀ k1 y w1, k1 < (allS k p 0).length → I k1 y → St w (Fs y0) [ch y] w1 → YieldAt Fence.wide 0 Try.prog l [Value.int .u32 ((allS k p 0).getD k1 0 : Int)].toArray w1 fun e w' => e = .returned (.bool true) ∧ ∃ y', I (k1 + 1) y' ∧ St w1 (Fs y) [ch y'] w') (hS0 : St w (Fs y0) [ch y0] w) :
    Calls Try.prog 78 [Value.func (.yield l) #[] #[], pp b2, pp b3].toArray w fun e w' => ∃ y, (∃ v, e = .returned v) ∧ I (allS k p 0).length y ∧ St w (Fs y0) [ch y] w' := by
  refine enter Try.func78 rfl Try.ntmps78 rfl hS0 ?_
  refine WC.region ?_
  refine WL.step ?_
  refine WL.loadN F.agg27 rfl rfl (vs := dvs (t, a, c)) rfl (fun w hS j v hv => hS.oldc (hb2 j v hv) hn2) ?_
  refine WL.step ?_
  refine WL.load1 F.one3 rfl rfl (v := .int .i64 (k : Int)) (fun w hS => hS.oldc hb3 hn3) ?_
  refine WL.step ?_
  refine WL.sub rfl rfl rfl ⟨by omega, by omega⟩ ?_
  refine WL.step ?_
  refine WL.move rfl rfl ?_
  refine WL.step ?_
  refine WL.callC (β := { z : σ // I (0 + (allS k p 0).length) z }) (res := fun _ => .bool true) (cs := fun z => [ch z.1]) (Cs := [ch y0]) (C1 := []) (O' := Fs y0) F.fun79 (fun d h => by cases h; rfl) rfl (List.Perm.refl _) (fun c hc j hj => (by rw [List.mem_singleton.1 hc] at hj; exact (hch y0 j).1 hj)) (fun j hj => ⟨_, List.mem_singleton.2 rfl, (hch y0 j).2 hj⟩) (fun w hS hS2 => (walk_c ch Fs hch I l (allS k p 0) _ (Fs y0) hround (k + 1) k (Nat.lt_succ_self _) t a c p 0 0 y0 w ht (hO.cross hS) hev hk (by decide) (fun j v hv => by rw [Nat.zero_add]; exact hv) hI0 (by simpa using hS) hS2).mono (fun e w2 ⟨h1, y9, h2, h3⟩ => ⟨⟨y9, h2⟩, h1, h3⟩)) (fun ⟨y9, hI9⟩ => ?_)
  refine WL.nil ?_
  refine WQ.fin (rs := []) rfl .nil (fun w hS => ⟨y9, ⟨_, rfl⟩, by rw [Nat.zero_add] at hI9; exact hI9, hS⟩)

structure AllG where
  i : Nat
  t : BT
  a : Option Addr
  c : Nat
  ck : Chunk
abbrev AllOk (t0 : BT) (a0 : Option Addr) (c0 : Nat) (t : BT) (a : Option Addr) (c : Nat) (ck : Chunk) : Prop := ck = dC a c t ∨ (ck = dsC [] [] ∧ t = t0 ∧ a = a0 ∧ c = c0)
theorem all_rd {t0 t : BT} {a0 a : Option Addr} {c0 c : Nat} {ck : Chunk} (h : AllOk t0 a0 c0 t a c ck) (ht : t.ok 0) {w0 w : World} {C : List Chunk} (h0 : RdD w0 t0 a0) (hS : St w0 [] C w) (hm : ck ∈ C) : RdD w t a := by
  rcases h with rfl | ⟨_, rfl, rfl, rfl⟩
  · exact RdD.of_row ht (hS.ok _ hm)
  · exact h0.next0 hS

theorem All_c (t0 : BT) (a0 : Option Addr) (c0 : Nat) (n : Int) (w : World) (ht : RdD w t0 a0) :
    Calls Try.prog 52 [dval t0 a0 c0, .int .i64 n].toArray w fun e w' => ∃ y : Nat × Nat × AllG, e = .returned (.func (.func 78) [].toArray [pp y.1, pp y.2.1].toArray) ∧ (y.2.2.t.ok 0 ∧ (∀ cf, y.2.2.t.ev cf = t0.ev (midC (min n.toNat 24) 24 cf)) ∧ AllOk t0 a0 c0 y.2.2.t y.2.2.a y.2.2.c y.2.2.ck) ∧ St w [] [pt y.1 (dvs (y.2.2.t, y.2.2.a, y.2.2.c)) 27, pt y.2.1 [.int .i64 ((min n.toNat 24 : Nat) : Int)] 3, y.2.2.ck] w' := by
  refine enter Try.func52 rfl Try.ntmps52 rfl (St.init _) ?_
  refine WC.seq ?_
  refine WC.region ?_
  refine WL.step ?_
  refine WL.boxN rfl rfl (fun b2 => ?_)
  refine WL.step ?_
  refine WL.box1 rfl rfl rfl (fun b3 => ?_)
  refine WL.step ?_
  refine WL.assign rfl rfl ?_
  refine WL.nil ?_
  refine WQ.then_normal ?_
  refine WC.seq ?_
  refine WC.region ?_
  refine WL.step ?_
  refine WL.loadP F.one3 rfl rfl (by repeat (first | exact List.Mem.head _ | apply List.Mem.tail)) rfl ?_
  refine WL.step ?_
  refine WL.maxI (r := (n.toNat : Int)) rfl rfl rfl (by split <;> omega) ?_
  refine WL.step ?_
  refine WL.minI (r := ((min n.toNat 24 : Nat) : Int)) rfl rfl rfl (by split <;> omega) ?_
  refine WL.step ?_
  refine WL.store1 F.one3 rfl rfl rfl (by repeat (first | exact Upd.here | apply Upd.there)) (by repeat constructor) ?_
  refine WL.nil ?_
  refine WQ.then_normal ?_
  refine WC.seq ?_
  refine WC.seq ?_
  refine WC.region ?_
  obtain ⟨k, hkd⟩ : ∃ k, min n.toNat 24 = k := ⟨_, rfl⟩
  rw [hkd]
  have hk24 : k ≤ 24 := by omega
  refine WL.step ?_
  refine WL.loadP F.one3 rfl rfl (by repeat (first | exact List.Mem.head _ | apply List.Mem.tail)) rfl ?_
  refine WL.step ?_
  refine WL.assign rfl rfl ?_
  refine WL.nil ?_
  refine WQ.then_normal ?_
  refine WC.block ?_
  refine WC.chunks (C' := [pt b2 [.slice a0 (canon t0).1.length c0, .int .i64 ((canon t0).2 : Int)] 27, pt b3 [.int .i64 (k : Int)] 3, dsC [] []]) (fun w hS => ((St.pick (St.pick (St.pick (St.dsNil hS) (c := dsC [] []) (by repeat (first | exact Rem.here | apply Rem.there))) (c := pt b3 [.int .i64 (k : Int)] 3) (by repeat (first | exact Rem.here | apply Rem.there))) (c := pt b2 [.slice a0 (canon t0).1.length c0, .int .i64 ((canon t0).2 : Int)] 27) (by repeat (first | exact Rem.here | apply Rem.there)))).sublist (List.Sublist.cons_cons _ (List.Sublist.cons_cons _ (List.Sublist.cons_cons _ (List.nil_sublist _))))) ?_
  refine WC.loop (α := AllG) (fun g => (k ≤ g.i ∧ g.i ≤ 24) ∧ g.t.ok 0 ∧ (∀ cf, g.t.ev cf = t0.ev (midC k g.i cf)) ∧ AllOk t0 a0 c0 g.t g.a g.c g.ck) (fun g => [(2, pp b2), (3, pp b3), (5, .int .i64 (g.i : Int))]) (fun g => [pt b2 [.slice g.a (canon g.t).1.length g.c, .int .i64 ((canon g.t).2 : Int)] 27, pt b3 [.int .i64 (k : Int)] 3, g.ck]) (fun g => 24 - g.i) (⟨k, t0, a0, c0, dsC [] []⟩) ?_ ?_ ?_ ?_
  · exact ⟨⟨Nat.le_refl _, hk24⟩, ht.1, fun cf => by rw [midC_self], .inr ⟨rfl, rfl, rfl, rfl⟩⟩
  · exact ⟨rfl, rfl, rfl, trivial⟩
  · rfl
  rintro ⟨i, t, a, c, ck⟩ ⟨hi, hok, hev, hck⟩
  dsimp only at hi hok hev hck
  show WC _ _ _ _ _ _ _ [(2, pp b2), (3, pp b3), (5, .int .i64 (i : Int))] [pt b2 [.slice a (canon t).1.length c, .int .i64 ((canon t).2 : Int)] 27, pt b3 [.int .i64 (k : Int)] 3, ck]
  refine WC.seq ?_
  refine WC.seq ?_
  refine WC.region ?_
  refine WL.step ?_
  refine WL.move rfl rfl ?_
  refine WL.step ?_
  refine WL.ltI rfl rfl rfl ?_
  refine WL.nil ?_
  refine WQ.then_normal ?_
  refine WC.cond rfl (fun h11 => ?_) (fun h11 => ?_)
  · skip
    have hlt : i < 24 := by simp at h11; omega
    refine WC.skip ?_
    refine WQ.then_normal ?_
    refine WC.seq ?_
    refine WC.block ?_
    refine WC.region ?_
    refine WL.step ?_
    refine WL.loadW F.agg27 rfl rfl (by repeat (first | exact List.Mem.head _ | apply List.Mem.tail)) rfl ?_
    refine WL.step ?_
    refine WL.move rfl rfl ?_
    refine WL.step ?_
    refine WL.call0 (β := DRes (fun cf => t.ev (updI cf (i : Int) false))) (res := fun z => .returned z.v) (cs := fun z => [z.ch]) (ψ := fun _ => True) F.fun77 (fun d h => by cases h; rfl) rfl (fun w hS => (With_c t a c (i : Int) false w (all_rd hck hok ht hS (by repeat (first | exact List.Mem.head _ | apply List.Mem.tail)))).mono (fun e w2 ⟨x, h1, h2⟩ => ⟨x, trivial, h1, h2⟩)) (fun z16 _ => ?_)
    refine WL.step ?_
    refine WL.storeN F.agg27 rfl rfl rfl (by simp [Value.oneCell']) (by repeat (first | exact Upd.here | apply Upd.there)) (by repeat constructor) ?_
    refine WL.nil ?_
    refine WQ.block_normal ?_
    refine WQ.then_normal ?_
    refine WC.region ?_
    refine WL.step ?_
    refine WL.move rfl rfl ?_
    refine WL.step ?_
    refine WL.add rfl rfl rfl ⟨by omega, by omega⟩ ?_
    refine WL.step ?_
    refine WL.assign rfl rfl ?_
    refine WL.nil ?_
    refine WQ.chunks (C' := [pt b2 [.slice z16.1.2.1 (canon z16.1.1).1.length z16.1.2.2, .int .i64 ((canon z16.1.1).2 : Int)] 27, pt b3 [.int .i64 (k : Int)] 3, z16.ch]) (fun w hS => ((St.pick (St.pick (St.pick hS (c := z16.ch) (by repeat (first | exact Rem.here | apply Rem.there))) (c := pt b3 [.int .i64 (k : Int)] 3) (by repeat (first | exact Rem.here | apply Rem.there))) (c := pt b2 [.slice z16.1.2.1 (canon z16.1.1).1.length z16.1.2.2, .int .i64 ((canon z16.1.1).2 : Int)] 27) (by repeat (first | exact Rem.here | apply Rem.there)))).sublist (List.Sublist.cons_cons _ (List.Sublist.cons_cons _ (List.Sublist.cons_cons _ (List.nil_sublist _))))) ?_
    refine WQ.back (⟨i + 1, z16.1.1, z16.1.2.1, z16.1.2.2, z16.ch⟩) ?_ ?_ ?_ ?_
    · exact ⟨by (show k ≤ i + 1 ∧ i + 1 ≤ 24); omega, z16.2.1, fun cf => by (show z16.1.1.ev cf = _; rw [z16.2.2]; dsimp only; rw [hev, midC_step hi.1]), .inl rfl⟩
    · (show 24 - (i + 1) < 24 - i; omega)
    · exact ⟨rfl, rfl, rfl, trivial⟩
    · rfl
  · skip
    have hie : i = 24 := by simp at h11; omega
    subst hie
    refine WC.exit ?_
    refine WQ.then_exit ?_
    refine WQ.then_exit ?_
    refine WQ.block_exit ?_
    refine WQ.then_normal ?_
    refine WC.seq ?_
    refine WC.region ?_
    refine WL.step ?_
    refine WL.makeFunc rfl rfl rfl ?_
    refine WL.step ?_
    refine WL.assign rfl rfl ?_
    refine WL.nil ?_
    refine WQ.then_normal ?_
    refine WC.ret ?_
    exact WQ.ret (rs := [.tmp 4]) rfl (.tmp rfl .nil) (fun w hS => ⟨(b2, b3, ⟨24, t, a, c, ck⟩), rfl, ⟨hok, hev, hck⟩, hS⟩)

end Go.Proofs.Ytkgllhkhdjodeaa

namespace Go.Proofs.Ytkgllhkhdjodeaa
open Go Go.Eng Go.Proofs Dg
structure AllY where
  b2 : Nat
  b3 : Nat
  t : BT
  a : Option Addr
  c : Nat
abbrev allC (m : Nat) (y : AllY) : List Chunk := [pt y.b2 (dvs (y.t, y.a, y.c)) 27, pt y.b3 [.int .i64 (m : Int)] 3, dC y.a y.c y.t]

theorem FModels_c (f : Cf → Bool) (e0 : Int) (n : Int) (ls : List (List Int)) (a : Option Addr) (cap : Nat) (us : List Value) (w : World) (hr : RdLL w ls a us)
    (hconj : ∀ w', RdLL w' ls a us → Calls Try.prog 17 [.int .i64 n, .slice a ls.length cap].toArray w' fun e w2 => ∃ z : DRes f, e = .returned (.tuple #[z.v, .int .i64 e0]) ∧ St w' [] [z.ch] w2) :
    Calls Try.prog 25 [.int .i64 n, .slice a ls.length cap].toArray w fun e w' => ∃ y : AllY, e = .returned (.func (.func 78) [].toArray [pp y.b2, pp y.b3].toArray) ∧ (y.t.ok 0 ∧ ∀ cf, y.t.ev cf = f (midC (min n.toNat 24) 24 cf)) ∧ St w [] (allC (min n.toNat 24) y) w' := by
  refine enter Try.func25 rfl Try.ntmps25 rfl (St.init _) ?_
  refine WC.seq ?_
  refine WC.region ?_
  refine WL.step ?_
  refine WL.assign rfl rfl ?_
  refine WL.nil ?_
  refine WQ.then_normal ?_
  refine WC.seq ?_
  refine WC.region ?_
  refine WL.step ?_
  refine WL.move rfl rfl ?_
  refine WL.step ?_
  refine WL.move rfl rfl ?_
  refine WL.step ?_
  refine WL.call0 (β := DRes f) (res := fun z => .returned (.tuple #[z.v, .int .i64 e0])) (cs := fun z => [z.ch]) (ψ := fun _ => True) F.fun17 (fun d h => by cases h; rfl) rfl (fun w hS => (hconj w (hr.next hS)).mono (fun e w2 ⟨x, h1, h2⟩ => ⟨x, trivial, h1, h2⟩)) (fun z10 _ => ?_)
  refine WL.step ?_
  refine WL.move rfl rfl ?_
  refine WL.step ?_
  refine WL.extract rfl rfl rfl ?_
  refine WL.step ?_
  refine WL.extract rfl rfl rfl ?_
  refine WL.step ?_
  refine WL.alloc F.zero27 rfl (fun b5 => ?_)
  refine WL.step ?_
  refine WL.storeN F.agg27 rfl rfl rfl (by simp [Value.oneCell']) (by repeat (first | exact Upd.here | apply Upd.there)) (by repeat constructor) ?_
  refine WL.step ?_
  refine WL.assign rfl rfl ?_
  refine WL.nil ?_
  refine WQ.then_normal ?_
  refine WC.seq ?_
  refine WC.region ?_
  refine WL.step ?_
  refine WL.loadW F.agg27 rfl rfl (by repeat (first | exact List.Mem.head _ | apply List.Mem.tail)) rfl ?_
  refine WL.step ?_
  refine WL.move rfl rfl ?_
  refine WL.step ?_
  refine WL.call0 (β := Nat × Nat × AllG) (res := fun y => .returned (.func (.func 78) [].toArray [pp y.1, pp y.2.1].toArray)) (cs := fun y => [pt y.1 (dvs (y.2.2.t, y.2.2.a, y.2.2.c)) 27, pt y.2.1 [.int .i64 ((min n.toNat 24 : Nat) : Int)] 3, y.2.2.ck]) (ψ := fun y => y.2.2.t.ok 0 ∧ (∀ cf, y.2.2.t.ev cf = z10.1.1.ev (midC (min n.toNat 24) 24 cf)) ∧ AllOk z10.1.1 z10.1.2.1 z10.1.2.2 y.2.2.t y.2.2.a y.2.2.c y.2.2.ck) F.fun52 (fun d h => by cases h; rfl) rfl (fun w hS => (All_c z10.1.1 z10.1.2.1 z10.1.2.2 n w (z10.rd hS (by repeat (first | exact List.Mem.head _ | apply List.Mem.tail)))).mono (fun e w2 ⟨x, h1, h2, h3⟩ => ⟨x, h2, h1, h3⟩)) (fun ⟨b2, b3, i9, t, a9, c9, ck⟩ hy => ?_)
  obtain ⟨hok, hev, hck⟩ := hy
  dsimp only at hok hev hck ⊢
  refine WA.chunks (C' := [pt b2 (dvs (t, a9, c9)) 27, pt b3 [.int .i64 ((min n.toNat 24 : Nat) : Int)] 3, dC a9 c9 t]) (fun w hS => ?_) ?_
  · rcases hck with rfl | ⟨rfl, rfl, rfl, rfl⟩
    · exact ((St.pick (St.pick (St.pick hS (c := dC a9 c9 t) (by repeat (first | exact Rem.here | apply Rem.there))) (c := pt b3 [.int .i64 ((min n.toNat 24 : Nat) : Int)] 3) (by repeat (first | exact Rem.here | apply Rem.there))) (c := pt b2 (dvs (t, a9, c9)) 27) (by repeat (first | exact Rem.here | apply Rem.there)))).sublist (List.Sublist.cons_cons _ (List.Sublist.cons_cons _ (List.Sublist.cons_cons _ (List.nil_sublist _))))
    · exact ((St.pick (St.pick (St.pick hS (c := z10.ch) (by repeat (first | exact Rem.here | apply Rem.there))) (c := pt b3 [.int .i64 ((min n.toNat 24 : Nat) : Int)] 3) (by repeat (first | exact Rem.here | apply Rem.there))) (c := pt b2 (dvs (z10.1.1, z10.1.2.1, z10.1.2.2)) 27) (by repeat (first | exact Rem.here | apply Rem.there)))).sublist (List.Sublist.cons_cons _ (List.Sublist.cons_cons _ (List.Sublist.cons_cons _ (List.nil_sublist _))))
  refine WL.step ?_
  refine WL.assign rfl rfl ?_
  refine WL.nil ?_
  refine WQ.then_normal ?_
  refine WC.ret ?_
  exact WQ.ret (rs := [.tmp 4]) rfl (.tmp rfl .nil) (fun w hS => ⟨⟨b2, b3, t, a9, c9⟩, rfl, ⟨hok, fun cf => by (show t.ev cf = _; rw [hev, z10.2.2])⟩, hS⟩)

theorem Support_c (t : BT) (a : Option Addr) (c : Nat) (w : World) (ht : RdD w t a) : Pure Try.prog 28 [dval t a c] w (.int .u32 (supT (canon t).1 : Int)) := by
  have hmk := canon_mk ht.1
  have hcl := canon_len ht.1
  refine enter Try.func28 rfl Try.ntmps28 rfl (St.init _) ?_
  refine WC.seq ?_
  refine WC.region ?_
  refine WL.step ?_
  refine WL.boxN rfl rfl (fun b1 => ?_)
  refine WL.step ?_
  refine WL.assign rfl rfl ?_
  refine WL.nil ?_
  refine WQ.then_normal ?_
  refine WC.seq ?_
  refine WC.region ?_
  refine WL.step ?_
  refine WL.assign rfl rfl ?_
  refine WL.nil ?_
  refine WQ.then_normal ?_
  refine WC.seq ?_
  refine WC.seq ?_
  refine WC.region ?_
  refine WL.step ?_
  refine WL.fieldAddr0 F.fld27_0 rfl rfl ?_
  refine WL.step ?_
  refine WL.loadP F.one25 rfl rfl (by repeat (first | exact List.Mem.head _ | apply List.Mem.tail)) rfl ?_
  refine WL.step ?_
  refine WL.lenSl F.und25 rfl rfl ?_
  refine WL.step ?_
  refine WL.move rfl rfl ?_
  refine WL.nil ?_
  refine WQ.then_normal ?_
  refine WC.block ?_
  refine WC.chunks (C' := []) (fun w hS => hS.sublist (List.nil_sublist _)) ?_
  refine WC.loop (α := Nat) (fun i => i ≤ (canon t).1.length) (fun i => [(3, .int .u32 (supT ((canon t).1.take i) : Int)), (7, .slice a (canon t).1.length c), (8, .int .i64 ((canon t).1.length : Int)), (9, .int .i64 (i : Int))]) (fun _ => []) (fun i => (canon t).1.length - i) (0) ?_ ?_ ?_ ?_
  · exact Nat.zero_le _
  · exact ⟨rfl, rfl, rfl, rfl, trivial⟩
  · rfl
  rintro i hi
  show WC _ _ _ _ _ _ _ [(3, .int .u32 (supT ((canon t).1.take i) : Int)), (7, .slice a (canon t).1.length c), (8, .int .i64 ((canon t).1.length : Int)), (9, .int .i64 (i : Int))] []
  refine WC.seq ?_
  refine WC.region ?_
  refine WL.step ?_
  refine WL.ltI rfl rfl rfl ?_
  refine WL.nil ?_
  refine WQ.then_normal ?_
  refine WC.seq ?_
  refine WC.cond rfl (fun h10 => ?_) (fun h10 => ?_)
  · skip
    have hlt : i < (canon t).1.length := by simpa using h10
    obtain ⟨x, hx⟩ : ∃ x, (canon t).1[i]? = some x := ⟨_, List.getElem?_eq_getElem hlt⟩
    have hkb := hmk.kid i x hx
    obtain ⟨bl, off, rfl, hcx⟩ := ht.2.at hx
    have hsl : supT ((canon t).1.take i) < 2 ^ 24 := sup_fold _ _ (fun y hy => (by obtain ⟨j, hj⟩ := List.getElem?_of_mem (List.mem_of_mem_take hy); exact (hmk.kid j y hj).1)) (by decide)
    have hx32 : 2 ^ x.1 < 4294967296 := pow32 (by omega)
    refine WC.skip ?_
    refine WQ.then_normal ?_
    refine WC.seq ?_
    refine WC.block ?_
    refine WC.seq ?_
    refine WC.region ?_
    refine WL.step ?_
    refine WL.indexAddr F.sl25 rfl rfl rfl hlt ?_
    refine WL.step ?_
    refine WL.loadN F.agg63 rfl rfl (vs := [Value.int .i64 (x.1 : Int), .int .i64 (x.2.1 : Int), .int .i64 (x.2.2 : Int)]) rfl (fun w hS j v hv => hS.oldc (hcx j v hv) (by simp)) ?_
    refine WL.step ?_
    refine WL.alloc F.zero63 rfl (fun b5 => ?_)
    refine WL.step ?_
    refine WL.storeN F.agg63 rfl rfl rfl (by simp [Value.oneCell']) (by repeat (first | exact Upd.here | apply Upd.there)) (by repeat constructor) ?_
    refine WL.nil ?_
    refine WQ.then_normal ?_
    refine WC.region ?_
    refine WL.step ?_
    refine WL.move rfl rfl ?_
    refine WL.step ?_
    refine WL.fieldAddr0 F.fld63_0 rfl rfl ?_
    refine WL.step ?_
    refine WL.loadP F.one3 rfl rfl (by repeat (first | exact List.Mem.head _ | apply List.Mem.tail)) rfl ?_
    refine WL.step ?_
    refine WL.bin rfl rfl rfl (fun w => run_shl1 (by omega) _ _ _ w) ?_
    refine WL.step ?_
    refine WL.bin rfl rfl rfl (fun w => run_or (by omega) hx32 _ _ _ w) ?_
    refine WL.step ?_
    refine WL.assign rfl rfl ?_
    refine WL.nil ?_
    refine WQ.block_normal ?_
    refine WQ.then_normal ?_
    refine WC.region ?_
    refine WL.step ?_
    refine WL.add rfl rfl rfl ⟨by omega, by omega⟩ ?_
    refine WL.step ?_
    refine WL.move rfl rfl ?_
    refine WL.nil ?_
    refine WQ.chunks (C' := []) (fun w hS => hS.sublist (List.nil_sublist _)) ?_
    refine WQ.back (i + 1) (by show i + 1 ≤ (canon t).1.length; omega) (by show (canon t).1.length - (i + 1) < (canon t).1.length - i; omega) ?_ rfl
    simp only [supT_take hx]
    exact ⟨rfl, rfl, rfl, rfl, trivial⟩
  · skip
    have hie : i = (canon t).1.length := by simp at h10; omega
    subst hie
    rw [List.take_length]
    refine WC.exit ?_
    refine WQ.then_exit ?_
    refine WQ.then_exit ?_
    refine WQ.block_exit ?_
    refine WQ.then_normal ?_
    refine WC.seq ?_
    refine WC.region ?_
    refine WL.step ?_
    refine WL.move rfl rfl ?_
    refine WL.step ?_
    refine WL.assign rfl rfl ?_
    refine WL.nil ?_
    refine WQ.then_normal ?_
    refine WC.ret ?_
    exact WQ.ret (rs := [.tmp 2]) rfl (.tmp rfl .nil) (fun w hS => ⟨rfl, hS⟩)

end Go.Proofs.Ytkgllhkhdjodeaa

namespace Go.Proofs.Ytkgllhkhdjodeaa
open Go Go.Eng Go.Proofs Dg
structure GotS where
  out : List Nat
  a : Option Addr
  c : Nat
abbrev gotJ (b9 : Nat) (y : GotS) : List Chunk := [pt b9 [.slice y.a y.out.length y.c] 53, rowc (.slice y.a y.out.length y.c) y.out.length 22 1 (u32s y.out)]
abbrev gotF (b9 : Nat) (y : GotS) : List Nat := [b9] ++ (ob (.slice y.a y.out.length y.c) ++ [])
theorem gotFp (b9 : Nat) (y : GotS) : FpL (gotJ b9 y) (gotF b9 y) := .cons FpIs.pt (.cons FpIs.rowc .nil)
theorem rdO_own2 {w0 w : World} {O : List Nat} {Cs C1 : List Chunk} {G : List Nat} {t : BT} {a : Option Addr} {c l : Nat} (hS : St w0 O (Cs ++ C1) w) (hG : FpL Cs G) (hm : dC a c t ∈ C1) (hd : ∀ ch ∈ Cs ++ C1, ∀ k, ch.fp k → k ≠ l) : RdDecO w (canon t).1 a (l :: G) := fun j u hu => by
  have hok : (dC a c t).ok w := hS.ok _ (List.mem_append_right _ hm)
  have hpos : 0 < (canon t).1.length := by
    have h1 := (List.getElem?_eq_some_iff.1 hu).1
    rw [decs_len] at h1; omega
  obtain ⟨g, hg, _, _⟩ := rowc_addr hok hpos
  subst hg
  exact ⟨g, 0, rfl, by rw [Nat.zero_add]; exact rowc_cells hok hu, fun hk => by
    rcases List.mem_cons.1 hk with e | hk
    · exact hd _ (List.mem_append_right _ hm) g rfl e
    · exact St.off hS hG hm (k := g) rfl hk⟩
theorem joins_conj (n : Int) (ls : List (List Int)) : ∃ f : Cf → Bool, (Fm.mayE n ls = 0 → f = fun cf => ls.all (fun k => clauseB k cf)) ∧ (Fm.mayE n ls ≠ 0 → f = fun _ => false) ∧ ∀ (w : World) (a : Option Addr) (cap : Nat) (us : List Value), RdLL w ls a us → Calls Try.prog 17 [.int .i64 n, .slice a ls.length cap].toArray w fun e w2 => ∃ z : DRes f, e = .returned (.tuple #[z.v, .int .i64 (Fm.mayE n ls)]) ∧ St w [] [z.ch] w2 := by
  by_cases hme : Fm.mayE n ls = 0
  · exact ⟨_, fun _ => rfl, fun h => absurd hme h, fun w a cap us h => by rw [hme]; exact Conj_in n ls a cap us hme w h⟩
  · exact ⟨_, fun h => absurd h hme, fun _ => rfl, fun w a cap us h => Conj_out n ls a cap us hme w h⟩
theorem allS_len : ∀ (i : Nat) (p : Cf → Bool) (c : Nat), (allS i p c).length ≤ 2 ^ i
  | 0, p, c => by unfold allS; split <;> simp
  | i + 1, p, c => by
    have h1 := allS_len i (fun cf => p (updI cf i false)) c
    have h2 := allS_len i (fun cf => p (updI cf i true)) (c ||| 2 ^ i)
    unfold allS
    split
    · simp
    · rw [List.length_append, Nat.pow_succ]; omega
theorem u32s_at {l : List Nat} {i v : Nat} (h : l[i]? = some v) : (u32s l)[i]? = some (.int .u32 (v : Int)) := by
  unfold u32s; rw [List.getElem?_map, h]; rfl
theorem conv60 {n : Nat} (hn : n < 9223372036854775808) (w : World) : (convert 3 60 (.int .i64 (n : Int))).run Try.prog w = .ok (.int .u64 (n : Int)) w := conv39 hn w

set_option maxRecDepth 100000 in
theorem FormulaJoins_c (n : Int) (ls : List (List Int)) (a : Option Addr) (cap : Nat) (us : List Value) (w : World) (_hn : -9223372036854775808 ≤ n ∧ n < 9223372036854775808) (hr : RdLL w ls a us) : Pure Try.prog 7 [.int .i64 n, .slice a ls.length cap] w (.bool true) := by
  refine enterM Try.func7 rfl Try.ntmps7 rfl (St.init _) ?_
  refine WC.seq ?_
  refine WC.region ?_
  refine WL.step ?_
  refine WL.assign rfl rfl ?_
  refine WL.nil ?_
  refine WQ.then_normal ?_
  refine WC.seq ?_
  refine WC.seq ?_
  refine WC.cutF [(23, .bool (largeB ls || (decide (8 < n) && decide (n < 25)))), (0, .int .i64 n), (1, .slice a ls.length cap)] (fun Q' hQ => ?_) ?_
  · skip
    refine WC.region ?_
    refine WL.step ?_
    refine WL.move rfl rfl ?_
    refine WL.step ?_
    refine WL.callV F.fun14 rfl rfl (fun w hS => Large_c ls a cap us w (hr.next hS)) ?_
    refine WL.step ?_
    refine WL.move rfl rfl ?_
    refine WA.splitB (i := 16) rfl (fun g16 => ?_) (fun g16 => ?_)
    · skip
      refine WL.step (WL.guardF rfl rfl rfl rfl rfl rfl ?_)
      refine WL.step (WL.guardF rfl rfl rfl rfl rfl rfl ?_)
      refine WL.step (WL.guardF rfl rfl rfl rfl rfl rfl ?_)
      refine WL.step (WL.guardU rfl rfl rfl rfl rfl ?_)
      refine WL.step (WL.guardU rfl rfl rfl rfl rfl ?_)
      refine WL.step (WL.guardF rfl rfl rfl rfl rfl rfl ?_)
      refine WL.step ?_
      refine WL.pickT rfl rfl rfl ?_
      refine WL.nil ?_
      refine WQ.byCut hQ (subF_bool ?_ ⟨rfl, rfl, trivial⟩ rfl)
      first | (simp [g16]; done) | (simp [g16, g19])
    · skip
      refine WL.step (WL.guardT rfl rfl rfl ?_)
      refine WL.move rfl rfl ?_
      refine WL.step (WL.guardT rfl rfl rfl ?_)
      refine WL.gtI rfl rfl rfl ?_
      refine WL.step (WL.guardT rfl rfl rfl ?_)
      refine WL.move rfl rfl ?_
      refine WA.splitB (i := 19) rfl (fun g19 => ?_) (fun g19 => ?_)
      · skip
        refine WL.step (WL.guardT rfl rfl rfl ?_)
        refine WL.move rfl rfl ?_
        refine WL.step (WL.guardT rfl rfl rfl ?_)
        refine WL.ltI rfl rfl rfl ?_
        refine WL.step (WL.guardT rfl rfl rfl ?_)
        refine WL.pickT rfl rfl rfl ?_
        refine WL.step ?_
        refine WL.pickF rfl rfl rfl ?_
        refine WL.nil ?_
        refine WQ.byCut hQ (subF_bool ?_ ⟨rfl, rfl, trivial⟩ rfl)
        first | (simp [g16]; done) | (simp [g16, g19])
      · skip
        refine WL.step (WL.guardF rfl rfl rfl rfl rfl rfl ?_)
        refine WL.step (WL.guardF rfl rfl rfl rfl rfl rfl ?_)
        refine WL.step (WL.guardT rfl rfl rfl ?_)
        refine WL.pickF rfl rfl rfl ?_
        refine WL.step ?_
        refine WL.pickF rfl rfl rfl ?_
        refine WL.nil ?_
        refine WQ.byCut hQ (subF_bool ?_ ⟨rfl, rfl, trivial⟩ rfl)
        first | (simp [g16]; done) | (simp [g16, g19])
  refine WQ.then_normal ?_
  refine WC.cond rfl (fun h23 => ?_) (fun h23 => ?_)
  · skip
    refine WC.seq ?_
    refine WC.region ?_
    refine WL.step ?_
    refine WL.callV F.fun13 rfl rfl (fun w _ => wakes_c w) ?_
    refine WL.step ?_
    refine WL.assign rfl rfl ?_
    refine WL.nil ?_
    refine WQ.then_normal ?_
    refine WC.ret ?_
    refine WQ.then_ret ?_
    exact WQ.retM0 (rs := [.tmp 4]) rfl (.tmp rfl .nil) (fun w hS => ⟨rfl, hS.sublist (List.nil_sublist _)⟩)
  · skip
    have hlg : largeB ls = false := by (cases hz : largeB ls with | false => rfl | true => rw [hz] at h23; simp at h23)
    obtain ⟨hl40, hc80⟩ := large_no hlg
    have hk1 : ∀ c ∈ ls, c.length ≤ 1000 := fun c hc => by have := hc80 c hc; omega
    have hn8 : ¬ (8 < n ∧ n < 25) := by (rw [hlg] at h23; simp at h23; omega)
    obtain ⟨f9, hA, hB, hconj⟩ := joins_conj n ls
    refine WC.skip ?_
    refine WQ.then_normal ?_
    refine WC.seq ?_
    refine WC.region ?_
    refine WL.step ?_
    refine WL.move rfl rfl ?_
    refine WL.step ?_
    refine WL.callC (β := RowsX) (res := fun x => .slice x.1.2.1 ls.length x.1.2.2) (cs := fun x => [rowc (.slice x.1.2.1 ls.length x.1.2.2) ls.length 23 1 x.1.1.2, stepsC x.1.1.1 x.1.1.2 ls]) (Cs := []) (O' := []) F.fun22 (fun d h => by cases h; rfl) rfl (List.Perm.refl _) (by simp) (by simp) (fun w hS _ => Rows_c ls a cap us (by omega) hk1 w (hr.next hS)) (fun x26 => ?_)
    refine WL.step ?_
    refine WL.assign rfl rfl ?_
    refine WL.nil ?_
    refine WQ.then_normal ?_
    refine WC.seq ?_
    refine WC.region ?_
    refine WL.step ?_
    refine WL.move rfl rfl ?_
    refine WL.step ?_
    refine WL.move rfl rfl ?_
    refine WL.step ?_
    refine WL.call0 (β := DRes (f9)) (res := fun z => .returned (.tuple #[z.v, .int .i64 (Fm.mayE n ls)])) (cs := fun z => [z.ch]) (ψ := fun _ => True) F.fun17 (fun d h => by cases h; rfl) rfl (fun w hS => (hconj w x26.1.2.1 x26.1.2.2 x26.1.1.2 (RdLL.made rfl (hS.ok (rowc (.slice x26.1.2.1 ls.length x26.1.2.2) ls.length 23 1 x26.1.1.2) (by repeat (first | exact List.Mem.head _ | apply List.Mem.tail))) (hS.ok (stepsC x26.1.1.1 x26.1.1.2 ls) (by repeat (first | exact List.Mem.head _ | apply List.Mem.tail))))).mono (fun e w2 ⟨x, h1, h2⟩ => ⟨x, trivial, h1, h2⟩)) (fun z29 _ => ?_)
    refine WL.step ?_
    refine WL.move rfl rfl ?_
    refine WL.step ?_
    refine WL.extract rfl rfl rfl ?_
    refine WL.step ?_
    refine WL.extract rfl rfl rfl ?_
    refine WL.step ?_
    refine WL.alloc F.zero27 rfl (fun b6 => ?_)
    refine WL.step ?_
    refine WL.storeN F.agg27 rfl rfl rfl (by simp [Value.oneCell']) (by repeat (first | exact Upd.here | apply Upd.there)) (by repeat constructor) ?_
    refine WL.step ?_
    refine WL.assign rfl rfl ?_
    refine WL.nil ?_
    refine WQ.then_normal ?_
    refine WC.seq ?_
    refine WC.region ?_
    refine WL.step ?_
    refine WL.move rfl rfl ?_
    refine WL.step ?_
    refine WL.move rfl rfl ?_
    refine WL.step ?_
    refine WL.callV F.fun15 rfl rfl (fun w hS => rclauses_c n ls a cap us (by omega) (fun c hc => by have := hk1 c hc; omega) w (hr.next hS)) ?_
    refine WL.step ?_
    refine WL.assign rfl rfl ?_
    refine WL.nil ?_
    refine WQ.then_normal ?_
    refine WC.seq ?_
    refine WC.region ?_
    refine WL.step ?_
    refine WL.alloc F.zero53 rfl (fun b9 => ?_)
    refine WL.nil ?_
    refine WQ.then_normal ?_
    refine WC.seq ?_
    refine WC.seq ?_
    refine WC.region ?_
    refine WL.step ?_
    refine WL.callV F.fun13 rfl rfl (fun w _ => wakes_c w) ?_
    refine WL.nil ?_
    refine WQ.then_normal ?_
    refine WC.condT rfl ?_
    refine WC.seq ?_
    refine WC.region ?_
    refine WL.step ?_
    refine WL.move rfl rfl ?_
    refine WL.step ?_
    refine WL.move rfl rfl ?_
    refine WL.step ?_
    refine WL.call0 (β := AllY) (res := fun y => .returned (.func (.func 78) [].toArray [pp y.b2, pp y.b3].toArray)) (cs := fun y => allC (min n.toNat 24) y) (ψ := fun y => y.t.ok 0 ∧ ∀ cf, y.t.ev cf = f9 (midC (min n.toNat 24) 24 cf)) F.fun25 (fun d h => by cases h; rfl) rfl (fun w hS => (FModels_c f9 (Fm.mayE n ls) n ls x26.1.2.1 x26.1.2.2 x26.1.1.2 w (RdLL.made rfl (hS.ok (rowc (.slice x26.1.2.1 ls.length x26.1.2.2) ls.length 23 1 x26.1.1.2) (by repeat (first | exact List.Mem.head _ | apply List.Mem.tail))) (hS.ok (stepsC x26.1.1.1 x26.1.1.2 ls) (by repeat (first | exact List.Mem.head _ | apply List.Mem.tail)))) (fun w' h => hconj w' _ _ _ h)).mono (fun e w2 ⟨x, h1, h2, h3⟩ => ⟨x, h2, h1, h3⟩)) (fun y39 hy39 => ?_)
    refine WL.nil ?_
    refine WQ.then_normal ?_
    refine WC.block ?_
    obtain ⟨xs, hxs⟩ : ∃ xs, xs = allS (min n.toNat 24) (fun cf => f9 (midC (min n.toNat 24) 24 cf)) 0 := ⟨_, rfl⟩
    have hxl : xs.length ≤ 2 ^ 24 := by (rw [hxs]; exact Nat.le_trans (allS_len _ _ _) (Nat.pow_le_pow_right (by decide) (by omega)))
    refine WC.chunks (C' := [pt b9 [.slice none 0 0] 53, rowc (.slice none 0 0) 0 22 1 [], pt y39.b2 (dvs (y39.t, y39.a, y39.c)) 27, pt y39.b3 [.int .i64 ((min n.toNat 24 : Nat) : Int)] 3, dC y39.a y39.c y39.t, pt b6 [.slice z29.1.2.1 (canon z29.1.1).1.length z29.1.2.2, .int .i64 ((canon z29.1.1).2 : Int)] 27, z29.ch, rowc (.slice x26.1.2.1 ls.length x26.1.2.2) ls.length 23 1 x26.1.1.2, stepsC x26.1.1.1 x26.1.1.2 ls]) (fun w hS => ((St.pick (St.pick (St.pick (St.pick (St.pick (St.pick (St.pick (St.pick (St.pick (hS.rowNil 22 1) (c := stepsC x26.1.1.1 x26.1.1.2 ls) (by repeat (first | exact Rem.here | apply Rem.there))) (c := rowc (.slice x26.1.2.1 ls.length x26.1.2.2) ls.length 23 1 x26.1.1.2) (by repeat (first | exact Rem.here | apply Rem.there))) (c := z29.ch) (by repeat (first | exact Rem.here | apply Rem.there))) (c := pt b6 [.slice z29.1.2.1 (canon z29.1.1).1.length z29.1.2.2, .int .i64 ((canon z29.1.1).2 : Int)] 27) (by repeat (first | exact Rem.here | apply Rem.there))) (c := dC y39.a y39.c y39.t) (by repeat (first | exact Rem.here | apply Rem.there))) (c := pt y39.b3 [.int .i64 ((min n.toNat 24 : Nat) : Int)] 3) (by repeat (first | exact Rem.here | apply Rem.there))) (c := pt y39.b2 (dvs (y39.t, y39.a, y39.c)) 27) (by repeat (first | exact Rem.here | apply Rem.there))) (c := rowc (.slice none 0 0) 0 22 1 []) (by repeat (first | exact Rem.here | apply Rem.there))) (c := pt b9 [.slice none 0 0] 53) (by repeat (first | exact Rem.here | apply Rem.there)))).sublist (List.Sublist.cons_cons _ (List.Sublist.cons_cons _ (List.Sublist.cons_cons _ (List.Sublist.cons_cons _ (List.Sublist.cons_cons _ (List.Sublist.cons_cons _ (List.Sublist.cons_cons _ (List.Sublist.cons_cons _ (List.Sublist.cons_cons _ (List.nil_sublist _))))))))))) ?_
    refine WC.rangeFunc (σ := GotS) (ps := [40]) (gf := 78) (cap := [pp y39.b2, pp y39.b3]) (n := xs.length) (C1 := [pt y39.b2 (dvs (y39.t, y39.a, y39.c)) 27, pt y39.b3 [.int .i64 ((min n.toNat 24 : Nat) : Int)] 3, dC y39.a y39.c y39.t, pt b6 [.slice z29.1.2.1 (canon z29.1.1).1.length z29.1.2.2, .int .i64 ((canon z29.1.1).2 : Int)] 27, z29.ch, rowc (.slice x26.1.2.1 ls.length x26.1.2.2) ls.length 23 1 x26.1.1.2, stepsC x26.1.1.1 x26.1.1.2 ls]) (fun k : Nat => [Value.int .u32 (xs.getD k 0 : Int)]) (fun k y => y.out = xs.take k) (gotJ b9) (gotF b9) ⟨[], none, 0⟩ (gotFp b9) rfl rfl F.fun78 (fun _ => rfl) (by kernel_rfl) (List.Perm.refl _) (fun l ch w hl hS hch hdis hf hrd => ?_) (fun l r k y w1 hk hI hrs hl hS1 => ?_) (fun Db y hI => ?_)
    · have hoff : ∀ (c : Chunk) (b : Nat), c ∈ [pt y39.b2 (dvs (y39.t, y39.a, y39.c)) 27, pt y39.b3 [.int .i64 ((min n.toNat 24 : Nat) : Int)] 3, dC y39.a y39.c y39.t, pt b6 [.slice z29.1.2.1 (canon z29.1.1).1.length z29.1.2.2, .int .i64 ((canon z29.1.1).2 : Int)] 27, z29.ch, rowc (.slice x26.1.2.1 ls.length x26.1.2.2) ls.length 23 1 x26.1.1.2, stepsC x26.1.1.1 x26.1.1.2 ls] → c.fp b → b ∉ l :: gotF b9 ⟨[], none, 0⟩ := fun c b hc hb hk => by
        rcases List.mem_cons.1 hk with e | hk
        · exact hdis c (List.mem_append_right _ hc) b hb e
        · exact St.off hS (gotFp b9 _) hc hb hk
      rw [hxs] at hrd ⊢
      refine All1_c ch (fun y => l :: gotF b9 y) hch (fun k y => y.out = (allS (min n.toNat 24) (fun cf => f9 (midC (min n.toNat 24) 24 cf)) 0).take k) l y39.b2 y39.b3 y39.t y39.a y39.c (min n.toNat 24) (by omega) _ hy39.2 ⟨[], none, 0⟩ rfl w (fun j v hv => by rw [Nat.zero_add]; exact hS.cell (List.mem_append_right _ (List.mem_cons_self ..)) hv) (hoff _ _ (List.mem_cons_self ..) rfl) (hS.cell (List.mem_append_right _ (List.mem_cons_of_mem _ (List.mem_cons_self ..))) rfl) (hoff _ _ (List.mem_cons_of_mem _ (List.mem_cons_self ..)) rfl) hy39.1 (rdO_own2 (c := y39.c) hS (gotFp b9 _) (List.mem_cons_of_mem _ (List.mem_cons_of_mem _ (List.mem_cons_self ..))) hdis) hrd hf
    · skip
      obtain ⟨v, hv⟩ : ∃ v, xs[k]? = some v := ⟨_, List.getElem?_eq_getElem hk⟩
      have hgd : xs.getD k 0 = v := by rw [List.getD_eq_getElem?_getD, hv]; rfl
      obtain ⟨out, ga, gc⟩ := y
      dsimp only at hI ⊢
      have hol : out.length = k := by rw [hI]; simp; omega
      simp only [putL, gotJ]
      rw [hgd]
      refine WI.region (fun ⟨_, _, h⟩ => h) (by kernel_rfl) ?_
      refine WL.step ?_
      refine WL.assign rfl rfl ?_
      refine WL.nil ?_
      refine WQ.begin hrs (C1 := [pt b9 [.slice ga out.length gc] 53, rowc (.slice ga out.length gc) out.length 22 1 (u32s out)]) (List.Perm.refl _) ?_
      refine WI.block ?_
      refine WI.region (fun ⟨_, _, h⟩ => h) (by kernel_rfl) ?_
      refine WL.step ?_
      refine WL.loadP F.one53 rfl rfl (by repeat (first | exact List.Mem.head _ | apply List.Mem.tail)) rfl ?_
      refine WL.step ?_
      refine WL.move rfl rfl ?_
      refine WL.step ?_
      refine WL.buildSlice F.sl53 F.ez53 rfl rfl rfl rfl (by repeat (first | exact Built.nil | apply Built.one rfl rfl (by repeat constructor) | apply Built.agg rfl rfl (by repeat constructor))) rfl (fun b43 => ?_)
      refine WL.step ?_
      refine WL.appendE (news := [.int .u32 (v : Int)]) F.el53 rfl rfl rfl (by repeat (first | exact Rem.here | apply Rem.there)) (fun w hS jj u hu => by rw [Nat.zero_add]; exact hS.cell (cs := [.int .u32 (v : Int)]) (by repeat (first | exact List.Mem.head _ | apply List.Mem.tail)) hu) (by simp [u32s]) (by simp [Value.oneCell']) (Nat.le_trans (m := 16777217) (by omega) (by decide)) (by omega) (fun a2 c2 => ?_)
      refine WL.step ?_
      refine WL.store1 F.one53 rfl rfl rfl (by repeat (first | exact Upd.here | apply Upd.there)) (by repeat constructor) ?_
      refine WL.nil ?_
      refine WQ.block_normal ?_
      refine WQ.round (⟨out ++ [v], a2, c2⟩ : GotS) (by (show out ++ [v] = xs.take (k + 1); rw [List.take_add_one, hv, hI]; rfl)) (fun w hS => ?_)
      have e : (out ++ [v]).length = out.length + 1 := by simp
      have e2 : u32s (out ++ [v]) = u32s out ++ [.int .u32 (v : Int)] := by simp [u32s]
      simp only [gotJ, e, e2]
      exact ((St.pick (St.pick (St.pick hS (c := rowc (.slice a2 (out.length + 1) c2) (out.length + 1) 22 1 (u32s out ++ [.int .u32 (v : Int)])) (by repeat (first | exact Rem.here | apply Rem.there))) (c := pt b9 [.slice a2 (out.length + 1) c2] 53) (by repeat (first | exact Rem.here | apply Rem.there))) (c := ob1 l (.loop { r with state := .busy })) (by repeat (first | exact Rem.here | apply Rem.there)))).sublist (List.Sublist.cons_cons _ (List.Sublist.cons_cons _ (List.Sublist.cons_cons _ (List.nil_sublist _))))
    obtain ⟨out, ga, gc⟩ := y
    dsimp only at hI
    rw [List.take_length] at hI
    subst hI
    refine WQ.chunks (C' := [ob1 Db (.deferred (some [])), pt b9 [.slice ga out.length gc] 53, rowc (.slice ga out.length gc) out.length 22 1 (u32s out), pt b6 [.slice z29.1.2.1 (canon z29.1.1).1.length z29.1.2.2, .int .i64 ((canon z29.1.1).2 : Int)] 27, z29.ch, rowc (.slice x26.1.2.1 ls.length x26.1.2.2) ls.length 23 1 x26.1.1.2, stepsC x26.1.1.1 x26.1.1.2 ls]) (fun w hS => ((St.pick (St.pick (St.pick (St.pick (St.pick (St.pick (St.pick hS (c := stepsC x26.1.1.1 x26.1.1.2 ls) (by repeat (first | exact Rem.here | apply Rem.there))) (c := rowc (.slice x26.1.2.1 ls.length x26.1.2.2) ls.length 23 1 x26.1.1.2) (by repeat (first | exact Rem.here | apply Rem.there))) (c := z29.ch) (by repeat (first | exact Rem.here | apply Rem.there))) (c := pt b6 [.slice z29.1.2.1 (canon z29.1.1).1.length z29.1.2.2, .int .i64 ((canon z29.1.1).2 : Int)] 27) (by repeat (first | exact Rem.here | apply Rem.there))) (c := rowc (.slice ga out.length gc) out.length 22 1 (u32s out)) (by repeat (first | exact Rem.here | apply Rem.there))) (c := pt b9 [.slice ga out.length gc] 53) (by repeat (first | exact Rem.here | apply Rem.there))) (c := ob1 Db (.deferred (some []))) (by repeat (first | exact Rem.here | apply Rem.there)))).sublist (List.Sublist.cons_cons _ (List.Sublist.cons_cons _ (List.Sublist.cons_cons _ (List.Sublist.cons_cons _ (List.Sublist.cons_cons _ (List.Sublist.cons_cons _ (List.Sublist.cons_cons _ (List.nil_sublist _))))))))) ?_
    generalize out = xs at hxs hxl ⊢
    refine WQ.block_normal ?_
    refine WQ.then_normal ?_
    refine WC.seq ?_
    refine WC.seq ?_
    refine WC.region ?_
    refine WL.step ?_
    refine WL.move rfl rfl ?_
    refine WL.step ?_
    refine WL.move rfl rfl ?_
    refine WL.step ?_
    refine WL.neI rfl rfl rfl ?_
    refine WL.step ?_
    refine WL.move rfl rfl ?_
    refine WA.splitB (i := 48) rfl (fun g48 => ?_) (fun g48 => ?_)
    · skip
      exfalso; simp at g48
    · skip
      refine WL.step (WL.guardT rfl rfl rfl ?_)
      refine WL.move rfl rfl ?_
      refine WL.step (WL.guardT rfl rfl rfl ?_)
      refine WL.move rfl rfl ?_
      refine WL.step (WL.guardT rfl rfl rfl ?_)
      refine WL.callV F.fun26 rfl rfl (fun w hS => lsame_c ls x26.1.2.1 a x26.1.2.2 cap x26.1.1.2 us (by omega) hk1 w (RdLL.made rfl (hS.ok (rowc (.slice x26.1.2.1 ls.length x26.1.2.2) ls.length 23 1 x26.1.1.2) (by repeat (first | exact List.Mem.head _ | apply List.Mem.tail))) (hS.ok (stepsC x26.1.1.1 x26.1.1.2 ls) (by repeat (first | exact List.Mem.head _ | apply List.Mem.tail)))) (hr.next hS)) ?_
      refine WL.step (WL.guardT rfl rfl rfl ?_)
      refine WL.not rfl rfl ?_
      refine WL.step ?_
      refine WL.pickF rfl rfl rfl ?_
      refine WL.nil ?_
      refine WQ.then_normal ?_
      refine WC.cond rfl (fun h53 => ?_) (fun h53 => ?_)
      · skip
        exfalso; simp at h53
      · skip
        refine WC.skip ?_
        refine WQ.then_normal ?_
        refine WC.seq ?_
        refine WC.seq ?_
        refine WC.region ?_
        refine WL.step ?_
        refine WL.move rfl rfl ?_
        refine WL.step ?_
        refine WL.neI rfl rfl rfl ?_
        refine WL.nil ?_
        refine WQ.then_normal ?_
        refine WC.cond rfl (fun h55 => ?_) (fun h55 => ?_)
        · skip
          have hme : Fm.mayE n ls ≠ 0 := by simpa using h55
          have hz := hB hme
          have hx0 : xs = [] := by (rw [hxs]; exact allS_false _ _ (fun c => by rw [hz]) 0)
          have hem : ((canon z29.1.1).2 == 0) = true := (emptyT z29.2.1).2 (fun cf => by rw [z29.2.2, hz])
          refine WC.seq ?_
          refine WC.region ?_
          refine WL.step ?_
          refine WL.loadW F.agg27 rfl rfl (by repeat (first | exact List.Mem.head _ | apply List.Mem.tail)) rfl ?_
          refine WL.step ?_
          refine WL.callV F.fun18 rfl rfl (fun w hS => Empty_c z29.1.1 z29.1.2.1 z29.1.2.2 w) ?_
          refine WL.step ?_
          refine WL.move rfl rfl ?_
          refine WA.splitB (i := 58) rfl (fun g58 => ?_) (fun g58 => ?_)
          · skip
            refine WL.step (WL.guardT rfl rfl rfl ?_)
            refine WL.loadP F.one53 rfl rfl (by repeat (first | exact List.Mem.head _ | apply List.Mem.tail)) rfl ?_
            refine WL.step (WL.guardT rfl rfl rfl ?_)
            refine WL.lenSl F.und53 rfl rfl ?_
            refine WL.step (WL.guardT rfl rfl rfl ?_)
            refine WL.eqI rfl rfl rfl ?_
            refine WL.step ?_
            refine WL.pickT rfl rfl rfl ?_
            refine WL.step ?_
            refine WL.move rfl rfl ?_
            refine WA.splitB (i := 63) rfl (fun g63 => ?_) (fun g63 => ?_)
            · skip
              refine WL.step (WL.guardT rfl rfl rfl ?_)
              refine WL.callV F.fun13 rfl rfl (fun w _ => wakes_c w) ?_
              refine WL.step ?_
              refine WL.pickT rfl rfl rfl ?_
              refine WL.step ?_
              refine WL.assign rfl rfl ?_
              refine WL.nil ?_
              refine WQ.then_normal ?_
              refine WC.ret ?_
              refine WQ.then_ret ?_
              refine WQ.chunks (C' := [ob1 Db (.deferred (some []))]) (fun w hS => ((St.pick hS (c := ob1 Db (.deferred (some []))) (by repeat (first | exact Rem.here | apply Rem.there)))).sublist (List.Sublist.cons_cons _ (List.nil_sublist _))) ?_
              exact WQ.retM1 (rs := [.tmp 4]) rfl (List.Perm.refl _) (.tmp rfl .nil) (fun w hS => ⟨by first | rfl | simp [tup], hS⟩)
            · skip
              exfalso; rw [hx0] at g63; simp at g63
          · skip
            exfalso; rw [hem] at g58; cases g58
        · skip
          have hme : Fm.mayE n ls = 0 := by simpa using h55
          have hz := hA hme
          obtain ⟨hm0, hcount, hall⟩ := may_zero hme
          obtain ⟨m, rfl⟩ : ∃ m : Nat, n = (m : Int) := ⟨n.toNat, by omega⟩
          have hm8 : m ≤ 8 := by (by_cases h8 : m ≤ 8; exact h8; exact absurd ⟨by omega, by omega⟩ hn8)
          have habs := may_abs hme
          have hLL := lit_le (by omega) habs
          have hmin : min ((m : Int)).toNat 24 = m := by omega
          rw [hmin, hz, allS_models habs] at hxs
          subst hxs
          have hind : indep m z29.1.1.ev := fun c d he => by (rw [z29.2.2, z29.2.2, hz]; exact indep_ls habs c d he)
          have hsz : supT (canon z29.1.1).1 >>> m = 0 := by (rw [Nat.shiftRight_eq_div_pow]; exact Nat.div_eq_of_lt (supT_lt z29.2.1 hind))
          have h2m : 2 ^ m ≤ 2 ^ 8 := Nat.pow_le_pow_right (by decide) hm8
          refine WC.skip ?_
          refine WQ.then_normal ?_
          refine WC.seq ?_
          refine WC.region ?_
          refine WL.step ?_
          refine WL.move rfl rfl ?_
          refine WL.step ?_
          refine WL.move rfl rfl ?_
          refine WL.step ?_
          refine WL.callC (β := Option Addr × Nat) (res := fun y => .slice y.1 (modelsL m ls).length y.2) (cs := fun y => [rowc (.slice y.1 (modelsL m ls).length y.2) (modelsL m ls).length 22 1 (u32s (modelsL m ls))]) (Cs := []) (O' := []) F.fun27 (fun d h => by cases h; rfl) rfl (List.Perm.refl _) (by simp) (by simp) (fun w hS _ => Models_c m (by omega) ls a cap us (by omega) hk1 hLL w (hr.next hS)) (fun ⟨wa, wc⟩ => ?_)
          refine WL.step ?_
          refine WL.assign rfl rfl ?_
          refine WL.nil ?_
          refine WQ.then_normal ?_
          refine WC.seq ?_
          refine WC.seq ?_
          refine WC.region ?_
          refine WL.step ?_
          refine WL.loadP F.one53 rfl rfl (by repeat (first | exact List.Mem.head _ | apply List.Mem.tail)) rfl ?_
          refine WL.step ?_
          refine WL.lenSl F.und53 rfl rfl ?_
          refine WL.step ?_
          refine WL.move rfl rfl ?_
          refine WL.step ?_
          refine WL.lenSl F.und53 rfl rfl ?_
          refine WL.step ?_
          refine WL.neI rfl rfl rfl ?_
          refine WL.step ?_
          refine WL.move rfl rfl ?_
          refine WA.splitB (i := 74) rfl (fun g74 => ?_) (fun g74 => ?_)
          · skip
            exfalso; simp at g74
          · skip
            refine WL.step (WL.guardT rfl rfl rfl ?_)
            refine WL.loadW F.agg27 rfl rfl (by repeat (first | exact List.Mem.head _ | apply List.Mem.tail)) rfl ?_
            refine WL.step (WL.guardT rfl rfl rfl ?_)
            refine WL.callV F.fun28 rfl rfl (fun w hS => Support_c z29.1.1 z29.1.2.1 z29.1.2.2 w (z29.rd hS (by repeat (first | exact List.Mem.head _ | apply List.Mem.tail)))) ?_
            refine WL.step (WL.guardT rfl rfl rfl ?_)
            refine WL.move rfl rfl ?_
            refine WL.step (WL.guardT rfl rfl rfl ?_)
            refine WL.convert rfl rfl (v := .int .u64 (m : Int)) (fun w hS => conv60 (by omega) w) ?_
            refine WL.step (WL.guardT rfl rfl rfl ?_)
            refine WL.bin (v := .int .u32 ((supT (canon z29.1.1).1 >>> m : Nat) : Int)) rfl rfl rfl (fun w => run_shrU (by omega) _ _ _ w) ?_
            refine WL.step (WL.guardT rfl rfl rfl ?_)
            refine WL.gtI rfl rfl rfl ?_
            refine WL.step ?_
            refine WL.pickF rfl rfl rfl ?_
            refine WL.nil ?_
            refine WQ.then_normal ?_
            refine WC.cond rfl (fun h81 => ?_) (fun h81 => ?_)
            · skip
              exfalso; rw [hsz] at h81; simp at h81
            · skip
              refine WC.skip ?_
              refine WQ.then_normal ?_
              refine WC.seq ?_
              refine WC.seq ?_
              refine WC.region ?_
              refine WL.step ?_
              refine WL.assign rfl rfl ?_
              refine WL.nil ?_
              refine WQ.then_normal ?_
              refine WC.block ?_
              refine WC.chunks (C' := [ob1 Db (.deferred (some [])), pt b9 [.slice ga (modelsL m ls).length gc] 53, rowc (.slice ga (modelsL m ls).length gc) (modelsL m ls).length 22 1 (u32s (modelsL m ls)), pt b6 [.slice z29.1.2.1 (canon z29.1.1).1.length z29.1.2.2, .int .i64 ((canon z29.1.1).2 : Int)] 27, z29.ch, rowc (.slice wa (modelsL m ls).length wc) (modelsL m ls).length 22 1 (u32s (modelsL m ls))]) (fun w hS => ((St.pick (St.pick (St.pick (St.pick (St.pick (St.pick hS (c := rowc (.slice wa (modelsL m ls).length wc) (modelsL m ls).length 22 1 (u32s (modelsL m ls))) (by repeat (first | exact Rem.here | apply Rem.there))) (c := z29.ch) (by repeat (first | exact Rem.here | apply Rem.there))) (c := pt b6 [.slice z29.1.2.1 (canon z29.1.1).1.length z29.1.2.2, .int .i64 ((canon z29.1.1).2 : Int)] 27) (by repeat (first | exact Rem.here | apply Rem.there))) (c := rowc (.slice ga (modelsL m ls).length gc) (modelsL m ls).length 22 1 (u32s (modelsL m ls))) (by repeat (first | exact Rem.here | apply Rem.there))) (c := pt b9 [.slice ga (modelsL m ls).length gc] 53) (by repeat (first | exact Rem.here | apply Rem.there))) (c := ob1 Db (.deferred (some []))) (by repeat (first | exact Rem.here | apply Rem.there)))).sublist (List.Sublist.cons_cons _ (List.Sublist.cons_cons _ (List.Sublist.cons_cons _ (List.Sublist.cons_cons _ (List.Sublist.cons_cons _ (List.Sublist.cons_cons _ (List.nil_sublist _)))))))) ?_
              refine WC.loop (α := Nat) (fun i => i ≤ (modelsL m ls).length) (fun i => [(0, .int .i64 (m : Int)), (1, .slice a ls.length cap), (6, pp b6), (9, pp b9), (11, .slice wa (modelsL m ls).length wc), (12, .int .i64 (i : Int))]) (fun _ => [ob1 Db (.deferred (some [])), pt b9 [.slice ga (modelsL m ls).length gc] 53, rowc (.slice ga (modelsL m ls).length gc) (modelsL m ls).length 22 1 (u32s (modelsL m ls)), pt b6 [.slice z29.1.2.1 (canon z29.1.1).1.length z29.1.2.2, .int .i64 ((canon z29.1.1).2 : Int)] 27, z29.ch, rowc (.slice wa (modelsL m ls).length wc) (modelsL m ls).length 22 1 (u32s (modelsL m ls))]) (fun i => (modelsL m ls).length - i) (0) ?_ ?_ ?_ ?_
              · exact Nat.zero_le _
              · exact ⟨rfl, rfl, rfl, rfl, rfl, rfl, trivial⟩
              · rfl
              rintro i hi
              show WC _ _ _ _ _ _ _ [(0, .int .i64 (m : Int)), (1, .slice a ls.length cap), (6, pp b6), (9, pp b9), (11, .slice wa (modelsL m ls).length wc), (12, .int .i64 (i : Int))] [ob1 Db (.deferred (some [])), pt b9 [.slice ga (modelsL m ls).length gc] 53, rowc (.slice ga (modelsL m ls).length gc) (modelsL m ls).length 22 1 (u32s (modelsL m ls)), pt b6 [.slice z29.1.2.1 (canon z29.1.1).1.length z29.1.2.2, .int .i64 ((canon z29.1.1).2 : Int)] 27, z29.ch, rowc (.slice wa (modelsL m ls).length wc) (modelsL m ls).length 22 1 (u32s (modelsL m ls))]
              refine WC.seq ?_
              refine WC.seq ?_
              refine WC.region ?_
              refine WL.step ?_
              refine WL.move rfl rfl ?_
              refine WL.step ?_
              refine WL.move rfl rfl ?_
              refine WL.step ?_
              refine WL.lenSl F.und53 rfl rfl ?_
              refine WL.step ?_
              refine WL.ltI rfl rfl rfl ?_
              refine WL.nil ?_
              refine WQ.then_normal ?_
              refine WC.cond rfl (fun h85 => ?_) (fun h85 => ?_)
              · skip
                have hlt : i < (modelsL m ls).length := by simpa using h85
                obtain ⟨v, hv⟩ : ∃ v, (modelsL m ls)[i]? = some v := ⟨_, List.getElem?_eq_getElem hlt⟩
                refine WC.know (φ := ∃ g, ga = some ⟨g, 0, none⟩ ∧ (modelsL m ls).length = (modelsL m ls).length ∧ (modelsL m ls).length ≤ gc) (fun w hS => rowc_addr (hS.ok (rowc (.slice ga (modelsL m ls).length gc) (modelsL m ls).length 22 1 (u32s (modelsL m ls))) (by repeat (first | exact List.Mem.head _ | apply List.Mem.tail))) (by omega)) (fun ⟨g7, hg7, _, _⟩ => ?_)
                refine WC.know (φ := ∃ g, wa = some ⟨g, 0, none⟩ ∧ (modelsL m ls).length = (modelsL m ls).length ∧ (modelsL m ls).length ≤ wc) (fun w hS => rowc_addr (hS.ok (rowc (.slice wa (modelsL m ls).length wc) (modelsL m ls).length 22 1 (u32s (modelsL m ls))) (by repeat (first | exact List.Mem.head _ | apply List.Mem.tail))) (by omega)) (fun ⟨g8, hg8, _, _⟩ => ?_)
                subst hg7; subst hg8
                refine WC.skip ?_
                refine WQ.then_normal ?_
                refine WC.seq ?_
                refine WC.block ?_
                refine WC.seq ?_
                refine WC.drawsL (by kernel_rfl) (FactsOk.cons (ds := []) (LoadOk.one (t := 9) (off := 0) rfl (by repeat (first | exact List.Mem.head _ | apply List.Mem.tail)) rfl) (FactsOk.cons (ds := []) (LoadOk.by (Y := fun w => w.cell? ⟨g7, 0 + i * 1, none⟩ = some (.int .u32 (v : Int))) (fun w hS => by rw [Nat.zero_add, Nat.mul_one]; exact rowc_cell (hS.ok (rowc (.slice (some ⟨g7, 0, none⟩) (modelsL m ls).length gc) (modelsL m ls).length 22 1 (u32s (modelsL m ls))) (by repeat (first | exact List.Mem.head _ | apply List.Mem.tail))) (u32s_at hv))) (FactsOk.cons (ds := []) (LoadOk.by (Y := fun w => w.cell? ⟨g8, 0 + i * 1, none⟩ = some (.int .u32 (v : Int))) (fun w hS => by rw [Nat.zero_add, Nat.mul_one]; exact rowc_cell (hS.ok (rowc (.slice (some ⟨g8, 0, none⟩) (modelsL m ls).length wc) (modelsL m ls).length 22 1 (u32s (modelsL m ls))) (by repeat (first | exact List.Mem.head _ | apply List.Mem.tail))) (u32s_at hv))) (FactsOk.nil)))) ?_
                refine WD.take (i := 0) rfl rfl rfl rfl (by kernel_rfl) (by kernel_rfl) (by kernel_rfl) (fun _ _ _ h => h) (by kernel_rfl) (need_at 0 9 rfl (by kernel_rfl)) (Yl.load1 F.one53 rfl) ?_
                refine WD.take (i := 1) rfl rfl rfl rfl (by kernel_rfl) (by kernel_rfl) (by kernel_rfl) (fun _ _ _ h => h) (by kernel_rfl) need_none (Yl.move rfl) ?_
                refine WD.take (i := 2) rfl rfl rfl rfl (by kernel_rfl) (by kernel_rfl) (by kernel_rfl) (fun _ _ _ h => h) (by kernel_rfl) need_none (Yl.indexAddr F.sl53 rfl rfl (by omega)) ?_
                refine WD.take (i := 3) rfl rfl rfl rfl (by kernel_rfl) (by kernel_rfl) (by kernel_rfl) (fun _ _ _ h => h) (by kernel_rfl) (need_at 1 9 rfl (by kernel_rfl)) (Yl.load1 F.one22 rfl) ?_
                refine WD.take (i := 4) rfl rfl rfl rfl (by kernel_rfl) (by kernel_rfl) (by kernel_rfl) (fun _ _ _ h => h) (by kernel_rfl) need_none (Yl.move rfl) ?_
                refine WD.take (i := 5) rfl rfl rfl rfl (by kernel_rfl) (by kernel_rfl) (by kernel_rfl) (fun _ _ _ h => h) (by kernel_rfl) need_none (Yl.move rfl) ?_
                refine WD.take (i := 6) rfl rfl rfl rfl (by kernel_rfl) (by kernel_rfl) (by kernel_rfl) (fun _ _ _ h => h) (by kernel_rfl) need_none (Yl.indexAddr F.sl53 rfl rfl (by omega)) ?_
                refine WD.take (i := 7) rfl rfl rfl rfl (by kernel_rfl) (by kernel_rfl) (by kernel_rfl) (fun _ _ _ h => h) (by kernel_rfl) (need_at 2 9 rfl (by kernel_rfl)) (Yl.load1 F.one22 rfl) ?_
                refine WD.take (i := 8) rfl rfl rfl rfl (by kernel_rfl) (by kernel_rfl) (by kernel_rfl) (fun _ _ _ h => h) (by kernel_rfl) need_none (Yl.neI rfl rfl) ?_
                refine WD.done (by kernel_rfl) ?_
                refine WQ.then_normal ?_
                refine WC.cond rfl (fun h96 => ?_) (fun h96 => ?_)
                · skip
                  exfalso; simp at h96
                · skip
                  refine WC.skip ?_
                  refine WQ.block_normal ?_
                  refine WQ.then_normal ?_
                  refine WC.region ?_
                  refine WL.step ?_
                  refine WL.move rfl rfl ?_
                  refine WL.step ?_
                  refine WL.add rfl rfl rfl ⟨by omega, by omega⟩ ?_
                  refine WL.step ?_
                  refine WL.assign rfl rfl ?_
                  refine WL.nil ?_
                  refine WQ.chunks (C' := [ob1 Db (.deferred (some [])), pt b9 [.slice (some ⟨g7, 0, none⟩) (modelsL m ls).length gc] 53, rowc (.slice (some ⟨g7, 0, none⟩) (modelsL m ls).length gc) (modelsL m ls).length 22 1 (u32s (modelsL m ls)), pt b6 [.slice z29.1.2.1 (canon z29.1.1).1.length z29.1.2.2, .int .i64 ((canon z29.1.1).2 : Int)] 27, z29.ch, rowc (.slice (some ⟨g8, 0, none⟩) (modelsL m ls).length wc) (modelsL m ls).length 22 1 (u32s (modelsL m ls))]) (fun w hS => ((St.pick (St.pick (St.pick (St.pick (St.pick (St.pick hS (c := rowc (.slice (some ⟨g8, 0, none⟩) (modelsL m ls).length wc) (modelsL m ls).length 22 1 (u32s (modelsL m ls))) (by repeat (first | exact Rem.here | apply Rem.there))) (c := z29.ch) (by repeat (first | exact Rem.here | apply Rem.there))) (c := pt b6 [.slice z29.1.2.1 (canon z29.1.1).1.length z29.1.2.2, .int .i64 ((canon z29.1.1).2 : Int)] 27) (by repeat (first | exact Rem.here | apply Rem.there))) (c := rowc (.slice (some ⟨g7, 0, none⟩) (modelsL m ls).length gc) (modelsL m ls).length 22 1 (u32s (modelsL m ls))) (by repeat (first | exact Rem.here | apply Rem.there))) (c := pt b9 [.slice (some ⟨g7, 0, none⟩) (modelsL m ls).length gc] 53) (by repeat (first | exact Rem.here | apply Rem.there))) (c := ob1 Db (.deferred (some []))) (by repeat (first | exact Rem.here | apply Rem.there)))).sublist (List.Sublist.cons_cons _ (List.Sublist.cons_cons _ (List.Sublist.cons_cons _ (List.Sublist.cons_cons _ (List.Sublist.cons_cons _ (List.Sublist.cons_cons _ (List.nil_sublist _)))))))) ?_
                  refine WQ.back (i + 1) ?_ ?_ ?_ ?_
                  · exact by (show i + 1 ≤ (modelsL m ls).length); omega
                  · (show (modelsL m ls).length - (i + 1) < (modelsL m ls).length - i; omega)
                  · exact ⟨rfl, rfl, rfl, rfl, rfl, rfl, trivial⟩
                  · rfl
              · skip
                refine WC.exit ?_
                refine WQ.then_exit ?_
                refine WQ.then_exit ?_
                refine WQ.block_exit ?_
                refine WQ.then_normal ?_
                refine WC.seq ?_
                refine WC.seq ?_
                refine WC.region ?_
                refine WL.step ?_
                refine WL.assign rfl rfl ?_
                refine WL.nil ?_
                refine WQ.then_normal ?_
                refine WC.block ?_
                refine WC.chunks (C' := [ob1 Db (.deferred (some [])), pt b6 [.slice z29.1.2.1 (canon z29.1.1).1.length z29.1.2.2, .int .i64 ((canon z29.1.1).2 : Int)] 27, z29.ch]) (fun w hS => ((St.pick (St.pick (St.pick hS (c := z29.ch) (by repeat (first | exact Rem.here | apply Rem.there))) (c := pt b6 [.slice z29.1.2.1 (canon z29.1.1).1.length z29.1.2.2, .int .i64 ((canon z29.1.1).2 : Int)] 27) (by repeat (first | exact Rem.here | apply Rem.there))) (c := ob1 Db (.deferred (some []))) (by repeat (first | exact Rem.here | apply Rem.there)))).sublist (List.Sublist.cons_cons _ (List.Sublist.cons_cons _ (List.Sublist.cons_cons _ (List.nil_sublist _))))) ?_
                refine WC.loop (α := Nat) (fun i => i ≤ 2 ^ m) (fun i => [(0, .int .i64 (m : Int)), (1, .slice a ls.length cap), (6, pp b6), (13, .int .u32 (i : Int))]) (fun _ => [ob1 Db (.deferred (some [])), pt b6 [.slice z29.1.2.1 (canon z29.1.1).1.length z29.1.2.2, .int .i64 ((canon z29.1.1).2 : Int)] 27, z29.ch]) (fun i => 2 ^ m - i) (0) ?_ ?_ ?_ ?_
                · exact Nat.zero_le _
                · exact ⟨rfl, rfl, rfl, rfl, trivial⟩
                · rfl
                rintro i hi
                show WC _ _ _ _ _ _ _ [(0, .int .i64 (m : Int)), (1, .slice a ls.length cap), (6, pp b6), (13, .int .u32 (i : Int))] [ob1 Db (.deferred (some [])), pt b6 [.slice z29.1.2.1 (canon z29.1.1).1.length z29.1.2.2, .int .i64 ((canon z29.1.1).2 : Int)] 27, z29.ch]
                refine WC.seq ?_
                refine WC.seq ?_
                refine WC.region ?_
                refine WL.step ?_
                refine WL.move rfl rfl ?_
                refine WL.step ?_
                refine WL.move rfl rfl ?_
                refine WL.step ?_
                refine WL.convert rfl rfl (v := .int .u64 (m : Int)) (fun w hS => conv60 (by omega) w) ?_
                refine WL.step ?_
                refine WL.bin (v := .int .u32 ((2 ^ m : Nat) : Int)) rfl rfl rfl (fun w => run_shl1U (by omega) _ _ _ w) ?_
                refine WL.step ?_
                refine WL.ltI rfl rfl rfl ?_
                refine WL.nil ?_
                refine WQ.then_normal ?_
                refine WC.cond rfl (fun h101 => ?_) (fun h101 => ?_)
                · skip
                  have hlt : i < 2 ^ m := by have h12 := of_decide_eq_true h101; omega
                  refine WC.skip ?_
                  refine WQ.then_normal ?_
                  refine WC.seq ?_
                  refine WC.block ?_
                  refine WC.seq ?_
                  refine WC.region ?_
                  refine WL.step ?_
                  refine WL.loadW F.agg27 rfl rfl (by repeat (first | exact List.Mem.head _ | apply List.Mem.tail)) rfl ?_
                  refine WL.step ?_
                  refine WL.move rfl rfl ?_
                  refine WL.step ?_
                  refine WL.callV F.fun19 rfl rfl (fun w hS => Has_c z29.1.1 z29.1.2.1 z29.1.2.2 i (by omega) w (z29.rd hS (by repeat (first | exact List.Mem.head _ | apply List.Mem.tail)))) ?_
                  refine WL.step ?_
                  refine WL.move rfl rfl ?_
                  refine WL.step ?_
                  refine WL.move rfl rfl ?_
                  refine WL.step ?_
                  refine WL.callV F.fun29 rfl rfl (fun w hS => Holds_c ls i a cap us (by omega) hk1 hLL w (hr.next hS)) ?_
                  refine WL.step ?_
                  refine WL.bin rfl rfl rfl (fun w => run_neB _ _ w) ?_
                  refine WL.nil ?_
                  refine WQ.then_normal ?_
                  refine WC.cond rfl (fun h110 => ?_) (fun h110 => ?_)
                  · skip
                    exfalso; rw [z29.2.2, hz] at h110; simp [holds_cf] at h110
                  · skip
                    refine WC.skip ?_
                    refine WQ.block_normal ?_
                    refine WQ.then_normal ?_
                    refine WC.region ?_
                    refine WL.step ?_
                    refine WL.move rfl rfl ?_
                    refine WL.step ?_
                    refine WL.bin (v := .int .u32 ((i + 1 : Nat) : Int)) rfl rfl rfl (fun w => run_inc32 (by omega) _ _ _ w) ?_
                    refine WL.step ?_
                    refine WL.assign rfl rfl ?_
                    refine WL.nil ?_
                    refine WQ.chunks (C' := [ob1 Db (.deferred (some [])), pt b6 [.slice z29.1.2.1 (canon z29.1.1).1.length z29.1.2.2, .int .i64 ((canon z29.1.1).2 : Int)] 27, z29.ch]) (fun w hS => ((St.pick (St.pick (St.pick hS (c := z29.ch) (by repeat (first | exact Rem.here | apply Rem.there))) (c := pt b6 [.slice z29.1.2.1 (canon z29.1.1).1.length z29.1.2.2, .int .i64 ((canon z29.1.1).2 : Int)] 27) (by repeat (first | exact Rem.here | apply Rem.there))) (c := ob1 Db (.deferred (some []))) (by repeat (first | exact Rem.here | apply Rem.there)))).sublist (List.Sublist.cons_cons _ (List.Sublist.cons_cons _ (List.Sublist.cons_cons _ (List.nil_sublist _))))) ?_
                    refine WQ.back (i + 1) ?_ ?_ ?_ ?_
                    · exact by (show i + 1 ≤ 2 ^ m); omega
                    · (show 2 ^ m - (i + 1) < 2 ^ m - i; omega)
                    · exact ⟨rfl, rfl, rfl, rfl, trivial⟩
                    · rfl
                · skip
                  refine WC.exit ?_
                  refine WQ.then_exit ?_
                  refine WQ.then_exit ?_
                  refine WQ.block_exit ?_
                  refine WQ.then_normal ?_
                  refine WC.seq ?_
                  refine WC.region ?_
                  refine WL.step ?_
                  refine WL.callV F.fun13 rfl rfl (fun w _ => wakes_c w) ?_
                  refine WL.step ?_
                  refine WL.assign rfl rfl ?_
                  refine WL.nil ?_
                  refine WQ.then_normal ?_
                  refine WC.ret ?_
                  refine WQ.chunks (C' := [ob1 Db (.deferred (some []))]) (fun w hS => ((St.pick hS (c := ob1 Db (.deferred (some []))) (by repeat (first | exact Rem.here | apply Rem.there)))).sublist (List.Sublist.cons_cons _ (List.nil_sublist _))) ?_
                  exact WQ.retM1 (rs := [.tmp 4]) rfl (List.Perm.refl _) (.tmp rfl .nil) (fun w hS => ⟨by first | rfl | simp [tup], hS⟩)

end Go.Proofs.Ytkgllhkhdjodeaa
