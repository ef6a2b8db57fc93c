import Derived.Test.YtbippghgkbapnaaPaSolves4
set_option linter.unusedSimpArgs false
set_option linter.unusedVariables false
namespace Go.Proofs.Ytbippghgkbapnaa
open Go Go.Eng Go.Proofs
def largeB (ls : List (List Int)) : Bool := decide (40 < ls.length) || ls.any (fun c => decide (80 < c.length))
theorem large_no {ls : List (List Int)} (h : largeB ls = false) : ls.length ≤ 40 ∧ ∀ c ∈ ls, c.length ≤ 80 := by
  simp only [largeB, Bool.or_eq_false_iff, decide_eq_false_iff_not, List.any_eq_false, decide_eq_true_eq] at h
  exact ⟨by omega, fun c hc => by have := h.2 c hc; omega⟩

theorem Large_c (ls : List (List Int)) (a : Option Addr) (cap : Nat) (us : List Value) (w : World) (hr : RdLL w ls a us) : Pure Try.prog 22 [.slice a ls.length cap] w (.bool (largeB ls)) := by
  refine enter Try.func22 rfl Try.ntmps22 rfl (St.init _) ?_
  refine WC.seq ?_
  refine WC.region ?_
  refine WL.step ?_
  refine WL.assign rfl rfl ?_
  refine WL.nil ?_
  refine WQ.then_normal ?_
  refine WC.seq ?_
  refine WC.seq ?_
  refine WC.region ?_
  refine WL.step ?_
  refine WL.move rfl rfl ?_
  refine WL.step ?_
  refine WL.lenSl F.und38 rfl rfl ?_
  refine WL.step ?_
  refine WL.gtI rfl rfl rfl ?_
  refine WL.nil ?_
  refine WQ.then_normal ?_
  refine WC.cond rfl (fun h6 => ?_) (fun h6 => ?_)
  · skip
    have hres : largeB ls = true := by
      have h9 : decide (40 < ls.length) = true := by simp at h6 ⊢; omega
      unfold largeB; rw [h9]; rfl
    refine WC.seq ?_
    refine WC.region ?_
    refine WL.step ?_
    refine WL.assign rfl rfl ?_
    refine WL.nil ?_
    refine WQ.then_normal ?_
    refine WC.ret ?_
    refine WQ.then_ret ?_
    exact WQ.ret (rs := [.tmp 2]) rfl (.tmp rfl .nil) (fun w hS => ⟨by rw [hres]; rfl, hS⟩)
  · skip
    have hs40 : decide (40 < ls.length) = false := by simp at h6 ⊢; omega
    have hl40 : ls.length ≤ 40 := by simpa using hs40
    refine WC.skip ?_
    refine WQ.then_normal ?_
    refine WC.seq ?_
    refine WC.seq ?_
    refine WC.region ?_
    refine WL.step ?_
    refine WL.assign rfl rfl ?_
    refine WL.nil ?_
    refine WQ.then_normal ?_
    refine WC.block ?_
    refine WC.loop (α := Nat) (fun i => i ≤ ls.length ∧ (ls.take i).any (fun c => decide (80 < c.length)) = false) (fun i => [(0, .slice a ls.length cap), (3, .int .i64 (i : Int))]) (fun _ => []) (fun i => ls.length - i) (0) ?_ ?_ ?_ ?_
    · exact ⟨Nat.zero_le _, rfl⟩
    · exact ⟨rfl, rfl, trivial⟩
    · rfl
    rintro i ⟨hi, hno⟩
    refine WC.seq ?_
    refine WC.seq ?_
    refine WC.region ?_
    refine WL.step ?_
    refine WL.move rfl rfl ?_
    refine WL.step ?_
    refine WL.move rfl rfl ?_
    refine WL.step ?_
    refine WL.lenSl F.und38 rfl rfl ?_
    refine WL.step ?_
    refine WL.ltI rfl rfl rfl ?_
    refine WL.nil ?_
    refine WQ.then_normal ?_
    refine WC.cond rfl (fun h10 => ?_) (fun h10 => ?_)
    · skip
      have hlt : i < ls.length := by simpa using h10
      obtain ⟨c, b, off, a1, cap1, hc, rfl, hcell, hrc⟩ := hr.at hlt
      refine WC.skip ?_
      refine WQ.then_normal ?_
      refine WC.seq ?_
      refine WC.block ?_
      refine WC.seq ?_
      refine WC.region ?_
      refine WL.step ?_
      refine WL.move rfl rfl ?_
      refine WL.step ?_
      refine WL.move rfl rfl ?_
      refine WL.step ?_
      refine WL.indexAddr F.sl38 rfl rfl rfl hlt ?_
      refine WL.step ?_
      refine WL.load1 F.one54 rfl rfl (v := .slice a1 c.length cap1) (fun w hS => hS.oldc (by simpa using hcell) (by simp)) ?_
      refine WL.step ?_
      refine WL.lenSl F.und54 rfl rfl ?_
      refine WL.step ?_
      refine WL.gtI rfl rfl rfl ?_
      refine WL.nil ?_
      refine WQ.then_normal ?_
      refine WC.cond rfl (fun h18 => ?_) (fun h18 => ?_)
      · skip
        have hres : largeB ls = true := by
          have h9 : ls.any (fun c => decide (80 < c.length)) = true := any_at hc (by simp at h18 ⊢; omega)
          unfold largeB; rw [h9, Bool.or_true]
        refine WC.seq ?_
        refine WC.region ?_
        refine WL.step ?_
        refine WL.assign rfl rfl ?_
        refine WL.nil ?_
        refine WQ.then_normal ?_
        refine WC.ret ?_
        refine WQ.block_ret ?_
        refine WQ.then_ret ?_
        refine WQ.then_ret ?_
        refine WQ.block_ret ?_
        refine WQ.then_ret ?_
        exact WQ.ret (rs := [.tmp 2]) rfl (.tmp rfl .nil) (fun w hS => ⟨by rw [hres]; rfl, hS⟩)
      · skip
        refine WC.skip ?_
        refine WQ.block_normal ?_
        refine WQ.then_normal ?_
        refine WC.region ?_
        refine WL.step ?_
        refine WL.move rfl rfl ?_
        refine WL.step ?_
        refine WL.add rfl rfl rfl ⟨by omega, by omega⟩ ?_
        refine WL.step ?_
        refine WL.assign rfl rfl ?_
        refine WL.nil ?_
        refine WQ.back (i + 1) ?_ ?_ ?_ ?_
        · exact ⟨by omega, any_take hc hno (by simp at h18 ⊢; omega)⟩
        · omega
        · exact ⟨rfl, rfl, trivial⟩
        · rfl
    · skip
      have hie : i = ls.length := by simp at h10; omega
      subst hie
      rw [List.take_length] at hno
      have hres : largeB ls = false := by unfold largeB; rw [hs40, hno]; rfl
      refine WC.exit ?_
      refine WQ.then_exit ?_
      refine WQ.then_exit ?_
      refine WQ.block_exit ?_
      refine WQ.then_normal ?_
      refine WC.seq ?_
      refine WC.region ?_
      refine WL.step ?_
      refine WL.assign rfl rfl ?_
      refine WL.nil ?_
      refine WQ.then_normal ?_
      refine WC.ret ?_
      exact WQ.ret (rs := [.tmp 2]) rfl (.tmp rfl .nil) (fun w hS => ⟨by rw [hres]; rfl, hS⟩)

structure RW where
  i : Nat
  G : List Nat
  vs : List Value
  ss : List (List Int)
  aa : Option Addr
  ca : Nat
def Shaped (a : Option Addr) : Prop := a = none ∨ ∃ b off, a = some ⟨b, off, none⟩
abbrev RowsX := { x : (List Nat × List Value) × Option Addr × Nat // Shaped x.2.1 }
def rowsC (x : RowsX) (ls : List (List Int)) : List Chunk := [rowc (.slice x.1.2.1 ls.length x.1.2.2) ls.length 54 1 x.1.1.2, stepsC x.1.1.1 x.1.1.2 ls]

theorem Rows_c (ls : List (List Int)) (a : Option Addr) (cap : Nat) (us : List Value) (hll : ls.length ≤ 1000) (hlens : ∀ c ∈ ls, c.length ≤ 1000) (w : World) (hr : RdLL w ls a us) :
    Calls Try.prog 23 [.slice a ls.length cap].toArray w fun e w' => ∃ x : RowsX, e = .returned (.slice x.1.2.1 ls.length x.1.2.2) ∧ St w [] (rowsC x ls) w' := by
  refine enter Try.func23 rfl Try.ntmps23 rfl (St.init _) ?_
  refine WC.seq ?_
  refine WC.region ?_
  refine WL.step ?_
  refine WL.assign rfl rfl ?_
  refine WL.nil ?_
  refine WQ.then_normal ?_
  refine WC.seq ?_
  refine WC.region ?_
  refine WL.step ?_
  refine WL.assign rfl rfl ?_
  refine WL.nil ?_
  refine WQ.then_normal ?_
  refine WC.seq ?_
  refine WC.seq ?_
  refine WC.region ?_
  refine WL.step ?_
  refine WL.assign rfl rfl ?_
  refine WL.nil ?_
  refine WQ.then_normal ?_
  refine WC.block ?_
  refine WC.chunks (fun w hS => hS.stepsNil) ?_
  refine WC.chunks (fun w hS => (hS.rowNil 54 1)) ?_
  refine WC.loop (α := RW) (fun g => g.i ≤ ls.length ∧ g.ss = ls.take g.i ∧ Shaped g.aa) (fun g => [(0, .slice a ls.length cap), (3, .slice g.aa g.i g.ca), (4, .int .i64 (g.i : Int))]) (fun g => [rowc (.slice g.aa g.i g.ca) g.i 54 1 g.vs, stepsC g.G g.vs g.ss]) (fun g => ls.length - g.i) (⟨0, [], [], [], none, 0⟩) ?_ ?_ ?_ ?_
  · exact ⟨Nat.zero_le _, rfl, .inl rfl⟩
  · exact ⟨rfl, rfl, rfl, trivial⟩
  · rfl
  rintro ⟨i, G, vs, ss, aa, ca⟩ ⟨hi, hss, hsh⟩
  dsimp only at hi hss hsh
  show WC _ _ _ _ _ _ _ [(0, .slice a ls.length cap), (3, .slice aa i ca), (4, .int .i64 (i : Int))] [rowc (.slice aa i ca) i 54 1 vs, stepsC G vs ss]
  refine WC.seq ?_
  refine WC.seq ?_
  refine WC.region ?_
  refine WL.step ?_
  refine WL.move rfl rfl ?_
  refine WL.step ?_
  refine WL.move rfl rfl ?_
  refine WL.step ?_
  refine WL.lenSl F.und38 rfl rfl ?_
  refine WL.step ?_
  refine WL.ltI rfl rfl rfl ?_
  refine WL.nil ?_
  refine WQ.then_normal ?_
  refine WC.cond rfl (fun h8 => ?_) (fun h8 => ?_)
  · skip
    have hlt : i < ls.length := by simpa using h8
    obtain ⟨c, b, off, a1, cap1, hc, rfl, hcell, hrc⟩ := hr.at hlt
    have hcl := hlens c (List.mem_of_getElem? hc)
    refine WC.skip ?_
    refine WQ.then_normal ?_
    refine WC.seq ?_
    refine WC.block ?_
    refine WC.region ?_
    refine WL.step ?_
    refine WL.move rfl rfl ?_
    refine WL.step ?_
    refine WL.move rfl rfl ?_
    refine WL.step ?_
    refine WL.move rfl rfl ?_
    refine WL.step ?_
    refine WL.indexAddr F.sl38 rfl rfl rfl hlt ?_
    refine WL.step ?_
    refine WL.load1 F.one54 rfl rfl (v := .slice a1 c.length cap1) (fun w hS => hS.oldc (by simpa using hcell) (by simp)) ?_
    refine WA.chunks (fun w hS => (hS.rowNil 3 1)) ?_
    refine WL.step ?_
    refine WL.appendC (n := 0) (v := .slice none 0 0) (xs := []) (news := c.map (Value.int .i64)) F.el54 rfl rfl rfl (by repeat (first | exact Rem.here | apply Rem.there)) (fun w hS hm => (hrc.next hS).news hm) (by simp) (ints_one _) (Nat.le_trans (m := 1099511627776) (by omega) (by decide)) (by omega) (fun ad ac => ?_)
    rw [Nat.zero_add, List.nil_append]
    refine WL.step ?_
    refine WL.buildSlice F.sl38 F.ez38 rfl rfl rfl rfl (by repeat (first | exact Built.nil | apply Built.one rfl rfl (by repeat constructor) | apply Built.agg rfl rfl (by repeat constructor))) rfl (fun b17 => ?_)
    refine WL.step ?_
    refine WL.appendE (news := [.slice ad c.length ac]) F.el38 rfl rfl rfl (by repeat (first | exact Rem.here | apply Rem.there)) (fun w hS j u hu => by rw [Nat.zero_add]; exact hS.cell (cs := [.slice ad c.length ac]) (by repeat (first | exact List.Mem.head _ | apply List.Mem.tail)) hu) rfl (by simp [Value.oneCell']) (Nat.le_trans (m := 1099511627776) (by omega) (by decide)) (by omega) (fun a4 c4 => ?_)
    refine WA.know (φ := ∃ g, a4 = some ⟨g, 0, none⟩ ∧ i + 1 = i + 1 ∧ i + 1 ≤ c4) (fun w hS => rowc_addr (hS.ok (rowc (.slice a4 (i + 1) c4) (i + 1) 54 1 (vs ++ [.slice ad c.length ac])) (by repeat (first | exact List.Mem.head _ | apply List.Mem.tail))) (by omega)) (fun ⟨g, hta, _, _⟩ => ?_)
    refine WL.step ?_
    refine WL.assign rfl rfl ?_
    refine WL.nil ?_
    refine WQ.block_normal ?_
    refine WQ.then_normal ?_
    refine WC.region ?_
    refine WL.step ?_
    refine WL.move rfl rfl ?_
    refine WL.step ?_
    refine WL.add rfl rfl rfl ⟨by omega, by omega⟩ ?_
    refine WL.step ?_
    refine WL.assign rfl rfl ?_
    refine WL.nil ?_
    refine WQ.chunksE (C' := fun G2 : List Nat => [rowc (.slice a4 (i + 1) c4) (i + 1) 54 1 (vs ++ [.slice ad c.length ac]), stepsC G2 (vs ++ [.slice ad c.length ac]) (ss ++ [c])]) (fun w hS => ?_) (fun G2 => ?_)
    · obtain ⟨G2, h9⟩ := St.stepsSnocR rfl ((St.pick (St.pick hS (c := rowc (.slice ad c.length ac) c.length 3 1 (c.map (Value.int .i64))) (by repeat (first | exact Rem.here | apply Rem.there))) (c := stepsC G vs ss) (by repeat (first | exact Rem.here | apply Rem.there))))
      exact ⟨G2, ((St.pick (St.pick h9 (c := stepsC G2 (vs ++ [.slice ad c.length ac]) (ss ++ [c])) (by repeat (first | exact Rem.here | apply Rem.there))) (c := rowc (.slice a4 (i + 1) c4) (i + 1) 54 1 (vs ++ [.slice ad c.length ac])) (by repeat (first | exact Rem.here | apply Rem.there)))).sublist (List.Sublist.cons_cons _ (List.Sublist.cons_cons _ (List.nil_sublist _)))⟩
    refine WQ.back (⟨i + 1, G2, vs ++ [.slice ad c.length ac], ss ++ [c], a4, c4⟩) ?_ ?_ ?_ ?_
    · exact ⟨by show i + 1 ≤ _; omega, by show ss ++ [c] = _; rw [hss, List.take_add_one, hc]; rfl, .inr ⟨g, 0, hta⟩⟩
    · (show ls.length - (i + 1) < ls.length - i; omega)
    · exact ⟨rfl, rfl, rfl, trivial⟩
    · rfl
  · skip
    have hie : i = ls.length := by simp at h8; omega
    subst hie
    rw [List.take_length] at hss
    subst hss
    refine WC.exit ?_
    refine WQ.then_exit ?_
    refine WQ.then_exit ?_
    refine WQ.block_exit ?_
    refine WQ.then_normal ?_
    refine WC.seq ?_
    refine WC.region ?_
    refine WL.step ?_
    refine WL.move rfl rfl ?_
    refine WL.step ?_
    refine WL.assign rfl rfl ?_
    refine WL.nil ?_
    refine WQ.then_normal ?_
    refine WC.ret ?_
    exact WQ.ret (rs := [.tmp 2]) rfl (.tmp rfl .nil) (fun w hS => ⟨⟨((G, vs), aa, ca), hsh⟩, rfl, hS⟩)

theorem Alike_c (l : List Int) (a a2 : Option Addr) (cap cap2 : Nat) (hll : l.length ≤ 1099511627776) (w : World) (hr : RdC w l a) (hr2 : RdC w l a2) : Pure Try.prog 34 [.slice a l.length cap, .slice a2 l.length cap2] w (.bool true) := by
  refine enter Try.func34 rfl Try.ntmps34 rfl (St.init _) ?_
  refine WC.seq ?_
  refine WC.region ?_
  refine WL.step ?_
  refine WL.assign rfl rfl ?_
  refine WL.nil ?_
  refine WQ.then_normal ?_
  refine WC.seq ?_
  refine WC.seq ?_
  refine WC.region ?_
  refine WL.step ?_
  refine WL.move rfl rfl ?_
  refine WL.step ?_
  refine WL.lenSl F.und54 rfl rfl ?_
  refine WL.step ?_
  refine WL.move rfl rfl ?_
  refine WL.step ?_
  refine WL.lenSl F.und54 rfl rfl ?_
  refine WL.step ?_
  refine WL.neI rfl rfl rfl ?_
  refine WL.nil ?_
  refine WQ.then_normal ?_
  refine WC.cond rfl (fun h10 => ?_) (fun h10 => ?_)
  · skip
    simp at h10
  · skip
    refine WC.skip ?_
    refine WQ.then_normal ?_
    refine WC.seq ?_
    refine WC.seq ?_
    refine WC.region ?_
    refine WL.step ?_
    refine WL.assign rfl rfl ?_
    refine WL.nil ?_
    refine WQ.then_normal ?_
    refine WC.block ?_
    refine WC.loop (α := Nat) (fun i => i ≤ l.length) (fun i => [(0, .slice a l.length cap), (1, .slice a2 l.length cap2), (5, .int .i64 (i : Int))]) (fun _ => []) (fun i => l.length - i) (0) ?_ ?_ ?_ ?_
    · exact Nat.zero_le _
    · exact ⟨rfl, rfl, rfl, trivial⟩
    · rfl
    rintro i hi
    refine WC.seq ?_
    refine WC.seq ?_
    refine WC.region ?_
    refine WL.step ?_
    refine WL.move rfl rfl ?_
    refine WL.step ?_
    refine WL.move rfl rfl ?_
    refine WL.step ?_
    refine WL.lenSl F.und54 rfl rfl ?_
    refine WL.step ?_
    refine WL.ltI rfl rfl rfl ?_
    refine WL.nil ?_
    refine WQ.then_normal ?_
    refine WC.cond rfl (fun h14 => ?_) (fun h14 => ?_)
    · skip
      have hlt : i < l.length := by simpa using h14
      obtain ⟨x, hx⟩ : ∃ y, l[i]? = some y := ⟨_, List.getElem?_eq_getElem hlt⟩
      obtain ⟨b, off, rfl, hcell⟩ := hr i x hx
      obtain ⟨b2, off2, rfl, hcell2⟩ := hr2 i x hx
      refine WC.skip ?_
      refine WQ.then_normal ?_
      refine WC.seq ?_
      refine WC.block ?_
      refine WC.seq ?_
      refine WC.drawsL (by kernel_rfl) (FactsOk.cons (ds := []) (LoadOk.by (Y := fun w => w.cell? ⟨b, off + i * 1, none⟩ = some (.int .i64 x)) (fun w hS => by rw [Nat.mul_one]; exact hS.oldc hcell (by simp))) (FactsOk.cons (ds := []) (LoadOk.by (Y := fun w => w.cell? ⟨b2, off2 + i * 1, none⟩ = some (.int .i64 x)) (fun w hS => by rw [Nat.mul_one]; exact hS.oldc hcell2 (by simp))) (FactsOk.nil))) ?_
      refine WD.take (i := 0) rfl rfl rfl rfl (by kernel_rfl) (by kernel_rfl) (by kernel_rfl) (fun _ _ _ h => h) (by kernel_rfl) need_none (Yl.move rfl) ?_
      refine WD.take (i := 1) rfl rfl rfl rfl (by kernel_rfl) (by kernel_rfl) (by kernel_rfl) (fun _ _ _ h => h) (by kernel_rfl) need_none (Yl.move rfl) ?_
      refine WD.take (i := 2) rfl rfl rfl rfl (by kernel_rfl) (by kernel_rfl) (by kernel_rfl) (fun _ _ _ h => h) (by kernel_rfl) need_none (Yl.indexAddr F.sl54 rfl rfl hlt) ?_
      refine WD.take (i := 3) rfl rfl rfl rfl (by kernel_rfl) (by kernel_rfl) (by kernel_rfl) (fun _ _ _ h => h) (by kernel_rfl) (need_at 0 9 rfl (by kernel_rfl)) (Yl.load1 F.one3 rfl) ?_
      refine WD.take (i := 4) rfl rfl rfl rfl (by kernel_rfl) (by kernel_rfl) (by kernel_rfl) (fun _ _ _ h => h) (by kernel_rfl) need_none (Yl.move rfl) ?_
      refine WD.take (i := 5) rfl rfl rfl rfl (by kernel_rfl) (by kernel_rfl) (by kernel_rfl) (fun _ _ _ h => h) (by kernel_rfl) need_none (Yl.move rfl) ?_
      refine WD.take (i := 6) rfl rfl rfl rfl (by kernel_rfl) (by kernel_rfl) (by kernel_rfl) (fun _ _ _ h => h) (by kernel_rfl) need_none (Yl.indexAddr F.sl54 rfl rfl hlt) ?_
      refine WD.take (i := 7) rfl rfl rfl rfl (by kernel_rfl) (by kernel_rfl) (by kernel_rfl) (fun _ _ _ h => h) (by kernel_rfl) (need_at 1 9 rfl (by kernel_rfl)) (Yl.load1 F.one3 rfl) ?_
      refine WD.take (i := 8) rfl rfl rfl rfl (by kernel_rfl) (by kernel_rfl) (by kernel_rfl) (fun _ _ _ h => h) (by kernel_rfl) need_none (Yl.neI rfl rfl) ?_
      refine WD.done (by kernel_rfl) ?_
      refine WQ.then_normal ?_
      refine WC.cond rfl (fun h25 => ?_) (fun h25 => ?_)
      · skip
        simp at h25
      · skip
        refine WC.skip ?_
        refine WQ.block_normal ?_
        refine WQ.then_normal ?_
        refine WC.region ?_
        refine WL.step ?_
        refine WL.move rfl rfl ?_
        refine WL.step ?_
        refine WL.add rfl rfl rfl ⟨by omega, by omega⟩ ?_
        refine WL.step ?_
        refine WL.assign rfl rfl ?_
        refine WL.nil ?_
        refine WQ.back (i + 1) ?_ ?_ ?_ ?_
        · exact (by omega)
        · omega
        · exact ⟨rfl, rfl, rfl, trivial⟩
        · rfl
    · skip
      refine WC.exit ?_
      refine WQ.then_exit ?_
      refine WQ.then_exit ?_
      refine WQ.block_exit ?_
      refine WQ.then_normal ?_
      refine WC.seq ?_
      refine WC.region ?_
      refine WL.step ?_
      refine WL.assign rfl rfl ?_
      refine WL.nil ?_
      refine WQ.then_normal ?_
      refine WC.ret ?_
      exact WQ.ret (rs := [.tmp 4]) rfl (.tmp rfl .nil) (fun w hS => ⟨rfl, hS⟩)

theorem lsame_c (ls : List (List Int)) (a a2 : Option Addr) (cap cap2 : Nat) (us us2 : List Value) (hll : ls.length ≤ 1000) (hlens : ∀ c ∈ ls, c.length ≤ 1000) (w : World) (hr : RdLL w ls a us) (hr2 : RdLL w ls a2 us2) : Pure Try.prog 26 [.slice a ls.length cap, .slice a2 ls.length cap2] w (.bool true) := by
  refine enter Try.func26 rfl Try.ntmps26 rfl (St.init _) ?_
  refine WC.seq ?_
  refine WC.region ?_
  refine WL.step ?_
  refine WL.assign rfl rfl ?_
  refine WL.nil ?_
  refine WQ.then_normal ?_
  refine WC.seq ?_
  refine WC.seq ?_
  refine WC.region ?_
  refine WL.step ?_
  refine WL.move rfl rfl ?_
  refine WL.step ?_
  refine WL.lenSl F.und38 rfl rfl ?_
  refine WL.step ?_
  refine WL.move rfl rfl ?_
  refine WL.step ?_
  refine WL.lenSl F.und38 rfl rfl ?_
  refine WL.step ?_
  refine WL.neI rfl rfl rfl ?_
  refine WL.nil ?_
  refine WQ.then_normal ?_
  refine WC.cond rfl (fun h10 => ?_) (fun h10 => ?_)
  · skip
    simp at h10
  · skip
    refine WC.skip ?_
    refine WQ.then_normal ?_
    refine WC.seq ?_
    refine WC.seq ?_
    refine WC.region ?_
    refine WL.step ?_
    refine WL.assign rfl rfl ?_
    refine WL.nil ?_
    refine WQ.then_normal ?_
    refine WC.block ?_
    refine WC.loop (α := Nat) (fun i => i ≤ ls.length) (fun i => [(0, .slice a ls.length cap), (1, .slice a2 ls.length cap2), (5, .int .i64 (i : Int))]) (fun _ => []) (fun i => ls.length - i) (0) ?_ ?_ ?_ ?_
    · exact Nat.zero_le _
    · exact ⟨rfl, rfl, rfl, trivial⟩
    · rfl
    rintro i hi
    refine WC.seq ?_
    refine WC.seq ?_
    refine WC.region ?_
    refine WL.step ?_
    refine WL.move rfl rfl ?_
    refine WL.step ?_
    refine WL.move rfl rfl ?_
    refine WL.step ?_
    refine WL.lenSl F.und38 rfl rfl ?_
    refine WL.step ?_
    refine WL.ltI rfl rfl rfl ?_
    refine WL.nil ?_
    refine WQ.then_normal ?_
    refine WC.cond rfl (fun h14 => ?_) (fun h14 => ?_)
    · skip
      have hlt : i < ls.length := by simpa using h14
      obtain ⟨c, b, off, a1, cap1, hc, rfl, hcell, hrc⟩ := hr.at hlt
      obtain ⟨c2, b2, off2, a3, cap3, hc2, rfl, hcell2, hrc2⟩ := hr2.at hlt
      obtain rfl : c = c2 := by rw [hc] at hc2; injection hc2
      refine WC.skip ?_
      refine WQ.then_normal ?_
      refine WC.seq ?_
      refine WC.block ?_
      refine WC.seq ?_
      refine WC.drawsL (by kernel_rfl) (FactsOk.cons (ds := [8]) (LoadOk.by (Y := fun w => w.cell? ⟨b, off + i * 1, none⟩ = some (.slice a1 c.length cap1)) (fun w hS => by rw [Nat.mul_one]; exact hS.oldc hcell (by simp))) (FactsOk.cons (ds := [8]) (LoadOk.by (Y := fun w => w.cell? ⟨b2, off2 + i * 1, none⟩ = some (.slice a3 c.length cap3)) (fun w hS => by rw [Nat.mul_one]; exact hS.oldc hcell2 (by simp))) (FactsOk.nil))) ?_
      refine WD.take (i := 0) rfl rfl rfl rfl (by kernel_rfl) (by kernel_rfl) (by kernel_rfl) (fun _ _ _ h => h) (by kernel_rfl) need_none (Yl.move rfl) ?_
      refine WD.take (i := 1) rfl rfl rfl rfl (by kernel_rfl) (by kernel_rfl) (by kernel_rfl) (fun _ _ _ h => h) (by kernel_rfl) need_none (Yl.move rfl) ?_
      refine WD.take (i := 2) rfl rfl rfl rfl (by kernel_rfl) (by kernel_rfl) (by kernel_rfl) (fun _ _ _ h => h) (by kernel_rfl) need_none (Yl.indexAddr F.sl38 rfl rfl hlt) ?_
      refine WD.take (i := 3) rfl rfl rfl rfl (by kernel_rfl) (by kernel_rfl) (by kernel_rfl) (fun _ _ _ h => h) (by kernel_rfl) (need_at 0 10 rfl (by kernel_rfl)) (Yl.load1 F.one54 rfl) ?_
      refine WD.take (i := 4) rfl rfl rfl rfl (by kernel_rfl) (by kernel_rfl) (by kernel_rfl) (fun _ _ _ h => h) (by kernel_rfl) need_none (Yl.move rfl) ?_
      refine WD.take (i := 5) rfl rfl rfl rfl (by kernel_rfl) (by kernel_rfl) (by kernel_rfl) (fun _ _ _ h => h) (by kernel_rfl) need_none (Yl.move rfl) ?_
      refine WD.take (i := 6) rfl rfl rfl rfl (by kernel_rfl) (by kernel_rfl) (by kernel_rfl) (fun _ _ _ h => h) (by kernel_rfl) need_none (Yl.indexAddr F.sl38 rfl rfl hlt) ?_
      refine WD.take (i := 7) rfl rfl rfl rfl (by kernel_rfl) (by kernel_rfl) (by kernel_rfl) (fun _ _ _ h => h) (by kernel_rfl) (need_at 1 10 rfl (by kernel_rfl)) (Yl.load1 F.one54 rfl) ?_
      refine WD.one (i := 8) (by kernel_rfl) rfl ?_
      refine WL.callV F.fun34 rfl rfl (fun w hS => Alike_c c a1 a3 cap1 cap3 (by have := hlens c (List.mem_of_getElem? hc); omega) w (hrc.next hS) (hrc2.next hS)) ?_
      refine WD.on (closed_of (by kernel_rfl)) (fun w hS => Sx.gone rfl (Sx.gone rfl (Sx.none))) ?_
      refine WD.take (i := 9) rfl rfl rfl rfl (by kernel_rfl) (by kernel_rfl) (by kernel_rfl) (fun _ _ _ h => h) (by kernel_rfl) need_none (Yl.not rfl) ?_
      refine WD.done (by kernel_rfl) ?_
      refine WQ.then_normal ?_
      refine WC.cond rfl (fun h26 => ?_) (fun h26 => ?_)
      · skip
        simp at h26
      · skip
        refine WC.skip ?_
        refine WQ.block_normal ?_
        refine WQ.then_normal ?_
        refine WC.region ?_
        refine WL.step ?_
        refine WL.move rfl rfl ?_
        refine WL.step ?_
        refine WL.add rfl rfl rfl ⟨by omega, by omega⟩ ?_
        refine WL.step ?_
        refine WL.assign rfl rfl ?_
        refine WL.nil ?_
        refine WQ.back (i + 1) ?_ ?_ ?_ ?_
        · exact (by omega)
        · omega
        · exact ⟨rfl, rfl, rfl, trivial⟩
        · rfl
    · skip
      refine WC.exit ?_
      refine WQ.then_exit ?_
      refine WQ.then_exit ?_
      refine WQ.block_exit ?_
      refine WQ.then_normal ?_
      refine WC.seq ?_
      refine WC.region ?_
      refine WL.step ?_
      refine WL.assign rfl rfl ?_
      refine WL.nil ?_
      refine WQ.then_normal ?_
      refine WC.ret ?_
      exact WQ.ret (rs := [.tmp 4]) rfl (.tmp rfl .nil) (fun w hS => ⟨rfl, hS⟩)

end Go.Proofs.Ytbippghgkbapnaa

namespace Go.Proofs.Ytbippghgkbapnaa
open Go Go.Eng Go.Proofs
def propL (q : Int → Bool) : Nat → List Int
  | 0 => []
  | n + 1 => propL q n ++ (if q ((n : Int) + 1) then [(n : Int) + 1] else if q (-((n : Int) + 1)) then [-((n : Int) + 1)] else [])
def propE (n : Int) (ls : List (List Int)) (fixed : List Int) : List Int × Int :=
  if Fm.mayE n ls = 0 then (if fixed.all (Fm.litB n) then (match Fm.consF 66 ls fixed with
    | some o => if Fm.conflictB ls o then ([], 9) else (propL (fun z => o.contains z) n.toNat, 0)
    | none => ([], 0)) else ([], 2)) else ([], Fm.mayE n ls)
def PropPost (n : Int) (ls : List (List Int)) (fixed : List Int) (w : World) (e : Ending) (w' : World) : Prop :=
  ∃ x : Option Addr × Nat, e = .returned (.tuple #[.slice x.1 (propE n ls fixed).1.length x.2, .int .i64 (propE n ls fixed).2]) ∧
    St w [] [rowc (.slice x.1 (propE n ls fixed).1.length x.2) (propE n ls fixed).1.length 3 1 ((propE n ls fixed).1.map (Value.int .i64))] w'
theorem RdC.one {w : World} {b off : Nat} {x : Int} (h : w.cell? ⟨b, off, none⟩ = some (.int .i64 x)) : RdC w [x] (some ⟨b, off, none⟩) := fun j y hy => by
  match j, hy with
  | 0, hy => simp at hy; subst hy; exact ⟨b, off, rfl, h⟩
  | j + 1, hy => simp at hy

structure P2 where
  j : Nat
  out : List Int
  ad : Option Addr
  ac : Nat

end Go.Proofs.Ytbippghgkbapnaa

namespace Go.Proofs.Ytbippghgkbapnaa
open Go Go.Eng Go.Proofs
end Go.Proofs.Ytbippghgkbapnaa

namespace Go.Proofs.Ytbippghgkbapnaa
open Go Go.Eng Go.Proofs
theorem und4b : Try.prog.underlying 4 = some .bool := by kernel_rfl
theorem run_eqB {a b : Bool} (x y : Operand) (w : World) : (do eqGuard .eql 4 x y (.bool a) (.bool b); binOp .eql 4 (.bool a) (.bool b) : Sem Value).run Try.prog w = .ok (.bool (a == b)) w := by
  have h := run_eql_bool (P := Try.prog) (w := w) 4 a b und4b
  simp [eqGuard, h]
theorem wrap_u64 {n : Nat} (h : n < 18446744073709551616) : IntKind.u64.wrap (n : Int) = (n : Int) := by
  simp only [IntKind.wrap, IntKind.bits, IntKind.signed, Bool.false_and, Bool.false_eq_true, if_false]
  omega
theorem conv39 {n : Nat} (hn : n < 9223372036854775808) (w : World) : (convert 3 109 (.int .i64 (n : Int))).run Try.prog w = .ok (.int .u64 (n : Int)) w := by
  have h := run_convert_int (P := Try.prog) w 3 109 .i64 (n : Int) (by kernel_rfl) (by kernel_rfl)
  rw [show Try.prog.intKind 109 = .u64 by kernel_rfl, wrap_u64 (by omega)] at h
  exact h
theorem sat_bits {M : Nat} {x : Int} (hx : x ≠ 0) : satL M x = ((((M >>> (x.natAbs - 1) % 2 : Nat) : Int) == 1) == decide (0 < x)) := by
  have h1 : ((((M >>> (x.natAbs - 1) % 2 : Nat) : Int) == 1)) = M.testBit (x.natAbs - 1) := by
    rw [Nat.testBit_eq_decide_div_mod_eq, Nat.shiftRight_eq_div_pow, Bool.eq_iff_iff]
    generalize M / 2 ^ (x.natAbs - 1) = q
    rw [beq_iff_eq, decide_eq_true_eq]
    omega
  rw [h1]
  unfold satL
  by_cases hp : 0 < x
  · rw [if_pos hp, decide_eq_true hp, show (x - 1).toNat = x.natAbs - 1 by omega]; simp
  · rw [if_neg hp, decide_eq_false hp, show (-x - 1).toNat = x.natAbs - 1 by omega]; simp

theorem abs_c (x : Int) (hx : -1000 ≤ x ∧ x ≤ 1000) (w : World) : Pure Try.prog 96 [.int .i64 x] w (.int .i64 (x.natAbs : Int)) := by
  refine enter Try.func96 rfl Try.ntmps96 rfl (St.init _) ?_
  refine WC.seq ?_
  refine WC.region ?_
  refine WL.step ?_
  refine WL.assign rfl rfl ?_
  refine WL.nil ?_
  refine WQ.then_normal ?_
  refine WC.seq ?_
  refine WC.seq ?_
  refine WC.region ?_
  refine WL.step ?_
  refine WL.move rfl rfl ?_
  refine WL.step ?_
  refine WL.ltI rfl rfl rfl ?_
  refine WL.nil ?_
  refine WQ.then_normal ?_
  refine WC.cond rfl (fun h4 => ?_) (fun h4 => ?_)
  · skip
    have hp : x < 0 := by simpa using h4
    have he : -x = (x.natAbs : Int) := by omega
    refine WC.seq ?_
    refine WC.region ?_
    refine WL.step ?_
    refine WL.move rfl rfl ?_
    refine WL.step ?_
    refine WL.negI rfl rfl (by omega) ?_
    refine WL.step ?_
    refine WL.assign rfl rfl ?_
    refine WL.nil ?_
    refine WQ.then_normal ?_
    refine WC.ret ?_
    refine WQ.then_ret ?_
    exact WQ.ret (rs := [.tmp 2]) rfl (.tmp rfl .nil) (fun w hS => ⟨congrArg (fun z => Ending.returned (Value.int .i64 z)) he, hS⟩)
  · skip
    have hp : ¬ x < 0 := by simpa using h4
    have he : x = (x.natAbs : Int) := by omega
    refine WC.skip ?_
    refine WQ.then_normal ?_
    refine WC.seq ?_
    refine WC.region ?_
    refine WL.step ?_
    refine WL.move rfl rfl ?_
    refine WL.step ?_
    refine WL.assign rfl rfl ?_
    refine WL.nil ?_
    refine WQ.then_normal ?_
    refine WC.ret ?_
    exact WQ.ret (rs := [.tmp 2]) rfl (.tmp rfl .nil) (fun w hS => ⟨congrArg (fun z => Ending.returned (Value.int .i64 z)) he, hS⟩)

theorem Holds_c (ls : List (List Int)) (M : Nat) (a : Option Addr) (cap : Nat) (us : List Value) (hll : ls.length ≤ 1000) (hlens : ∀ c ∈ ls, c.length ≤ 1000) (hbd : ∀ c ∈ ls, ∀ x ∈ c, Lit x) (w : World) (hr : RdLL w ls a us) : Pure Try.prog 67 [.slice a ls.length cap, .int .u32 (M : Int)] w (.bool (holdsB ls M)) := by
  refine enter Try.func67 rfl Try.ntmps67 rfl (St.init _) ?_
  refine WC.seq ?_
  refine WC.region ?_
  refine WL.step ?_
  refine WL.assign rfl rfl ?_
  refine WL.nil ?_
  refine WQ.then_normal ?_
  refine WC.seq ?_
  refine WC.seq ?_
  refine WC.region ?_
  refine WL.step ?_
  refine WL.assign rfl rfl ?_
  refine WL.nil ?_
  refine WQ.then_normal ?_
  refine WC.block ?_
  refine WC.loop (α := Nat) (fun i => i ≤ ls.length ∧ (ls.take i).all (satC M) = true) (fun i => [(0, .slice a ls.length cap), (1, .int .u32 (M : Int)), (5, .int .i64 (i : Int))]) (fun _ => []) (fun i => ls.length - i) (0) ?_ ?_ ?_ ?_
  · exact ⟨Nat.zero_le _, rfl⟩
  · exact ⟨rfl, rfl, rfl, trivial⟩
  · rfl
  rintro i ⟨hi, hno⟩
  refine WC.seq ?_
  refine WC.seq ?_
  refine WC.region ?_
  refine WL.step ?_
  refine WL.move rfl rfl ?_
  refine WL.step ?_
  refine WL.move rfl rfl ?_
  refine WL.step ?_
  refine WL.lenSl F.und38 rfl rfl ?_
  refine WL.step ?_
  refine WL.ltI rfl rfl rfl ?_
  refine WL.nil ?_
  refine WQ.then_normal ?_
  refine WC.cond rfl (fun h12 => ?_) (fun h12 => ?_)
  · skip
    have hlt : i < ls.length := by simpa using h12
    obtain ⟨c, b, off, a1, cap1, hc, rfl, hcell, hrc⟩ := hr.at hlt
    have hcl := hlens c (List.mem_of_getElem? hc)
    have hcb := hbd c (List.mem_of_getElem? hc)
    refine WC.skip ?_
    refine WQ.then_normal ?_
    refine WC.seq ?_
    refine WC.block ?_
    refine WC.seq ?_
    refine WC.region ?_
    refine WL.step ?_
    refine WL.assign rfl rfl ?_
    refine WL.nil ?_
    refine WQ.then_normal ?_
    refine WC.seq ?_
    refine WC.seq ?_
    refine WC.region ?_
    refine WL.step ?_
    refine WL.assign rfl rfl ?_
    refine WL.nil ?_
    refine WQ.then_normal ?_
    refine WC.block ?_
    refine WC.loop (α := Bool × Nat) (fun g => g.2 ≤ c.length ∧ g.1 = (c.take g.2).any (satL M)) (fun g => [(0, .slice (some ⟨b, off, none⟩) ls.length cap), (1, .int .u32 (M : Int)), (5, .int .i64 (i : Int)), (6, .bool g.1), (7, .int .i64 (g.2 : Int))]) (fun _ => []) (fun g => c.length - g.2) ((false, 0)) ?_ ?_ ?_ ?_
    · exact ⟨Nat.zero_le _, rfl⟩
    · exact ⟨rfl, rfl, rfl, rfl, rfl, trivial⟩
    · rfl
    rintro ⟨fd, j⟩ ⟨hj, hf⟩
    dsimp only at hj hf
    show WC _ _ _ _ _ _ _ [(0, .slice (some ⟨b, off, none⟩) ls.length cap), (1, .int .u32 (M : Int)), (5, .int .i64 (i : Int)), (6, .bool fd), (7, .int .i64 (j : Int))] []
    refine WC.seq ?_
    refine WC.seq ?_
    refine WC.region ?_
    refine WL.step ?_
    refine WL.move rfl rfl ?_
    refine WL.step ?_
    refine WL.move rfl rfl ?_
    refine WL.step ?_
    refine WL.move rfl rfl ?_
    refine WL.step ?_
    refine WL.indexAddr F.sl38 rfl rfl rfl hlt ?_
    refine WL.step ?_
    refine WL.load1 F.one54 rfl rfl (v := .slice a1 c.length cap1) (fun w hS => hS.oldc (by simpa using hcell) (by simp)) ?_
    refine WL.step ?_
    refine WL.lenSl F.und54 rfl rfl ?_
    refine WL.step ?_
    refine WL.ltI rfl rfl rfl ?_
    refine WL.nil ?_
    refine WQ.then_normal ?_
    refine WC.cond rfl (fun h21 => ?_) (fun h21 => ?_)
    · skip
      have hjlt : j < c.length := by simpa using h21
      obtain ⟨x, hx⟩ : ∃ y, c[j]? = some y := ⟨_, List.getElem?_eq_getElem hjlt⟩
      have hxl := hcb x (List.mem_of_getElem? hx)
      obtain ⟨b2, off2, ha1, hcell2⟩ := hrc j x hx
      subst ha1
      refine WC.skip ?_
      refine WQ.then_normal ?_
      refine WC.seq ?_
      refine WC.block ?_
      refine WC.seq ?_
      refine WC.region ?_
      refine WL.step ?_
      refine WL.move rfl rfl ?_
      refine WL.step ?_
      refine WL.move rfl rfl ?_
      refine WL.step ?_
      refine WL.indexAddr F.sl38 rfl rfl rfl hlt ?_
      refine WL.step ?_
      refine WL.load1 F.one54 rfl rfl (v := .slice (some ⟨b2, off2, none⟩) c.length cap1) (fun w hS => hS.oldc (by simpa using hcell) (by simp)) ?_
      refine WL.step ?_
      refine WL.move rfl rfl ?_
      refine WL.step ?_
      refine WL.indexAddr F.sl54 rfl rfl rfl hjlt ?_
      refine WL.step ?_
      refine WL.load1 F.one3 rfl rfl (v := .int .i64 x) (fun w hS => hS.oldc (by simpa using hcell2) (by simp)) ?_
      refine WL.step ?_
      refine WL.assign rfl rfl ?_
      refine WL.nil ?_
      refine WQ.then_normal ?_
      refine WC.cutF [(6, .bool (fd || satL M x)), (0, .slice (some ⟨b, off, none⟩) ls.length cap), (1, .int .u32 (M : Int)), (5, .int .i64 (i : Int)), (7, .int .i64 (j : Int))] (fun Q' hQ => ?_) ?_
      · skip
        refine WC.region ?_
        refine WL.step ?_
        refine WL.move rfl rfl ?_
        refine WL.step ?_
        refine WL.move rfl rfl ?_
        refine WA.splitB (i := 32) rfl (fun g32 => ?_) (fun g32 => ?_)
        · skip
          refine WL.step (WL.guardF rfl rfl rfl rfl rfl rfl ?_)
          refine WL.step (WL.guardF rfl rfl rfl rfl rfl rfl ?_)
          refine WL.step (WL.guardF rfl rfl rfl rfl rfl rfl ?_)
          refine WL.step (WL.guardF rfl rfl rfl rfl rfl rfl ?_)
          refine WL.step (WL.guardF rfl rfl rfl rfl rfl rfl ?_)
          refine WL.step (WL.guardF rfl rfl rfl rfl rfl rfl ?_)
          refine WL.step (WL.guardF rfl rfl rfl rfl rfl rfl ?_)
          refine WL.step (WL.guardF rfl rfl rfl rfl rfl rfl ?_)
          refine WL.step (WL.guardF rfl rfl rfl rfl rfl rfl ?_)
          refine WL.step (WL.guardF rfl rfl rfl rfl rfl rfl ?_)
          refine WL.step (WL.guardF rfl rfl rfl rfl rfl rfl ?_)
          refine WL.step ?_
          refine WL.pickT rfl rfl rfl ?_
          refine WL.step ?_
          refine WL.assign rfl rfl ?_
          refine WL.nil ?_
          refine WQ.byCut hQ (subF_bool ?_ ⟨rfl, rfl, rfl, rfl, trivial⟩ rfl)
          first | (rw [g32, Bool.true_or]) | (rw [g32, Bool.false_or, sat_bits hxl.1])
        · skip
          refine WL.step (WL.guardT rfl rfl rfl ?_)
          refine WL.move rfl rfl ?_
          refine WL.step (WL.guardT rfl rfl rfl ?_)
          refine WL.move rfl rfl ?_
          refine WL.step (WL.guardT rfl rfl rfl ?_)
          refine WL.callV F.fun96 rfl rfl (fun w _ => abs_c x (by omega) w) ?_
          refine WL.step (WL.guardT rfl rfl rfl ?_)
          refine WL.sub rfl rfl rfl ⟨by omega, by omega⟩ ?_
          refine WA.say 36 (.int .i64 ((x.natAbs - 1 : Nat) : Int)) (congrArg (fun z => some (Value.int .i64 z)) (show (x.natAbs : Int) - 1 = ((x.natAbs - 1 : Nat) : Int) by omega)) ?_
          refine WL.step (WL.guardT rfl rfl rfl ?_)
          refine WL.convert rfl rfl (v := .int .u64 ((x.natAbs - 1 : Nat) : Int)) (fun w hS => conv39 (by omega) w) ?_
          refine WL.step (WL.guardT rfl rfl rfl ?_)
          refine WL.bin (v := .int .u32 ((M >>> (x.natAbs - 1) : Nat) : Int)) rfl rfl rfl (fun w => run_shrU (by omega) _ _ _ w) ?_
          refine WL.step (WL.guardT rfl rfl rfl ?_)
          refine WL.bin (v := .int .u32 ((M >>> (x.natAbs - 1) % 2 : Nat) : Int)) rfl rfl rfl (fun w => run_rem2 _ _ _ w) ?_
          refine WL.step (WL.guardT rfl rfl rfl ?_)
          refine WL.eqI rfl rfl rfl ?_
          refine WL.step (WL.guardT rfl rfl rfl ?_)
          refine WL.move rfl rfl ?_
          refine WL.step (WL.guardT rfl rfl rfl ?_)
          refine WL.gtI rfl rfl rfl ?_
          refine WL.step (WL.guardT rfl rfl rfl ?_)
          refine WL.bin (v := .bool ((((M >>> (x.natAbs - 1) % 2 : Nat) : Int) == 1) == decide (0 < x))) rfl rfl rfl (fun w => run_eqB _ _ w) ?_
          refine WL.step ?_
          refine WL.pickF rfl rfl rfl ?_
          refine WL.step ?_
          refine WL.assign rfl rfl ?_
          refine WL.nil ?_
          refine WQ.byCut hQ (subF_bool ?_ ⟨rfl, rfl, rfl, rfl, trivial⟩ rfl)
          first | (rw [g32, Bool.true_or]) | (rw [g32, Bool.false_or, sat_bits hxl.1])
      refine WQ.block_normal ?_
      refine WQ.then_normal ?_
      refine WC.region ?_
      refine WL.step ?_
      refine WL.move rfl rfl ?_
      refine WL.step ?_
      refine WL.add rfl rfl rfl ⟨by omega, by omega⟩ ?_
      refine WL.step ?_
      refine WL.assign rfl rfl ?_
      refine WL.nil ?_
      refine WQ.back ((fd || satL M x, j + 1)) ?_ ?_ ?_ ?_
      · exact ⟨by show j + 1 ≤ _; omega, by show _ = (c.take (j + 1)).any (satL M); rw [List.take_add_one, hx, List.any_append, ← hf]; simp⟩
      · (show c.length - (j + 1) < c.length - j; omega)
      · exact ⟨rfl, rfl, rfl, rfl, rfl, trivial⟩
      · rfl
    · skip
      have hje : j = c.length := by simp at h21; omega
      subst hje
      rw [List.take_length] at hf
      refine WC.exit ?_
      refine WQ.then_exit ?_
      refine WQ.then_exit ?_
      refine WQ.block_exit ?_
      refine WQ.then_normal ?_
      refine WC.seq ?_
      refine WC.region ?_
      refine WL.step ?_
      refine WL.move rfl rfl ?_
      refine WL.step ?_
      refine WL.not rfl rfl ?_
      refine WL.nil ?_
      refine WQ.then_normal ?_
      refine WC.cond rfl (fun h46 => ?_) (fun h46 => ?_)
      · skip
        have hres : holdsB ls M = false := by
          have h9 : satC M c = false := by show c.any (satL M) = false; rw [← hf]; simpa using h46
          exact all_at hc h9
        refine WC.seq ?_
        refine WC.region ?_
        refine WL.step ?_
        refine WL.assign rfl rfl ?_
        refine WL.nil ?_
        refine WQ.then_normal ?_
        refine WC.ret ?_
        refine WQ.block_ret ?_
        refine WQ.then_ret ?_
        refine WQ.then_ret ?_
        refine WQ.block_ret ?_
        refine WQ.then_ret ?_
        exact WQ.ret (rs := [.tmp 4]) rfl (.tmp rfl .nil) (fun w hS => ⟨by rw [hres]; rfl, hS⟩)
      · skip
        refine WC.skip ?_
        refine WQ.block_normal ?_
        refine WQ.then_normal ?_
        refine WC.region ?_
        refine WL.step ?_
        refine WL.move rfl rfl ?_
        refine WL.step ?_
        refine WL.add rfl rfl rfl ⟨by omega, by omega⟩ ?_
        refine WL.step ?_
        refine WL.assign rfl rfl ?_
        refine WL.nil ?_
        refine WQ.back (i + 1) ?_ ?_ ?_ ?_
        · exact ⟨by omega, all_takeB hc hno (by show c.any (satL M) = true; rw [← hf]; simpa using h46)⟩
        · omega
        · exact ⟨rfl, rfl, rfl, trivial⟩
        · rfl
  · skip
    have hie : i = ls.length := by simp at h12; omega
    subst hie
    rw [List.take_length] at hno
    refine WC.exit ?_
    refine WQ.then_exit ?_
    refine WQ.then_exit ?_
    refine WQ.block_exit ?_
    refine WQ.then_normal ?_
    refine WC.seq ?_
    refine WC.region ?_
    refine WL.step ?_
    refine WL.assign rfl rfl ?_
    refine WL.nil ?_
    refine WQ.then_normal ?_
    refine WC.ret ?_
    exact WQ.ret (rs := [.tmp 4]) rfl (.tmp rfl .nil) (fun w hS => ⟨by rw [show holdsB ls M = true from hno]; rfl, hS⟩)

end Go.Proofs.Ytbippghgkbapnaa

namespace Go.Proofs.Ytbippghgkbapnaa
open Go Go.Eng Go.Proofs
def modelsL (n : Nat) (ls : List (List Int)) : List Nat := (List.range (2 ^ n)).filter (holdsB ls)
def u32s (l : List Nat) : List Value := l.map (fun m : Nat => Value.int .u32 (m : Int))
structure MD where
  M : Nat
  out : List Nat
  ad : Option Addr
  ac : Nat

theorem Models_c (n : Nat) (hn : n ≤ 24) (ls : List (List Int)) (a : Option Addr) (cap : Nat) (us : List Value) (hll : ls.length ≤ 1000) (hlens : ∀ c ∈ ls, c.length ≤ 1000) (hbd : ∀ c ∈ ls, ∀ x ∈ c, Lit x) (w : World) (hr : RdLL w ls a us) :
    Calls Try.prog 27 [.int .i64 (n : Int), .slice a ls.length cap].toArray w fun e w' => ∃ x : Option Addr × Nat, e = .returned (.slice x.1 (modelsL n ls).length x.2) ∧ St w [] [rowc (.slice x.1 (modelsL n ls).length x.2) (modelsL n ls).length 41 1 (u32s (modelsL n ls))] w' := by
  have h2n : 2 ^ n ≤ 2 ^ 24 := Nat.pow_le_pow_right (by decide) hn
  refine enter Try.func27 rfl Try.ntmps27 rfl (St.init _) ?_
  refine WC.seq ?_
  refine WC.region ?_
  refine WL.step ?_
  refine WL.assign rfl rfl ?_
  refine WL.nil ?_
  refine WQ.then_normal ?_
  refine WC.seq ?_
  refine WC.region ?_
  refine WL.step ?_
  refine WL.assign rfl rfl ?_
  refine WL.nil ?_
  refine WQ.then_normal ?_
  refine WC.seq ?_
  refine WC.seq ?_
  refine WC.region ?_
  refine WL.step ?_
  refine WL.assign rfl rfl ?_
  refine WL.nil ?_
  refine WQ.then_normal ?_
  refine WC.block ?_
  refine WC.chunks (fun w hS => (hS.rowNil 41 1)) ?_
  refine WC.loop (α := MD) (fun g => g.M ≤ 2 ^ n ∧ g.out = (List.range g.M).filter (holdsB ls)) (fun g => [(0, .int .i64 (n : Int)), (1, .slice a ls.length cap), (5, .slice g.ad g.out.length g.ac), (6, .int .u32 (g.M : Int))]) (fun g => [rowc (.slice g.ad g.out.length g.ac) g.out.length 41 1 (u32s g.out)]) (fun g => 2 ^ n - g.M) (⟨0, [], none, 0⟩) ?_ ?_ ?_ ?_
  · exact ⟨Nat.zero_le _, rfl⟩
  · exact ⟨rfl, rfl, rfl, rfl, trivial⟩
  · rfl
  rintro ⟨M, out, ad, ac⟩ ⟨hM, hout⟩
  dsimp only at hM hout
  show WC _ _ _ _ _ _ _ [(0, .int .i64 (n : Int)), (1, .slice a ls.length cap), (5, .slice ad out.length ac), (6, .int .u32 (M : Int))] [rowc (.slice ad out.length ac) out.length 41 1 (u32s out)]
  have hol : out.length ≤ M := by rw [hout]; exact Nat.le_trans (List.length_filter_le _ _) (by simp)
  refine WC.seq ?_
  refine WC.seq ?_
  refine WC.region ?_
  refine WL.step ?_
  refine WL.move rfl rfl ?_
  refine WL.step ?_
  refine WL.move rfl rfl ?_
  refine WL.step ?_
  refine WL.convert rfl rfl (v := .int .u64 (n : Int)) (fun w hS => conv39 (by omega) w) ?_
  refine WL.step ?_
  refine WL.bin (v := .int .u32 ((2 ^ n : Nat) : Int)) rfl rfl rfl (fun w => run_shl1U (by omega) _ _ _ w) ?_
  refine WL.step ?_
  refine WL.ltI rfl rfl rfl ?_
  refine WL.nil ?_
  refine WQ.then_normal ?_
  refine WC.cond rfl (fun h11 => ?_) (fun h11 => ?_)
  · skip
    have hlt : M < 2 ^ n := by have h12 := of_decide_eq_true h11; omega
    refine WC.skip ?_
    refine WQ.then_normal ?_
    refine WC.seq ?_
    refine WC.block ?_
    refine WC.seq ?_
    refine WC.region ?_
    refine WL.step ?_
    refine WL.move rfl rfl ?_
    refine WL.step ?_
    refine WL.move rfl rfl ?_
    refine WL.step ?_
    refine WL.callV F.fun67 rfl rfl (fun w hS => Holds_c ls M a cap us hll hlens hbd w (hr.next hS)) ?_
    refine WL.nil ?_
    refine WQ.then_normal ?_
    refine WC.cond rfl (fun h16 => ?_) (fun h16 => ?_)
    · skip
      refine WC.region ?_
      refine WL.step ?_
      refine WL.move rfl rfl ?_
      refine WL.step ?_
      refine WL.move rfl rfl ?_
      refine WL.step ?_
      refine WL.buildSlice F.sl48 F.ez48 rfl rfl rfl rfl (by repeat (first | exact Built.nil | apply Built.one rfl rfl (by repeat constructor) | apply Built.agg rfl rfl (by repeat constructor))) rfl (fun b19 => ?_)
      refine WL.step ?_
      refine WL.appendE (news := [.int .u32 (M : Int)]) F.el48 rfl rfl rfl (by repeat (first | exact Rem.here | apply Rem.there)) (fun w hS jj u hu => by rw [Nat.zero_add]; exact hS.cell (cs := [.int .u32 (M : Int)]) (by repeat (first | exact List.Mem.head _ | apply List.Mem.tail)) hu) rfl (by simp [Value.oneCell']) (Nat.le_trans (m := 2199023255552) (by omega) (by decide)) (by omega) (fun ad3 ac3 => ?_)
      refine WL.step ?_
      refine WL.assign rfl rfl ?_
      refine WL.nil ?_
      refine WQ.block_normal ?_
      refine WQ.then_normal ?_
      refine WC.region ?_
      refine WL.step ?_
      refine WL.move rfl rfl ?_
      refine WL.step ?_
      refine WL.bin (v := .int .u32 ((M + 1 : Nat) : Int)) rfl rfl rfl (fun w => run_inc32 (by omega) _ _ _ w) ?_
      refine WL.step ?_
      refine WL.assign rfl rfl ?_
      refine WL.nil ?_
      refine WQ.say 5 (.slice ad3 (out ++ [M]).length ac3) (by rw [List.length_append]; rfl) ?_
      refine WQ.chunks (C' := [rowc (.slice ad3 (out ++ [M]).length ac3) (out ++ [M]).length 41 1 (u32s (out ++ [M]))]) (fun w hS => ?_) ?_
      · have hol2 : (out ++ [M]).length = out.length + 1 := by simp
        rw [hol2, u32s, List.map_append]
        exact ((St.pick hS (c := rowc (.slice ad3 (out.length + 1) ac3) (out.length + 1) 41 1 (u32s out ++ [.int .u32 (M : Int)])) (by repeat (first | exact Rem.here | apply Rem.there)))).sublist (List.Sublist.cons_cons _ (List.nil_sublist _))
      refine WQ.back (⟨M + 1, out ++ [M], ad3, ac3⟩) ?_ ?_ ?_ ?_
      · exact ⟨by show M + 1 ≤ _; omega, by show _ = (List.range (M + 1)).filter _; rw [List.range_succ, List.filter_append, ← hout]; simp [h16]⟩
      · (show 2 ^ n - (M + 1) < 2 ^ n - M; omega)
      · exact ⟨rfl, rfl, rfl, rfl, trivial⟩
      · rfl
    · skip
      refine WC.skip ?_
      refine WQ.block_normal ?_
      refine WQ.then_normal ?_
      refine WC.region ?_
      refine WL.step ?_
      refine WL.move rfl rfl ?_
      refine WL.step ?_
      refine WL.bin (v := .int .u32 ((M + 1 : Nat) : Int)) rfl rfl rfl (fun w => run_inc32 (by omega) _ _ _ w) ?_
      refine WL.step ?_
      refine WL.assign rfl rfl ?_
      refine WL.nil ?_
      refine WQ.back (⟨M + 1, out, ad, ac⟩) ?_ ?_ ?_ ?_
      · exact ⟨by show M + 1 ≤ _; omega, by show _ = (List.range (M + 1)).filter _; rw [List.range_succ, List.filter_append, ← hout]; simp [h16]⟩
      · (show 2 ^ n - (M + 1) < 2 ^ n - M; omega)
      · exact ⟨rfl, rfl, rfl, rfl, trivial⟩
      · rfl
  · skip
    have hMe : M = 2 ^ n := by have h12 := of_decide_eq_false h11; omega
    subst hMe
    refine WC.exit ?_
    refine WQ.then_exit ?_
    refine WQ.then_exit ?_
    refine WQ.block_exit ?_
    refine WQ.then_normal ?_
    refine WC.seq ?_
    refine WC.region ?_
    refine WL.step ?_
    refine WL.move rfl rfl ?_
    refine WL.step ?_
    refine WL.assign rfl rfl ?_
    refine WL.nil ?_
    refine WQ.then_normal ?_
    refine WC.ret ?_
    exact WQ.ret (rs := [.tmp 4]) rfl (.tmp rfl .nil) (fun w hS => ⟨(ad, ac), by rw [← show out = modelsL n ls from hout]; rfl, by rw [← show out = modelsL n ls from hout]; exact ((St.pick hS (c := rowc (.slice ad out.length ac) out.length 41 1 (u32s out)) (by repeat (first | exact Rem.here | apply Rem.there)))).sublist (List.Sublist.cons_cons _ (List.nil_sublist _))⟩)

end Go.Proofs.Ytbippghgkbapnaa

namespace Go.Proofs.Ytbippghgkbapnaa
open Go Go.Eng Go.Proofs
theorem models_mem {n M : Nat} {ls : List (List Int)} : M ∈ modelsL n ls ↔ M < 2 ^ n ∧ holdsB ls M = true := by simp [modelsL]
theorem models_least {n m0 : Nat} {r : List Nat} {ls : List (List Int)} (h : modelsL n ls = m0 :: r) {M : Nat} (hM : M < 2 ^ n) (hh : holdsB ls M = true) : m0 ≤ M := by
  have h1 : M ∈ modelsL n ls := models_mem.2 ⟨hM, hh⟩
  have h2 : (modelsL n ls).Pairwise (· < ·) := List.Pairwise.filter _ (List.pairwise_lt_range)
  rw [h] at h1 h2
  rcases List.mem_cons.1 h1 with h3 | h3
  · omega
  · have := (List.pairwise_cons.1 h2).1 M h3
    omega
theorem good_some {n m0 : Nat} {rs : List Nat} {ls : List (List Int)} {r : Fm.Ans} (hg : GoodS n ls r) (h : modelsL n ls = m0 :: rs) : r.ok = true ∧ r.proof = [] ∧ r.model = m0 := by
  have hm0 := models_mem.1 (show m0 ∈ modelsL n ls by rw [h]; simp)
  rcases hg with ⟨h1, h2, h3, h4, h5⟩ | ⟨_, _, _, _, h5⟩
  · have g1 := h5 m0 hm0.1 hm0.2
    have g2 := models_least h h3 h4
    exact ⟨h1, h2, by omega⟩
  · rw [h5 m0] at hm0
    cases hm0.2
theorem good_none {n : Nat} {ls : List (List Int)} {r : Fm.Ans} (hg : GoodS n ls r) (h : modelsL n ls = []) : r.ok = false ∧ r.model = 0 ∧ verF ls r.proof 0 = -1 ∧ (∀ c ∈ r.proof, (∀ x ∈ c, x ≠ 0 ∧ x.natAbs ≤ n) ∧ c.length ≤ 64) := by
  rcases hg with ⟨h1, h2, h3, h4, h5⟩ | ⟨h1, h2, h3, h4, _⟩
  · have : r.model ∈ modelsL n ls := models_mem.2 ⟨h3, h4⟩
    rw [h] at this
    simp at this
  · exact ⟨h1, h2, h3, h4⟩

theorem FormulaSolves_c (n : Int) (ls : List (List Int)) (a : Option Addr) (cap : Nat) (us : List Value) (w : World) (_hn : -9223372036854775808 ≤ n ∧ n < 9223372036854775808) (hr : RdLL w ls a us) :
    Pure Try.prog 6 [.int .i64 n, .slice a ls.length cap] w (.bool true) := by
  refine enter Try.func6 rfl Try.ntmps6 rfl (St.init _) ?_
  refine WC.seq ?_
  refine WC.region ?_
  refine WL.step ?_
  refine WL.assign rfl rfl ?_
  refine WL.nil ?_
  refine WQ.then_normal ?_
  refine WC.seq ?_
  refine WC.seq ?_
  refine WC.cutF [(21, .bool (largeB ls || (decide (8 < n) && decide (n < 25)))), (0, .int .i64 n), (1, .slice a ls.length cap)] (fun Q' hQ => ?_) ?_
  · skip
    refine WC.region ?_
    refine WL.step ?_
    refine WL.move rfl rfl ?_
    refine WL.step ?_
    refine WL.callV F.fun22 rfl rfl (fun w hS => Large_c ls a cap us w (hr.next hS)) ?_
    refine WL.step ?_
    refine WL.move rfl rfl ?_
    refine WA.splitB (i := 14) rfl (fun g14 => ?_) (fun g14 => ?_)
    · skip
      refine WL.step (WL.guardF rfl rfl rfl rfl rfl rfl ?_)
      refine WL.step (WL.guardF rfl rfl rfl rfl rfl rfl ?_)
      refine WL.step (WL.guardF rfl rfl rfl rfl rfl rfl ?_)
      refine WL.step (WL.guardU rfl rfl rfl rfl rfl ?_)
      refine WL.step (WL.guardU rfl rfl rfl rfl rfl ?_)
      refine WL.step (WL.guardF rfl rfl rfl rfl rfl rfl ?_)
      refine WL.step ?_
      refine WL.pickT rfl rfl rfl ?_
      refine WL.nil ?_
      refine WQ.byCut hQ (subF_bool ?_ ⟨rfl, rfl, trivial⟩ rfl)
      first | (simp [g14]; done) | (simp [g14, g17])
    · skip
      refine WL.step (WL.guardT rfl rfl rfl ?_)
      refine WL.move rfl rfl ?_
      refine WL.step (WL.guardT rfl rfl rfl ?_)
      refine WL.gtI rfl rfl rfl ?_
      refine WL.step (WL.guardT rfl rfl rfl ?_)
      refine WL.move rfl rfl ?_
      refine WA.splitB (i := 17) rfl (fun g17 => ?_) (fun g17 => ?_)
      · skip
        refine WL.step (WL.guardT rfl rfl rfl ?_)
        refine WL.move rfl rfl ?_
        refine WL.step (WL.guardT rfl rfl rfl ?_)
        refine WL.ltI rfl rfl rfl ?_
        refine WL.step (WL.guardT rfl rfl rfl ?_)
        refine WL.pickT rfl rfl rfl ?_
        refine WL.step ?_
        refine WL.pickF rfl rfl rfl ?_
        refine WL.nil ?_
        refine WQ.byCut hQ (subF_bool ?_ ⟨rfl, rfl, trivial⟩ rfl)
        first | (simp [g14]; done) | (simp [g14, g17])
      · skip
        refine WL.step (WL.guardF rfl rfl rfl rfl rfl rfl ?_)
        refine WL.step (WL.guardF rfl rfl rfl rfl rfl rfl ?_)
        refine WL.step (WL.guardT rfl rfl rfl ?_)
        refine WL.pickF rfl rfl rfl ?_
        refine WL.step ?_
        refine WL.pickF rfl rfl rfl ?_
        refine WL.nil ?_
        refine WQ.byCut hQ (subF_bool ?_ ⟨rfl, rfl, trivial⟩ rfl)
        first | (simp [g14]; done) | (simp [g14, g17])
  refine WQ.then_normal ?_
  refine WC.cond rfl (fun h21 => ?_) (fun h21 => ?_)
  · skip
    refine WC.seq ?_
    refine WC.region ?_
    refine WL.step ?_
    refine WL.callV F.fun13 rfl rfl (fun w _ => wakes_c w) ?_
    refine WL.step ?_
    refine WL.assign rfl rfl ?_
    refine WL.nil ?_
    refine WQ.then_normal ?_
    refine WC.ret ?_
    refine WQ.then_ret ?_
    exact WQ.ret (rs := [.tmp 4]) rfl (.tmp rfl .nil) (fun w hS => ⟨by first | rfl | simp [tup], hS.sublist (List.nil_sublist _)⟩)
  · skip
    have hlg : largeB ls = false := by (cases hz : largeB ls with | false => rfl | true => rw [hz] at h21; simp at h21)
    obtain ⟨hl40, hc80⟩ := large_no hlg
    have hk1 : ∀ c ∈ ls, c.length ≤ 1000 := fun c hc => by have := hc80 c hc; omega
    have hn8 : ¬ (8 < n ∧ n < 25) := by (rw [hlg] at h21; simp at h21; omega)
    refine WC.skip ?_
    refine WQ.then_normal ?_
    refine WC.seq ?_
    refine WC.region ?_
    refine WL.step ?_
    refine WL.move rfl rfl ?_
    refine WL.step ?_
    refine WL.callC (β := RowsX) (res := fun x => .slice x.1.2.1 ls.length x.1.2.2) (cs := fun x => [rowc (.slice x.1.2.1 ls.length x.1.2.2) ls.length 54 1 x.1.1.2, stepsC x.1.1.1 x.1.1.2 ls]) (Cs := []) (O' := []) F.fun23 (fun d h => by cases h; rfl) rfl (List.Perm.refl _) (by simp) (by simp) (fun w hS _ => Rows_c ls a cap us (by omega) hk1 w (hr.next hS)) (fun x24 => ?_)
    refine WL.step ?_
    refine WL.assign rfl rfl ?_
    refine WL.nil ?_
    refine WQ.then_normal ?_
    refine WC.seq ?_
    by_cases hme : Fm.mayE n ls = 0
    · skip
      obtain ⟨hm0, hcount, hall⟩ := may_zero hme
      obtain ⟨m, rfl⟩ : ∃ m : Nat, n = (m : Int) := ⟨n.toNat, by omega⟩
      have hm : m ≤ 8 := by (by_cases h8 : m ≤ 8; exact h8; exact absurd ⟨by omega, by omega⟩ hn8)
      have habs := may_abs hme
      have hLL := lit_le (by omega) habs
      obtain ⟨r, hrs, hgood⟩ := solve_all hm habs
      have hrl := solve_len hrs
      simp only [List.length_nil] at hrl
      refine WC.region ?_
      refine WL.step ?_
      refine WL.move rfl rfl ?_
      refine WL.step ?_
      refine WL.move rfl rfl ?_
      refine WL.step ?_
      refine WL.callC (β := (Option Addr × Nat) × List Nat × List Value) (res := fun y => .tuple #[.agg #[.bool r.ok, .int .u32 (r.model : Int), .slice y.1.1 r.proof.length y.1.2], .int .i64 0]) (cs := fun y => [rowc (.slice y.1.1 r.proof.length y.1.2) r.proof.length 54 1 y.2.2, stepsC y.2.1 y.2.2 r.proof]) (Cs := []) (O' := []) F.fun24 (fun d h => by cases h; rfl) rfl (List.Perm.refl _) (by simp) (by simp) (fun w hS _ => (Solve_c m ls x24.1.2.1 x24.1.2.2 x24.1.1.2 x24.2 w (RdLL.made rfl (hS.ok (rowc (.slice x24.1.2.1 ls.length x24.1.2.2) ls.length 54 1 x24.1.1.2) (by repeat (first | exact List.Mem.head _ | apply List.Mem.tail))) (hS.ok (stepsC x24.1.1.1 x24.1.1.2 ls) (by repeat (first | exact List.Mem.head _ | apply List.Mem.tail)))) 2000 r (by omega) (fun k hk _ => (show m = k by omega) ▸ hrs)).mono (fun e w2 h => ?_)) (fun y28 => ?_)
      · rcases h with h | ⟨_, x, F, vs, h1, h2⟩
        · exact absurd hme h.1
        · exact ⟨(x, F, vs), h1, h2⟩
      obtain ⟨⟨pa, pc⟩, pf, pv⟩ := y28
      refine WL.step ?_
      refine WL.move rfl rfl ?_
      refine WL.step ?_
      refine WL.extract rfl rfl rfl ?_
      refine WL.step ?_
      refine WL.extract rfl rfl rfl ?_
      refine WL.step ?_
      refine WL.alloc F.zero43 rfl (fun b6 => ?_)
      refine WL.step ?_
      refine WL.storeN F.agg43 rfl rfl rfl (by simp [Value.oneCell']) (by repeat (first | exact Upd.here | apply Upd.there)) (by repeat constructor) ?_
      refine WL.step ?_
      refine WL.assign rfl rfl ?_
      refine WL.nil ?_
      refine WQ.then_normal ?_
      refine WC.seq ?_
      refine WC.region ?_
      refine WL.step ?_
      refine WL.move rfl rfl ?_
      refine WL.step ?_
      refine WL.move rfl rfl ?_
      refine WL.step ?_
      refine WL.callV (v := .int .i64 0) F.fun25 rfl rfl (fun w hS => by have h9 := rclauses_c m ls a cap us (by omega) (fun c hc => by have := hk1 c hc; omega) w (hr.next hS); rw [hme] at h9; exact h9) ?_
      refine WL.step ?_
      refine WL.assign rfl rfl ?_
      refine WL.nil ?_
      refine WQ.then_normal ?_
      refine WC.seq ?_
      refine WC.seq ?_
      refine WC.region ?_
      refine WL.step ?_
      refine WL.move rfl rfl ?_
      refine WL.step ?_
      refine WL.move rfl rfl ?_
      refine WL.step ?_
      refine WL.neI rfl rfl rfl ?_
      refine WL.step ?_
      refine WL.move rfl rfl ?_
      refine WA.splitB (i := 37) rfl (fun g37 => ?_) (fun g37 => ?_)
      · skip
        simp at g37
      · skip
        refine WL.step (WL.guardT rfl rfl rfl ?_)
        refine WL.move rfl rfl ?_
        refine WL.step (WL.guardT rfl rfl rfl ?_)
        refine WL.move rfl rfl ?_
        refine WL.step (WL.guardT rfl rfl rfl ?_)
        refine WL.callV F.fun26 rfl rfl (fun w hS => lsame_c ls x24.1.2.1 a x24.1.2.2 cap x24.1.1.2 us (by omega) hk1 w (RdLL.made rfl (hS.ok (rowc (.slice x24.1.2.1 ls.length x24.1.2.2) ls.length 54 1 x24.1.1.2) (by repeat (first | exact List.Mem.head _ | apply List.Mem.tail))) (hS.ok (stepsC x24.1.1.1 x24.1.1.2 ls) (by repeat (first | exact List.Mem.head _ | apply List.Mem.tail)))) (hr.next hS)) ?_
        refine WL.step (WL.guardT rfl rfl rfl ?_)
        refine WL.not rfl rfl ?_
        refine WL.step ?_
        refine WL.pickF rfl rfl rfl ?_
        refine WL.nil ?_
        refine WQ.then_normal ?_
        refine WC.cond rfl (fun h42 => ?_) (fun h42 => ?_)
        · skip
          simp at h42
        · skip
          refine WC.skip ?_
          refine WQ.then_normal ?_
          refine WC.seq ?_
          refine WC.seq ?_
          refine WC.region ?_
          refine WL.step ?_
          refine WL.move rfl rfl ?_
          refine WL.step ?_
          refine WL.neI rfl rfl rfl ?_
          refine WL.nil ?_
          refine WQ.then_normal ?_
          refine WC.cond rfl (fun h44 => ?_) (fun h44 => ?_)
          · skip
            simp at h44
          · skip
            refine WC.skip ?_
            refine WQ.then_normal ?_
            refine WC.seq ?_
            refine WC.region ?_
            refine WL.step ?_
            refine WL.move rfl rfl ?_
            refine WL.step ?_
            refine WL.move rfl rfl ?_
            refine WL.step ?_
            refine WL.callC (β := Option Addr × Nat) (res := fun y => .slice y.1 (modelsL m ls).length y.2) (cs := fun y => [rowc (.slice y.1 (modelsL m ls).length y.2) (modelsL m ls).length 41 1 (u32s (modelsL m ls))]) (Cs := []) (O' := []) F.fun27 (fun d h => by cases h; rfl) rfl (List.Perm.refl _) (by simp) (by simp) (fun w hS _ => Models_c m (by omega) ls a cap us (by omega) hk1 hLL w (hr.next hS)) (fun x64 => ?_)
            obtain ⟨ma, mc⟩ := x64
            refine WL.step ?_
            refine WL.assign rfl rfl ?_
            refine WL.nil ?_
            refine WQ.then_normal ?_
            refine WC.seq ?_
            refine WC.seq ?_
            refine WC.region ?_
            refine WL.step ?_
            refine WL.move rfl rfl ?_
            refine WL.step ?_
            refine WL.lenSl F.und48 rfl rfl ?_
            refine WL.step ?_
            refine WL.gtI rfl rfl rfl ?_
            refine WL.nil ?_
            refine WQ.then_normal ?_
            refine WC.cond rfl (fun h67 => ?_) (fun h67 => ?_)
            · skip
              have hpos : 0 < (modelsL m ls).length := by simpa using h67
              obtain ⟨m0, rs, hml⟩ : ∃ m0 rs, modelsL m ls = m0 :: rs := by (cases hz : modelsL m ls with | nil => rw [hz] at hpos; simp at hpos | cons m0 rs => exact ⟨m0, rs, rfl⟩)
              obtain ⟨rok, rpr, rmod⟩ := good_some hgood hml
              have rpl : r.proof.length = 0 := by rw [rpr]; rfl
              refine WC.know (φ := ∃ g, ma = some ⟨g, 0, none⟩ ∧ (modelsL m ls).length = (modelsL m ls).length ∧ (modelsL m ls).length ≤ mc) (fun w hS => rowc_addr (hS.ok (rowc (.slice ma (modelsL m ls).length mc) (modelsL m ls).length 41 1 (u32s (modelsL m ls))) (by repeat (first | exact List.Mem.head _ | apply List.Mem.tail))) (by omega)) (fun ⟨g, hta, _, _⟩ => ?_)
              subst hta
              refine WC.seq ?_
              refine WC.drawsL (by kernel_rfl) (FactsOk.cons (ds := [17]) (LoadOk.one (t := 6) (off := 0) rfl (by repeat (first | exact List.Mem.head _ | apply List.Mem.tail)) rfl) (FactsOk.cons (ds := [17]) (LoadOk.one (t := 6) (off := 1) rfl (by repeat (first | exact List.Mem.head _ | apply List.Mem.tail)) rfl) (FactsOk.cons (ds := [17]) (LoadOk.by (Y := fun w => w.cell? ⟨g, 0 + 0 * 1, none⟩ = some (.int .u32 (m0 : Int))) (fun w hS => rowc_cell (hS.ok (rowc (.slice (some ⟨g, 0, none⟩) (modelsL m ls).length mc) (modelsL m ls).length 41 1 (u32s (modelsL m ls))) (by repeat (first | exact List.Mem.head _ | apply List.Mem.tail))) (u := .int .u32 (m0 : Int)) (by rw [hml]; rfl))) (FactsOk.cons (ds := [17]) (LoadOk.one (t := 6) (off := 2) rfl (by repeat (first | exact List.Mem.head _ | apply List.Mem.tail)) rfl) (FactsOk.nil))))) ?_
              refine WD.take (i := 0) rfl rfl rfl rfl (by kernel_rfl) (by kernel_rfl) (by kernel_rfl) (fun _ _ _ h => h) (by kernel_rfl) need_none (Yl.fieldAddr0 F.fld43_0 rfl) ?_
              refine WD.take (i := 1) rfl rfl rfl rfl (by kernel_rfl) (by kernel_rfl) (by kernel_rfl) (fun _ _ _ h => h) (by kernel_rfl) (need_at 0 20 rfl (by kernel_rfl)) (Yl.load1 F.one4 rfl) ?_
              refine WD.take (i := 2) rfl rfl rfl rfl (by kernel_rfl) (by kernel_rfl) (by kernel_rfl) (fun _ _ _ h => h) (by kernel_rfl) need_none (Yl.move rfl) ?_
              refine fun hcl => WA.splitB (i := 70) rfl (fun g70 => ?_) (fun g70 => ?_)
              · skip
                refine (show WD _ _ _ _ _ _ _ _ _ _ _ _ from ?_) hcl
                refine WD.takeG (i := 3) rfl rfl rfl rfl rfl rfl (by kernel_rfl) (by kernel_rfl) (by kernel_rfl) (fun _ _ _ h => h) (by kernel_rfl) need_none (Yl.fieldAddr0 F.fld43_1 rfl) ?_
                refine WD.takeG (i := 4) rfl rfl rfl rfl rfl rfl (by kernel_rfl) (by kernel_rfl) (by kernel_rfl) (fun _ _ _ h => h) (by kernel_rfl) (need_at 1 20 rfl (by kernel_rfl)) (Yl.load1 F.one41 rfl) ?_
                refine WD.takeG (i := 5) rfl rfl rfl rfl rfl rfl (by kernel_rfl) (by kernel_rfl) (by kernel_rfl) (fun _ _ _ h => h) (by kernel_rfl) need_none (Yl.move rfl) ?_
                refine WD.takeG (i := 6) rfl rfl rfl rfl rfl rfl (by kernel_rfl) (by kernel_rfl) (by kernel_rfl) (fun _ _ _ h => h) (by kernel_rfl) need_none (Yl.indexAddr F.sl48 rfl rfl (i := 0) hpos) ?_
                refine WD.takeG (i := 7) rfl rfl rfl rfl rfl rfl (by kernel_rfl) (by kernel_rfl) (by kernel_rfl) (fun _ _ _ h => h) (by kernel_rfl) (need_at 2 20 rfl (by kernel_rfl)) (Yl.load1 F.one41 rfl) ?_
                refine WD.takeG (i := 8) rfl rfl rfl rfl rfl rfl (by kernel_rfl) (by kernel_rfl) (by kernel_rfl) (fun _ _ _ h => h) (by kernel_rfl) need_none (Yl.eqI rfl rfl) ?_
                refine WD.take (i := 9) rfl rfl rfl rfl (by kernel_rfl) (by kernel_rfl) (by kernel_rfl) (fun _ _ _ h => h) (by kernel_rfl) need_none (Yl.pickT rfl rfl) ?_
                refine WD.take (i := 10) rfl rfl rfl rfl (by kernel_rfl) (by kernel_rfl) (by kernel_rfl) (fun _ _ _ h => h) (by kernel_rfl) need_none (Yl.move rfl) ?_
                refine fun hcl => WA.splitB (i := 78) rfl (fun g78 => ?_) (fun g78 => ?_)
                · skip
                  refine (show WD _ _ _ _ _ _ _ _ _ _ _ _ from ?_) hcl
                  refine WD.takeG (i := 11) rfl rfl rfl rfl rfl rfl (by kernel_rfl) (by kernel_rfl) (by kernel_rfl) (fun _ _ _ h => h) (by kernel_rfl) need_none (Yl.fieldAddr0 F.fld43_2 rfl) ?_
                  refine WD.takeG (i := 12) rfl rfl rfl rfl rfl rfl (by kernel_rfl) (by kernel_rfl) (by kernel_rfl) (fun _ _ _ h => h) (by kernel_rfl) (need_at 3 20 rfl (by kernel_rfl)) (Yl.load1 F.one38 rfl) ?_
                  refine WD.takeG (i := 13) rfl rfl rfl rfl rfl rfl (by kernel_rfl) (by kernel_rfl) (by kernel_rfl) (fun _ _ _ h => h) (by kernel_rfl) need_none (Yl.lenSl F.und38 rfl) ?_
                  refine WD.takeG (i := 14) rfl rfl rfl rfl rfl rfl (by kernel_rfl) (by kernel_rfl) (by kernel_rfl) (fun _ _ _ h => h) (by kernel_rfl) need_none (Yl.eqI rfl rfl) ?_
                  refine WD.take (i := 15) rfl rfl rfl rfl (by kernel_rfl) (by kernel_rfl) (by kernel_rfl) (fun _ _ _ h => h) (by kernel_rfl) need_none (Yl.pickT rfl rfl) ?_
                  refine WD.take (i := 16) rfl rfl rfl rfl (by kernel_rfl) (by kernel_rfl) (by kernel_rfl) (fun _ _ _ h => h) (by kernel_rfl) need_none (Yl.move rfl) ?_
                  refine fun hcl => WA.splitB (i := 84) rfl (fun g84 => ?_) (fun g84 => ?_)
                  · skip
                    refine (show WD _ _ _ _ _ _ _ _ _ _ _ _ from ?_) hcl
                    refine WD.one (i := 17) (by kernel_rfl) rfl ?_
                    refine WL.guardT rfl rfl rfl ?_
                    refine WL.callV F.fun13 rfl rfl (fun w _ => wakes_c w) ?_
                    refine WD.on (closed_of (by kernel_rfl)) (fun w hS => Sx.gone rfl (Sx.gone rfl (Sx.gone rfl (Sx.gone rfl (Sx.none))))) ?_
                    refine WD.take (i := 18) rfl rfl rfl rfl (by kernel_rfl) (by kernel_rfl) (by kernel_rfl) (fun _ _ _ h => h) (by kernel_rfl) need_none (Yl.pickT rfl rfl) ?_
                    refine WD.take (i := 19) rfl rfl rfl rfl (by kernel_rfl) (by kernel_rfl) (by kernel_rfl) (fun _ _ _ h => h) (by kernel_rfl) need_none (Yl.assign rfl) ?_
                    refine WD.done (by kernel_rfl) ?_
                    refine WQ.then_normal ?_
                    refine WC.ret ?_
                    refine WQ.then_ret ?_
                    exact WQ.ret (rs := [.tmp 4]) rfl (.tmp rfl .nil) (fun w hS => ⟨by first | rfl | simp [tup], hS.sublist (List.nil_sublist _)⟩)
                  · skip
                    refine (show WD _ _ _ _ _ _ _ _ _ _ _ _ from ?_) hcl
                    exact absurd g84 (by simp [rok, rmod, rpl])
                · skip
                  refine (show WD _ _ _ _ _ _ _ _ _ _ _ _ from ?_) hcl
                  exact absurd g78 (by simp [rok, rmod, rpl])
              · skip
                refine (show WD _ _ _ _ _ _ _ _ _ _ _ _ from ?_) hcl
                exact absurd g70 (by simp [rok, rmod, rpl])
            · skip
              have hml : modelsL m ls = [] := by (cases hz : modelsL m ls with | nil => rfl | cons m0 rs => rw [hz] at h67; simp at h67)
              obtain ⟨rok, rmod, hvf, hft⟩ := good_none hgood hml
              have rpl : True := trivial
              have hve : verE (m : Int) ls r.proof = (-1, 0) := by (unfold verE; rw [if_pos hme, if_pos (fits_of hft), hvf])
              refine WC.skip ?_
              refine WQ.then_normal ?_
              refine WC.seq ?_
              refine WC.region ?_
              refine WL.step ?_
              refine WL.move rfl rfl ?_
              refine WL.step ?_
              refine WL.move rfl rfl ?_
              refine WL.step ?_
              refine WL.fieldAddr0 F.fld43_2 rfl rfl ?_
              refine WL.step ?_
              refine WL.loadP F.one38 rfl rfl (by repeat (first | exact List.Mem.head _ | apply List.Mem.tail)) rfl ?_
              refine WL.step ?_
              refine WL.callV (v := .tuple #[.int .i64 (-1), .int .i64 0]) F.fun28 rfl rfl (fun w hS => by have h9 := rver_c m ls r.proof a pa cap pc us pv (by omega) (by omega) (fun c hc => by have := hk1 c hc; omega) (fun c hc => by have := (hft c hc).2; omega) w (hr.next hS) (RdLL.made rfl (hS.ok (rowc (.slice pa r.proof.length pc) r.proof.length 54 1 pv) (by repeat (first | exact List.Mem.head _ | apply List.Mem.tail))) (hS.ok (stepsC pf pv r.proof) (by repeat (first | exact List.Mem.head _ | apply List.Mem.tail)))); rw [hve] at h9; exact h9) ?_
              refine WL.step ?_
              refine WL.move rfl rfl ?_
              refine WL.step ?_
              refine WL.extract rfl rfl rfl ?_
              refine WL.step ?_
              refine WL.extract rfl rfl rfl ?_
              refine WL.step ?_
              refine WL.assign rfl rfl ?_
              refine WL.step ?_
              refine WL.assign rfl rfl ?_
              refine WL.nil ?_
              refine WQ.then_normal ?_
              refine WC.seq ?_
              refine WC.region ?_
              refine WL.step ?_
              refine WL.fieldAddr0 F.fld43_0 rfl rfl ?_
              refine WL.step ?_
              refine WL.loadP F.one4 rfl rfl (by repeat (first | exact List.Mem.head _ | apply List.Mem.tail)) rfl ?_
              refine WL.step ?_
              refine WL.not rfl rfl ?_
              refine WL.step ?_
              refine WL.move rfl rfl ?_
              refine WA.splitB (i := 98) rfl (fun g98 => ?_) (fun g98 => ?_)
              · skip
                refine WL.step (WL.guardT rfl rfl rfl ?_)
                refine WL.fieldAddr0 F.fld43_1 rfl rfl ?_
                refine WL.step (WL.guardT rfl rfl rfl ?_)
                refine WL.loadP F.one41 rfl rfl (by repeat (first | exact List.Mem.head _ | apply List.Mem.tail)) rfl ?_
                refine WL.step (WL.guardT rfl rfl rfl ?_)
                refine WL.eqI rfl rfl rfl ?_
                refine WL.step ?_
                refine WL.pickT rfl rfl rfl ?_
                refine WL.step ?_
                refine WL.move rfl rfl ?_
                refine WA.splitB (i := 103) rfl (fun g103 => ?_) (fun g103 => ?_)
                · skip
                  refine WL.step (WL.guardT rfl rfl rfl ?_)
                  refine WL.move rfl rfl ?_
                  refine WL.step (WL.guardT rfl rfl rfl ?_)
                  refine WL.eqI rfl rfl rfl ?_
                  refine WL.step ?_
                  refine WL.pickT rfl rfl rfl ?_
                  refine WL.step ?_
                  refine WL.move rfl rfl ?_
                  refine WA.splitB (i := 107) rfl (fun g107 => ?_) (fun g107 => ?_)
                  · skip
                    refine WL.step (WL.guardT rfl rfl rfl ?_)
                    refine WL.move rfl rfl ?_
                    refine WL.step (WL.guardT rfl rfl rfl ?_)
                    refine WL.eqI rfl rfl rfl ?_
                    refine WL.step ?_
                    refine WL.pickT rfl rfl rfl ?_
                    refine WL.step ?_
                    refine WL.move rfl rfl ?_
                    refine WA.splitB (i := 111) rfl (fun g111 => ?_) (fun g111 => ?_)
                    · skip
                      refine WL.step (WL.guardT rfl rfl rfl ?_)
                      refine WL.callV F.fun13 rfl rfl (fun w _ => wakes_c w) ?_
                      refine WL.step ?_
                      refine WL.pickT rfl rfl rfl ?_
                      refine WL.step ?_
                      refine WL.assign rfl rfl ?_
                      refine WL.nil ?_
                      refine WQ.then_normal ?_
                      refine WC.ret ?_
                      exact WQ.ret (rs := [.tmp 4]) rfl (.tmp rfl .nil) (fun w hS => ⟨by first | rfl | simp [tup], hS.sublist (List.nil_sublist _)⟩)
                    · skip
                      exact absurd g111 (by simp [rok, rmod, rpl])
                  · skip
                    exact absurd g107 (by simp [rok, rmod, rpl])
                · skip
                  exact absurd g103 (by simp [rok, rmod, rpl])
              · skip
                exact absurd g98 (by simp [rok, rmod, rpl])
    · skip
      refine WC.region ?_
      refine WL.step ?_
      refine WL.move rfl rfl ?_
      refine WL.step ?_
      refine WL.move rfl rfl ?_
      refine WL.step ?_
      refine WL.callC (β := Unit) (res := fun y => .tuple #[.agg #[.bool false, .int .u32 0, .slice none 0 0], .int .i64 (Fm.mayE n ls)]) (cs := fun y => []) (Cs := []) (O' := []) F.fun24 (fun d h => by cases h; rfl) rfl (List.Perm.refl _) (by simp) (by simp) (fun w hS _ => (Solve_c n ls x24.1.2.1 x24.1.2.2 x24.1.1.2 x24.2 w (RdLL.made rfl (hS.ok (rowc (.slice x24.1.2.1 ls.length x24.1.2.2) ls.length 54 1 x24.1.1.2) (by repeat (first | exact List.Mem.head _ | apply List.Mem.tail))) (hS.ok (stepsC x24.1.1.1 x24.1.1.2 ls) (by repeat (first | exact List.Mem.head _ | apply List.Mem.tail)))) 0 ⟨false, 0, []⟩ (by omega) (fun k _ h0 => absurd h0 hme)).mono (fun e w2 h => ?_)) (fun y28 => ?_)
      · rcases h with h | h
        · exact ⟨(), h.2.1, h.2.2⟩
        · exact absurd h.1 hme
      refine WL.step ?_
      refine WL.move rfl rfl ?_
      refine WL.step ?_
      refine WL.extract rfl rfl rfl ?_
      refine WL.step ?_
      refine WL.extract rfl rfl rfl ?_
      refine WL.step ?_
      refine WL.alloc F.zero43 rfl (fun b6 => ?_)
      refine WL.step ?_
      refine WL.storeN F.agg43 rfl rfl rfl (by simp [Value.oneCell']) (by repeat (first | exact Upd.here | apply Upd.there)) (by repeat constructor) ?_
      refine WL.step ?_
      refine WL.assign rfl rfl ?_
      refine WL.nil ?_
      refine WQ.then_normal ?_
      refine WC.seq ?_
      refine WC.region ?_
      refine WL.step ?_
      refine WL.move rfl rfl ?_
      refine WL.step ?_
      refine WL.move rfl rfl ?_
      refine WL.step ?_
      refine WL.callV F.fun25 rfl rfl (fun w hS => rclauses_c n ls a cap us (by omega) (fun c hc => by have := hk1 c hc; omega) w (hr.next hS)) ?_
      refine WL.step ?_
      refine WL.assign rfl rfl ?_
      refine WL.nil ?_
      refine WQ.then_normal ?_
      refine WC.seq ?_
      refine WC.seq ?_
      refine WC.region ?_
      refine WL.step ?_
      refine WL.move rfl rfl ?_
      refine WL.step ?_
      refine WL.move rfl rfl ?_
      refine WL.step ?_
      refine WL.neI rfl rfl rfl ?_
      refine WL.step ?_
      refine WL.move rfl rfl ?_
      refine WA.splitB (i := 37) rfl (fun g37 => ?_) (fun g37 => ?_)
      · skip
        simp at g37
      · skip
        refine WL.step (WL.guardT rfl rfl rfl ?_)
        refine WL.move rfl rfl ?_
        refine WL.step (WL.guardT rfl rfl rfl ?_)
        refine WL.move rfl rfl ?_
        refine WL.step (WL.guardT rfl rfl rfl ?_)
        refine WL.callV F.fun26 rfl rfl (fun w hS => lsame_c ls x24.1.2.1 a x24.1.2.2 cap x24.1.1.2 us (by omega) hk1 w (RdLL.made rfl (hS.ok (rowc (.slice x24.1.2.1 ls.length x24.1.2.2) ls.length 54 1 x24.1.1.2) (by repeat (first | exact List.Mem.head _ | apply List.Mem.tail))) (hS.ok (stepsC x24.1.1.1 x24.1.1.2 ls) (by repeat (first | exact List.Mem.head _ | apply List.Mem.tail)))) (hr.next hS)) ?_
        refine WL.step (WL.guardT rfl rfl rfl ?_)
        refine WL.not rfl rfl ?_
        refine WL.step ?_
        refine WL.pickF rfl rfl rfl ?_
        refine WL.nil ?_
        refine WQ.then_normal ?_
        refine WC.cond rfl (fun h42 => ?_) (fun h42 => ?_)
        · skip
          simp at h42
        · skip
          refine WC.skip ?_
          refine WQ.then_normal ?_
          refine WC.seq ?_
          refine WC.seq ?_
          refine WC.region ?_
          refine WL.step ?_
          refine WL.move rfl rfl ?_
          refine WL.step ?_
          refine WL.neI rfl rfl rfl ?_
          refine WL.nil ?_
          refine WQ.then_normal ?_
          refine WC.cond rfl (fun h44 => ?_) (fun h44 => ?_)
          · skip
            refine WC.seq ?_
            refine WC.region ?_
            refine WL.step ?_
            refine WL.fieldAddr0 F.fld43_0 rfl rfl ?_
            refine WL.step ?_
            refine WL.loadP F.one4 rfl rfl (by repeat (first | exact List.Mem.head _ | apply List.Mem.tail)) rfl ?_
            refine WL.step ?_
            refine WL.not rfl rfl ?_
            refine WL.step ?_
            refine WL.move rfl rfl ?_
            refine WA.splitB (i := 48) rfl (fun g48 => ?_) (fun g48 => ?_)
            · skip
              refine WL.step (WL.guardT rfl rfl rfl ?_)
              refine WL.fieldAddr0 F.fld43_1 rfl rfl ?_
              refine WL.step (WL.guardT rfl rfl rfl ?_)
              refine WL.loadP F.one41 rfl rfl (by repeat (first | exact List.Mem.head _ | apply List.Mem.tail)) rfl ?_
              refine WL.step (WL.guardT rfl rfl rfl ?_)
              refine WL.eqI rfl rfl rfl ?_
              refine WL.step ?_
              refine WL.pickT rfl rfl rfl ?_
              refine WL.step ?_
              refine WL.move rfl rfl ?_
              refine WA.splitB (i := 53) rfl (fun g53 => ?_) (fun g53 => ?_)
              · skip
                refine WL.step (WL.guardT rfl rfl rfl ?_)
                refine WL.fieldAddr0 F.fld43_2 rfl rfl ?_
                refine WL.step (WL.guardT rfl rfl rfl ?_)
                refine WL.loadP F.one38 rfl rfl (by repeat (first | exact List.Mem.head _ | apply List.Mem.tail)) rfl ?_
                refine WL.step (WL.guardT rfl rfl rfl ?_)
                refine WL.lenSl F.und38 rfl rfl ?_
                refine WL.step (WL.guardT rfl rfl rfl ?_)
                refine WL.eqI rfl rfl rfl ?_
                refine WL.step ?_
                refine WL.pickT rfl rfl rfl ?_
                refine WL.step ?_
                refine WL.move rfl rfl ?_
                refine WA.splitB (i := 59) rfl (fun g59 => ?_) (fun g59 => ?_)
                · skip
                  refine WL.step (WL.guardT rfl rfl rfl ?_)
                  refine WL.callV F.fun13 rfl rfl (fun w _ => wakes_c w) ?_
                  refine WL.step ?_
                  refine WL.pickT rfl rfl rfl ?_
                  refine WL.step ?_
                  refine WL.assign rfl rfl ?_
                  refine WL.nil ?_
                  refine WQ.then_normal ?_
                  refine WC.ret ?_
                  refine WQ.then_ret ?_
                  exact WQ.ret (rs := [.tmp 4]) rfl (.tmp rfl .nil) (fun w hS => ⟨by first | rfl | simp [tup], hS.sublist (List.nil_sublist _)⟩)
                · skip
                  exact absurd g59 (by simp)
              · skip
                exact absurd g53 (by simp)
            · skip
              exact absurd g48 (by simp)
          · skip
            exact absurd (by simpa using h44) hme

end Go.Proofs.Ytbippghgkbapnaa
