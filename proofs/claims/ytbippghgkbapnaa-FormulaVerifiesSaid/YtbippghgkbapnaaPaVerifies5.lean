import Derived.Test.YtbippghgkbapnaaPaVerifies4
set_option linter.unusedSimpArgs false
set_option linter.unusedVariables false
namespace Go.Proofs.Ytbippghgkbapnaa
open Go Go.Eng Go.Proofs
def largeB (ls : List (List Int)) : Bool := decide (40 < ls.length) || ls.any (fun c => decide (80 < c.length))
theorem large_no {ls : List (List Int)} (h : largeB ls = false) : ls.length ≤ 40 ∧ ∀ c ∈ ls, c.length ≤ 80 := by
  simp only [largeB, Bool.or_eq_false_iff, decide_eq_false_iff_not, List.any_eq_false, decide_eq_true_eq] at h
  exact ⟨by omega, fun c hc => by have := h.2 c hc; omega⟩

theorem Large_c (ls : List (List Int)) (a : Option Addr) (cap : Nat) (us : List Value) (w : World) (hr : RdLL w ls a us) : Pure Try.prog 22 [.slice a ls.length cap] w (.bool (largeB ls)) := by
  refine enter Try.func22 rfl Try.ntmps22 rfl (St.init _) ?_
  refine WC.seq ?_
  refine WC.region ?_
  refine WL.step ?_
  refine WL.assign rfl rfl ?_
  refine WL.nil ?_
  refine WQ.then_normal ?_
  refine WC.seq ?_
  refine WC.seq ?_
  refine WC.region ?_
  refine WL.step ?_
  refine WL.move rfl rfl ?_
  refine WL.step ?_
  refine WL.lenSl F.und38 rfl rfl ?_
  refine WL.step ?_
  refine WL.gtI rfl rfl rfl ?_
  refine WL.nil ?_
  refine WQ.then_normal ?_
  refine WC.cond rfl (fun h6 => ?_) (fun h6 => ?_)
  · skip
    have hres : largeB ls = true := by
      have h9 : decide (40 < ls.length) = true := by simp at h6 ⊢; omega
      unfold largeB; rw [h9]; rfl
    refine WC.seq ?_
    refine WC.region ?_
    refine WL.step ?_
    refine WL.assign rfl rfl ?_
    refine WL.nil ?_
    refine WQ.then_normal ?_
    refine WC.ret ?_
    refine WQ.then_ret ?_
    exact WQ.ret (rs := [.tmp 2]) rfl (.tmp rfl .nil) (fun w hS => ⟨by rw [hres]; rfl, hS⟩)
  · skip
    have hs40 : decide (40 < ls.length) = false := by simp at h6 ⊢; omega
    have hl40 : ls.length ≤ 40 := by simpa using hs40
    refine WC.skip ?_
    refine WQ.then_normal ?_
    refine WC.seq ?_
    refine WC.seq ?_
    refine WC.region ?_
    refine WL.step ?_
    refine WL.assign rfl rfl ?_
    refine WL.nil ?_
    refine WQ.then_normal ?_
    refine WC.block ?_
    refine WC.loop (α := Nat) (fun i => i ≤ ls.length ∧ (ls.take i).any (fun c => decide (80 < c.length)) = false) (fun i => [(0, .slice a ls.length cap), (3, .int .i64 (i : Int))]) (fun _ => []) (fun i => ls.length - i) (0) ?_ ?_ ?_ ?_
    · exact ⟨Nat.zero_le _, rfl⟩
    · exact ⟨rfl, rfl, trivial⟩
    · rfl
    rintro i ⟨hi, hno⟩
    refine WC.seq ?_
    refine WC.seq ?_
    refine WC.region ?_
    refine WL.step ?_
    refine WL.move rfl rfl ?_
    refine WL.step ?_
    refine WL.move rfl rfl ?_
    refine WL.step ?_
    refine WL.lenSl F.und38 rfl rfl ?_
    refine WL.step ?_
    refine WL.ltI rfl rfl rfl ?_
    refine WL.nil ?_
    refine WQ.then_normal ?_
    refine WC.cond rfl (fun h10 => ?_) (fun h10 => ?_)
    · skip
      have hlt : i < ls.length := by simpa using h10
      obtain ⟨c, b, off, a1, cap1, hc, rfl, hcell, hrc⟩ := hr.at hlt
      refine WC.skip ?_
      refine WQ.then_normal ?_
      refine WC.seq ?_
      refine WC.block ?_
      refine WC.seq ?_
      refine WC.region ?_
      refine WL.step ?_
      refine WL.move rfl rfl ?_
      refine WL.step ?_
      refine WL.move rfl rfl ?_
      refine WL.step ?_
      refine WL.indexAddr F.sl38 rfl rfl rfl hlt ?_
      refine WL.step ?_
      refine WL.load1 F.one54 rfl rfl (v := .slice a1 c.length cap1) (fun w hS => hS.oldc (by simpa using hcell) (by simp)) ?_
      refine WL.step ?_
      refine WL.lenSl F.und54 rfl rfl ?_
      refine WL.step ?_
      refine WL.gtI rfl rfl rfl ?_
      refine WL.nil ?_
      refine WQ.then_normal ?_
      refine WC.cond rfl (fun h18 => ?_) (fun h18 => ?_)
      · skip
        have hres : largeB ls = true := by
          have h9 : ls.any (fun c => decide (80 < c.length)) = true := any_at hc (by simp at h18 ⊢; omega)
          unfold largeB; rw [h9, Bool.or_true]
        refine WC.seq ?_
        refine WC.region ?_
        refine WL.step ?_
        refine WL.assign rfl rfl ?_
        refine WL.nil ?_
        refine WQ.then_normal ?_
        refine WC.ret ?_
        refine WQ.block_ret ?_
        refine WQ.then_ret ?_
        refine WQ.then_ret ?_
        refine WQ.block_ret ?_
        refine WQ.then_ret ?_
        exact WQ.ret (rs := [.tmp 2]) rfl (.tmp rfl .nil) (fun w hS => ⟨by rw [hres]; rfl, hS⟩)
      · skip
        refine WC.skip ?_
        refine WQ.block_normal ?_
        refine WQ.then_normal ?_
        refine WC.region ?_
        refine WL.step ?_
        refine WL.move rfl rfl ?_
        refine WL.step ?_
        refine WL.add rfl rfl rfl ⟨by omega, by omega⟩ ?_
        refine WL.step ?_
        refine WL.assign rfl rfl ?_
        refine WL.nil ?_
        refine WQ.back (i + 1) ?_ ?_ ?_ ?_
        · exact ⟨by omega, any_take hc hno (by simp at h18 ⊢; omega)⟩
        · omega
        · exact ⟨rfl, rfl, trivial⟩
        · rfl
    · skip
      have hie : i = ls.length := by simp at h10; omega
      subst hie
      rw [List.take_length] at hno
      have hres : largeB ls = false := by unfold largeB; rw [hs40, hno]; rfl
      refine WC.exit ?_
      refine WQ.then_exit ?_
      refine WQ.then_exit ?_
      refine WQ.block_exit ?_
      refine WQ.then_normal ?_
      refine WC.seq ?_
      refine WC.region ?_
      refine WL.step ?_
      refine WL.assign rfl rfl ?_
      refine WL.nil ?_
      refine WQ.then_normal ?_
      refine WC.ret ?_
      exact WQ.ret (rs := [.tmp 2]) rfl (.tmp rfl .nil) (fun w hS => ⟨by rw [hres]; rfl, hS⟩)

structure RW where
  i : Nat
  G : List Nat
  vs : List Value
  ss : List (List Int)
  aa : Option Addr
  ca : Nat
def Shaped (a : Option Addr) : Prop := a = none ∨ ∃ b off, a = some ⟨b, off, none⟩
abbrev RowsX := { x : (List Nat × List Value) × Option Addr × Nat // Shaped x.2.1 }
def rowsC (x : RowsX) (ls : List (List Int)) : List Chunk := [rowc (.slice x.1.2.1 ls.length x.1.2.2) ls.length 54 1 x.1.1.2, stepsC x.1.1.1 x.1.1.2 ls]

theorem Rows_c (ls : List (List Int)) (a : Option Addr) (cap : Nat) (us : List Value) (hll : ls.length ≤ 1000) (hlens : ∀ c ∈ ls, c.length ≤ 1000) (w : World) (hr : RdLL w ls a us) :
    Calls Try.prog 23 [.slice a ls.length cap].toArray w fun e w' => ∃ x : RowsX, e = .returned (.slice x.1.2.1 ls.length x.1.2.2) ∧ St w [] (rowsC x ls) w' := by
  refine enter Try.func23 rfl Try.ntmps23 rfl (St.init _) ?_
  refine WC.seq ?_
  refine WC.region ?_
  refine WL.step ?_
  refine WL.assign rfl rfl ?_
  refine WL.nil ?_
  refine WQ.then_normal ?_
  refine WC.seq ?_
  refine WC.region ?_
  refine WL.step ?_
  refine WL.assign rfl rfl ?_
  refine WL.nil ?_
  refine WQ.then_normal ?_
  refine WC.seq ?_
  refine WC.seq ?_
  refine WC.region ?_
  refine WL.step ?_
  refine WL.assign rfl rfl ?_
  refine WL.nil ?_
  refine WQ.then_normal ?_
  refine WC.block ?_
  refine WC.chunks (fun w hS => hS.stepsNil) ?_
  refine WC.chunks (fun w hS => (hS.rowNil 54 1)) ?_
  refine WC.loop (α := RW) (fun g => g.i ≤ ls.length ∧ g.ss = ls.take g.i ∧ Shaped g.aa) (fun g => [(0, .slice a ls.length cap), (3, .slice g.aa g.i g.ca), (4, .int .i64 (g.i : Int))]) (fun g => [rowc (.slice g.aa g.i g.ca) g.i 54 1 g.vs, stepsC g.G g.vs g.ss]) (fun g => ls.length - g.i) (⟨0, [], [], [], none, 0⟩) ?_ ?_ ?_ ?_
  · exact ⟨Nat.zero_le _, rfl, .inl rfl⟩
  · exact ⟨rfl, rfl, rfl, trivial⟩
  · rfl
  rintro ⟨i, G, vs, ss, aa, ca⟩ ⟨hi, hss, hsh⟩
  dsimp only at hi hss hsh
  show WC _ _ _ _ _ _ _ [(0, .slice a ls.length cap), (3, .slice aa i ca), (4, .int .i64 (i : Int))] [rowc (.slice aa i ca) i 54 1 vs, stepsC G vs ss]
  refine WC.seq ?_
  refine WC.seq ?_
  refine WC.region ?_
  refine WL.step ?_
  refine WL.move rfl rfl ?_
  refine WL.step ?_
  refine WL.move rfl rfl ?_
  refine WL.step ?_
  refine WL.lenSl F.und38 rfl rfl ?_
  refine WL.step ?_
  refine WL.ltI rfl rfl rfl ?_
  refine WL.nil ?_
  refine WQ.then_normal ?_
  refine WC.cond rfl (fun h8 => ?_) (fun h8 => ?_)
  · skip
    have hlt : i < ls.length := by simpa using h8
    obtain ⟨c, b, off, a1, cap1, hc, rfl, hcell, hrc⟩ := hr.at hlt
    have hcl := hlens c (List.mem_of_getElem? hc)
    refine WC.skip ?_
    refine WQ.then_normal ?_
    refine WC.seq ?_
    refine WC.block ?_
    refine WC.region ?_
    refine WL.step ?_
    refine WL.move rfl rfl ?_
    refine WL.step ?_
    refine WL.move rfl rfl ?_
    refine WL.step ?_
    refine WL.move rfl rfl ?_
    refine WL.step ?_
    refine WL.indexAddr F.sl38 rfl rfl rfl hlt ?_
    refine WL.step ?_
    refine WL.load1 F.one54 rfl rfl (v := .slice a1 c.length cap1) (fun w hS => hS.oldc (by simpa using hcell) (by simp)) ?_
    refine WA.chunks (fun w hS => (hS.rowNil 3 1)) ?_
    refine WL.step ?_
    refine WL.appendC (n := 0) (v := .slice none 0 0) (xs := []) (news := c.map (Value.int .i64)) F.el54 rfl rfl rfl (by repeat (first | exact Rem.here | apply Rem.there)) (fun w hS hm => (hrc.next hS).news hm) (by simp) (ints_one _) (Nat.le_trans (m := 1099511627776) (by omega) (by decide)) (by omega) (fun ad ac => ?_)
    rw [Nat.zero_add, List.nil_append]
    refine WL.step ?_
    refine WL.buildSlice F.sl38 F.ez38 rfl rfl rfl rfl (by repeat (first | exact Built.nil | apply Built.one rfl rfl (by repeat constructor) | apply Built.agg rfl rfl (by repeat constructor))) rfl (fun b17 => ?_)
    refine WL.step ?_
    refine WL.appendE (news := [.slice ad c.length ac]) F.el38 rfl rfl rfl (by repeat (first | exact Rem.here | apply Rem.there)) (fun w hS j u hu => by rw [Nat.zero_add]; exact hS.cell (cs := [.slice ad c.length ac]) (by repeat (first | exact List.Mem.head _ | apply List.Mem.tail)) hu) rfl (by simp [Value.oneCell']) (Nat.le_trans (m := 1099511627776) (by omega) (by decide)) (by omega) (fun a4 c4 => ?_)
    refine WA.know (φ := ∃ g, a4 = some ⟨g, 0, none⟩ ∧ i + 1 = i + 1 ∧ i + 1 ≤ c4) (fun w hS => rowc_addr (hS.ok (rowc (.slice a4 (i + 1) c4) (i + 1) 54 1 (vs ++ [.slice ad c.length ac])) (by repeat (first | exact List.Mem.head _ | apply List.Mem.tail))) (by omega)) (fun ⟨g, hta, _, _⟩ => ?_)
    refine WL.step ?_
    refine WL.assign rfl rfl ?_
    refine WL.nil ?_
    refine WQ.block_normal ?_
    refine WQ.then_normal ?_
    refine WC.region ?_
    refine WL.step ?_
    refine WL.move rfl rfl ?_
    refine WL.step ?_
    refine WL.add rfl rfl rfl ⟨by omega, by omega⟩ ?_
    refine WL.step ?_
    refine WL.assign rfl rfl ?_
    refine WL.nil ?_
    refine WQ.chunksE (C' := fun G2 : List Nat => [rowc (.slice a4 (i + 1) c4) (i + 1) 54 1 (vs ++ [.slice ad c.length ac]), stepsC G2 (vs ++ [.slice ad c.length ac]) (ss ++ [c])]) (fun w hS => ?_) (fun G2 => ?_)
    · obtain ⟨G2, h9⟩ := St.stepsSnocR rfl ((St.pick (St.pick hS (c := rowc (.slice ad c.length ac) c.length 3 1 (c.map (Value.int .i64))) (by repeat (first | exact Rem.here | apply Rem.there))) (c := stepsC G vs ss) (by repeat (first | exact Rem.here | apply Rem.there))))
      exact ⟨G2, ((St.pick (St.pick h9 (c := stepsC G2 (vs ++ [.slice ad c.length ac]) (ss ++ [c])) (by repeat (first | exact Rem.here | apply Rem.there))) (c := rowc (.slice a4 (i + 1) c4) (i + 1) 54 1 (vs ++ [.slice ad c.length ac])) (by repeat (first | exact Rem.here | apply Rem.there)))).sublist (List.Sublist.cons_cons _ (List.Sublist.cons_cons _ (List.nil_sublist _)))⟩
    refine WQ.back (⟨i + 1, G2, vs ++ [.slice ad c.length ac], ss ++ [c], a4, c4⟩) ?_ ?_ ?_ ?_
    · exact ⟨by show i + 1 ≤ _; omega, by show ss ++ [c] = _; rw [hss, List.take_add_one, hc]; rfl, .inr ⟨g, 0, hta⟩⟩
    · (show ls.length - (i + 1) < ls.length - i; omega)
    · exact ⟨rfl, rfl, rfl, trivial⟩
    · rfl
  · skip
    have hie : i = ls.length := by simp at h8; omega
    subst hie
    rw [List.take_length] at hss
    subst hss
    refine WC.exit ?_
    refine WQ.then_exit ?_
    refine WQ.then_exit ?_
    refine WQ.block_exit ?_
    refine WQ.then_normal ?_
    refine WC.seq ?_
    refine WC.region ?_
    refine WL.step ?_
    refine WL.move rfl rfl ?_
    refine WL.step ?_
    refine WL.assign rfl rfl ?_
    refine WL.nil ?_
    refine WQ.then_normal ?_
    refine WC.ret ?_
    exact WQ.ret (rs := [.tmp 2]) rfl (.tmp rfl .nil) (fun w hS => ⟨⟨((G, vs), aa, ca), hsh⟩, rfl, hS⟩)

theorem Alike_c (l : List Int) (a a2 : Option Addr) (cap cap2 : Nat) (hll : l.length ≤ 1099511627776) (w : World) (hr : RdC w l a) (hr2 : RdC w l a2) : Pure Try.prog 34 [.slice a l.length cap, .slice a2 l.length cap2] w (.bool true) := by
  refine enter Try.func34 rfl Try.ntmps34 rfl (St.init _) ?_
  refine WC.seq ?_
  refine WC.region ?_
  refine WL.step ?_
  refine WL.assign rfl rfl ?_
  refine WL.nil ?_
  refine WQ.then_normal ?_
  refine WC.seq ?_
  refine WC.seq ?_
  refine WC.region ?_
  refine WL.step ?_
  refine WL.move rfl rfl ?_
  refine WL.step ?_
  refine WL.lenSl F.und54 rfl rfl ?_
  refine WL.step ?_
  refine WL.move rfl rfl ?_
  refine WL.step ?_
  refine WL.lenSl F.und54 rfl rfl ?_
  refine WL.step ?_
  refine WL.neI rfl rfl rfl ?_
  refine WL.nil ?_
  refine WQ.then_normal ?_
  refine WC.cond rfl (fun h10 => ?_) (fun h10 => ?_)
  · skip
    simp at h10
  · skip
    refine WC.skip ?_
    refine WQ.then_normal ?_
    refine WC.seq ?_
    refine WC.seq ?_
    refine WC.region ?_
    refine WL.step ?_
    refine WL.assign rfl rfl ?_
    refine WL.nil ?_
    refine WQ.then_normal ?_
    refine WC.block ?_
    refine WC.loop (α := Nat) (fun i => i ≤ l.length) (fun i => [(0, .slice a l.length cap), (1, .slice a2 l.length cap2), (5, .int .i64 (i : Int))]) (fun _ => []) (fun i => l.length - i) (0) ?_ ?_ ?_ ?_
    · exact Nat.zero_le _
    · exact ⟨rfl, rfl, rfl, trivial⟩
    · rfl
    rintro i hi
    refine WC.seq ?_
    refine WC.seq ?_
    refine WC.region ?_
    refine WL.step ?_
    refine WL.move rfl rfl ?_
    refine WL.step ?_
    refine WL.move rfl rfl ?_
    refine WL.step ?_
    refine WL.lenSl F.und54 rfl rfl ?_
    refine WL.step ?_
    refine WL.ltI rfl rfl rfl ?_
    refine WL.nil ?_
    refine WQ.then_normal ?_
    refine WC.cond rfl (fun h14 => ?_) (fun h14 => ?_)
    · skip
      have hlt : i < l.length := by simpa using h14
      obtain ⟨x, hx⟩ : ∃ y, l[i]? = some y := ⟨_, List.getElem?_eq_getElem hlt⟩
      obtain ⟨b, off, rfl, hcell⟩ := hr i x hx
      obtain ⟨b2, off2, rfl, hcell2⟩ := hr2 i x hx
      refine WC.skip ?_
      refine WQ.then_normal ?_
      refine WC.seq ?_
      refine WC.block ?_
      refine WC.seq ?_
      refine WC.drawsL (by kernel_rfl) (FactsOk.cons (ds := []) (LoadOk.by (Y := fun w => w.cell? ⟨b, off + i * 1, none⟩ = some (.int .i64 x)) (fun w hS => by rw [Nat.mul_one]; exact hS.oldc hcell (by simp))) (FactsOk.cons (ds := []) (LoadOk.by (Y := fun w => w.cell? ⟨b2, off2 + i * 1, none⟩ = some (.int .i64 x)) (fun w hS => by rw [Nat.mul_one]; exact hS.oldc hcell2 (by simp))) (FactsOk.nil))) ?_
      refine WD.take (i := 0) rfl rfl rfl rfl (by kernel_rfl) (by kernel_rfl) (by kernel_rfl) (fun _ _ _ h => h) (by kernel_rfl) need_none (Yl.move rfl) ?_
      refine WD.take (i := 1) rfl rfl rfl rfl (by kernel_rfl) (by kernel_rfl) (by kernel_rfl) (fun _ _ _ h => h) (by kernel_rfl) need_none (Yl.move rfl) ?_
      refine WD.take (i := 2) rfl rfl rfl rfl (by kernel_rfl) (by kernel_rfl) (by kernel_rfl) (fun _ _ _ h => h) (by kernel_rfl) need_none (Yl.indexAddr F.sl54 rfl rfl hlt) ?_
      refine WD.take (i := 3) rfl rfl rfl rfl (by kernel_rfl) (by kernel_rfl) (by kernel_rfl) (fun _ _ _ h => h) (by kernel_rfl) (need_at 0 9 rfl (by kernel_rfl)) (Yl.load1 F.one3 rfl) ?_
      refine WD.take (i := 4) rfl rfl rfl rfl (by kernel_rfl) (by kernel_rfl) (by kernel_rfl) (fun _ _ _ h => h) (by kernel_rfl) need_none (Yl.move rfl) ?_
      refine WD.take (i := 5) rfl rfl rfl rfl (by kernel_rfl) (by kernel_rfl) (by kernel_rfl) (fun _ _ _ h => h) (by kernel_rfl) need_none (Yl.move rfl) ?_
      refine WD.take (i := 6) rfl rfl rfl rfl (by kernel_rfl) (by kernel_rfl) (by kernel_rfl) (fun _ _ _ h => h) (by kernel_rfl) need_none (Yl.indexAddr F.sl54 rfl rfl hlt) ?_
      refine WD.take (i := 7) rfl rfl rfl rfl (by kernel_rfl) (by kernel_rfl) (by kernel_rfl) (fun _ _ _ h => h) (by kernel_rfl) (need_at 1 9 rfl (by kernel_rfl)) (Yl.load1 F.one3 rfl) ?_
      refine WD.take (i := 8) rfl rfl rfl rfl (by kernel_rfl) (by kernel_rfl) (by kernel_rfl) (fun _ _ _ h => h) (by kernel_rfl) need_none (Yl.neI rfl rfl) ?_
      refine WD.done (by kernel_rfl) ?_
      refine WQ.then_normal ?_
      refine WC.cond rfl (fun h25 => ?_) (fun h25 => ?_)
      · skip
        simp at h25
      · skip
        refine WC.skip ?_
        refine WQ.block_normal ?_
        refine WQ.then_normal ?_
        refine WC.region ?_
        refine WL.step ?_
        refine WL.move rfl rfl ?_
        refine WL.step ?_
        refine WL.add rfl rfl rfl ⟨by omega, by omega⟩ ?_
        refine WL.step ?_
        refine WL.assign rfl rfl ?_
        refine WL.nil ?_
        refine WQ.back (i + 1) ?_ ?_ ?_ ?_
        · exact (by omega)
        · omega
        · exact ⟨rfl, rfl, rfl, trivial⟩
        · rfl
    · skip
      refine WC.exit ?_
      refine WQ.then_exit ?_
      refine WQ.then_exit ?_
      refine WQ.block_exit ?_
      refine WQ.then_normal ?_
      refine WC.seq ?_
      refine WC.region ?_
      refine WL.step ?_
      refine WL.assign rfl rfl ?_
      refine WL.nil ?_
      refine WQ.then_normal ?_
      refine WC.ret ?_
      exact WQ.ret (rs := [.tmp 4]) rfl (.tmp rfl .nil) (fun w hS => ⟨rfl, hS⟩)

theorem lsame_c (ls : List (List Int)) (a a2 : Option Addr) (cap cap2 : Nat) (us us2 : List Value) (hll : ls.length ≤ 1000) (hlens : ∀ c ∈ ls, c.length ≤ 1000) (w : World) (hr : RdLL w ls a us) (hr2 : RdLL w ls a2 us2) : Pure Try.prog 26 [.slice a ls.length cap, .slice a2 ls.length cap2] w (.bool true) := by
  refine enter Try.func26 rfl Try.ntmps26 rfl (St.init _) ?_
  refine WC.seq ?_
  refine WC.region ?_
  refine WL.step ?_
  refine WL.assign rfl rfl ?_
  refine WL.nil ?_
  refine WQ.then_normal ?_
  refine WC.seq ?_
  refine WC.seq ?_
  refine WC.region ?_
  refine WL.step ?_
  refine WL.move rfl rfl ?_
  refine WL.step ?_
  refine WL.lenSl F.und38 rfl rfl ?_
  refine WL.step ?_
  refine WL.move rfl rfl ?_
  refine WL.step ?_
  refine WL.lenSl F.und38 rfl rfl ?_
  refine WL.step ?_
  refine WL.neI rfl rfl rfl ?_
  refine WL.nil ?_
  refine WQ.then_normal ?_
  refine WC.cond rfl (fun h10 => ?_) (fun h10 => ?_)
  · skip
    simp at h10
  · skip
    refine WC.skip ?_
    refine WQ.then_normal ?_
    refine WC.seq ?_
    refine WC.seq ?_
    refine WC.region ?_
    refine WL.step ?_
    refine WL.assign rfl rfl ?_
    refine WL.nil ?_
    refine WQ.then_normal ?_
    refine WC.block ?_
    refine WC.loop (α := Nat) (fun i => i ≤ ls.length) (fun i => [(0, .slice a ls.length cap), (1, .slice a2 ls.length cap2), (5, .int .i64 (i : Int))]) (fun _ => []) (fun i => ls.length - i) (0) ?_ ?_ ?_ ?_
    · exact Nat.zero_le _
    · exact ⟨rfl, rfl, rfl, trivial⟩
    · rfl
    rintro i hi
    refine WC.seq ?_
    refine WC.seq ?_
    refine WC.region ?_
    refine WL.step ?_
    refine WL.move rfl rfl ?_
    refine WL.step ?_
    refine WL.move rfl rfl ?_
    refine WL.step ?_
    refine WL.lenSl F.und38 rfl rfl ?_
    refine WL.step ?_
    refine WL.ltI rfl rfl rfl ?_
    refine WL.nil ?_
    refine WQ.then_normal ?_
    refine WC.cond rfl (fun h14 => ?_) (fun h14 => ?_)
    · skip
      have hlt : i < ls.length := by simpa using h14
      obtain ⟨c, b, off, a1, cap1, hc, rfl, hcell, hrc⟩ := hr.at hlt
      obtain ⟨c2, b2, off2, a3, cap3, hc2, rfl, hcell2, hrc2⟩ := hr2.at hlt
      obtain rfl : c = c2 := by rw [hc] at hc2; injection hc2
      refine WC.skip ?_
      refine WQ.then_normal ?_
      refine WC.seq ?_
      refine WC.block ?_
      refine WC.seq ?_
      refine WC.drawsL (by kernel_rfl) (FactsOk.cons (ds := [8]) (LoadOk.by (Y := fun w => w.cell? ⟨b, off + i * 1, none⟩ = some (.slice a1 c.length cap1)) (fun w hS => by rw [Nat.mul_one]; exact hS.oldc hcell (by simp))) (FactsOk.cons (ds := [8]) (LoadOk.by (Y := fun w => w.cell? ⟨b2, off2 + i * 1, none⟩ = some (.slice a3 c.length cap3)) (fun w hS => by rw [Nat.mul_one]; exact hS.oldc hcell2 (by simp))) (FactsOk.nil))) ?_
      refine WD.take (i := 0) rfl rfl rfl rfl (by kernel_rfl) (by kernel_rfl) (by kernel_rfl) (fun _ _ _ h => h) (by kernel_rfl) need_none (Yl.move rfl) ?_
      refine WD.take (i := 1) rfl rfl rfl rfl (by kernel_rfl) (by kernel_rfl) (by kernel_rfl) (fun _ _ _ h => h) (by kernel_rfl) need_none (Yl.move rfl) ?_
      refine WD.take (i := 2) rfl rfl rfl rfl (by kernel_rfl) (by kernel_rfl) (by kernel_rfl) (fun _ _ _ h => h) (by kernel_rfl) need_none (Yl.indexAddr F.sl38 rfl rfl hlt) ?_
      refine WD.take (i := 3) rfl rfl rfl rfl (by kernel_rfl) (by kernel_rfl) (by kernel_rfl) (fun _ _ _ h => h) (by kernel_rfl) (need_at 0 10 rfl (by kernel_rfl)) (Yl.load1 F.one54 rfl) ?_
      refine WD.take (i := 4) rfl rfl rfl rfl (by kernel_rfl) (by kernel_rfl) (by kernel_rfl) (fun _ _ _ h => h) (by kernel_rfl) need_none (Yl.move rfl) ?_
      refine WD.take (i := 5) rfl rfl rfl rfl (by kernel_rfl) (by kernel_rfl) (by kernel_rfl) (fun _ _ _ h => h) (by kernel_rfl) need_none (Yl.move rfl) ?_
      refine WD.take (i := 6) rfl rfl rfl rfl (by kernel_rfl) (by kernel_rfl) (by kernel_rfl) (fun _ _ _ h => h) (by kernel_rfl) need_none (Yl.indexAddr F.sl38 rfl rfl hlt) ?_
      refine WD.take (i := 7) rfl rfl rfl rfl (by kernel_rfl) (by kernel_rfl) (by kernel_rfl) (fun _ _ _ h => h) (by kernel_rfl) (need_at 1 10 rfl (by kernel_rfl)) (Yl.load1 F.one54 rfl) ?_
      refine WD.one (i := 8) (by kernel_rfl) rfl ?_
      refine WL.callV F.fun34 rfl rfl (fun w hS => Alike_c c a1 a3 cap1 cap3 (by have := hlens c (List.mem_of_getElem? hc); omega) w (hrc.next hS) (hrc2.next hS)) ?_
      refine WD.on (closed_of (by kernel_rfl)) (fun w hS => Sx.gone rfl (Sx.gone rfl (Sx.none))) ?_
      refine WD.take (i := 9) rfl rfl rfl rfl (by kernel_rfl) (by kernel_rfl) (by kernel_rfl) (fun _ _ _ h => h) (by kernel_rfl) need_none (Yl.not rfl) ?_
      refine WD.done (by kernel_rfl) ?_
      refine WQ.then_normal ?_
      refine WC.cond rfl (fun h26 => ?_) (fun h26 => ?_)
      · skip
        simp at h26
      · skip
        refine WC.skip ?_
        refine WQ.block_normal ?_
        refine WQ.then_normal ?_
        refine WC.region ?_
        refine WL.step ?_
        refine WL.move rfl rfl ?_
        refine WL.step ?_
        refine WL.add rfl rfl rfl ⟨by omega, by omega⟩ ?_
        refine WL.step ?_
        refine WL.assign rfl rfl ?_
        refine WL.nil ?_
        refine WQ.back (i + 1) ?_ ?_ ?_ ?_
        · exact (by omega)
        · omega
        · exact ⟨rfl, rfl, rfl, trivial⟩
        · rfl
    · skip
      refine WC.exit ?_
      refine WQ.then_exit ?_
      refine WQ.then_exit ?_
      refine WQ.block_exit ?_
      refine WQ.then_normal ?_
      refine WC.seq ?_
      refine WC.region ?_
      refine WL.step ?_
      refine WL.assign rfl rfl ?_
      refine WL.nil ?_
      refine WQ.then_normal ?_
      refine WC.ret ?_
      exact WQ.ret (rs := [.tmp 4]) rfl (.tmp rfl .nil) (fun w hS => ⟨rfl, hS⟩)

end Go.Proofs.Ytbippghgkbapnaa

namespace Go.Proofs.Ytbippghgkbapnaa
open Go Go.Eng Go.Proofs
theorem FormulaVerifies_c (n : Int) (ls : List (List Int)) (a : Option Addr) (cap : Nat) (us : List Value) (ps : List (List Int)) (a2 : Option Addr) (cap2 : Nat) (us2 : List Value) (w : World) (_hn : -9223372036854775808 ≤ n ∧ n < 9223372036854775808) (hr : RdLL w ls a us) (hr2 : RdLL w ps a2 us2) :
    Pure Try.prog 8 [.int .i64 n, .slice a ls.length cap, .slice a2 ps.length cap2] w (.bool true) := by
  refine enter Try.func8 rfl Try.ntmps8 rfl (St.init _) ?_
  refine WC.seq ?_
  refine WC.region ?_
  refine WL.step ?_
  refine WL.assign rfl rfl ?_
  refine WL.nil ?_
  refine WQ.then_normal ?_
  refine WC.seq ?_
  refine WC.seq ?_
  refine WC.region ?_
  refine WL.step ?_
  refine WL.move rfl rfl ?_
  refine WL.step ?_
  refine WL.callV F.fun22 rfl rfl (fun w hS => Large_c ls a cap us w (hr.next hS)) ?_
  refine WL.step ?_
  refine WL.move rfl rfl ?_
  refine WA.splitB (i := 15) rfl (fun g15 => ?_) (fun g15 => ?_)
  · skip
    refine WL.step (WL.guardF rfl rfl rfl rfl rfl rfl ?_)
    refine WL.step (WL.guardF rfl rfl rfl rfl rfl rfl ?_)
    refine WL.step ?_
    refine WL.pickT rfl rfl rfl ?_
    refine WL.nil ?_
    refine WQ.then_normal ?_
    refine WC.condT rfl ?_
    refine WC.seq ?_
    refine WC.region ?_
    refine WL.step ?_
    refine WL.callV F.fun13 rfl rfl (fun w _ => wakes_c w) ?_
    refine WL.step ?_
    refine WL.assign rfl rfl ?_
    refine WL.nil ?_
    refine WQ.then_normal ?_
    refine WC.ret ?_
    refine WQ.then_ret ?_
    exact WQ.ret (rs := [.tmp 6]) rfl (.tmp rfl .nil) (fun w hS => ⟨by first | rfl | simp [tup], hS.sublist (List.nil_sublist _)⟩)
  · skip
    refine WL.step (WL.guardT rfl rfl rfl ?_)
    refine WL.move rfl rfl ?_
    refine WL.step (WL.guardT rfl rfl rfl ?_)
    refine WL.callV F.fun22 rfl rfl (fun w hS => Large_c ps a2 cap2 us2 w (hr2.next hS)) ?_
    refine WL.step ?_
    refine WL.pickF rfl rfl rfl ?_
    refine WL.nil ?_
    refine WQ.then_normal ?_
    refine WC.cond rfl (fun h18 => ?_) (fun h18 => ?_)
    · skip
      refine WC.seq ?_
      refine WC.region ?_
      refine WL.step ?_
      refine WL.callV F.fun13 rfl rfl (fun w _ => wakes_c w) ?_
      refine WL.step ?_
      refine WL.assign rfl rfl ?_
      refine WL.nil ?_
      refine WQ.then_normal ?_
      refine WC.ret ?_
      refine WQ.then_ret ?_
      exact WQ.ret (rs := [.tmp 6]) rfl (.tmp rfl .nil) (fun w hS => ⟨by first | rfl | simp [tup], hS.sublist (List.nil_sublist _)⟩)
    · skip
      obtain ⟨hl40, hc80⟩ := large_no g15
      obtain ⟨hp40, hd80⟩ := large_no h18
      have hk1 : ∀ c ∈ ls, c.length ≤ 1000 := fun c hc => by have := hc80 c hc; omega
      have hk2 : ∀ c ∈ ps, c.length ≤ 1000 := fun c hc => by have := hd80 c hc; omega
      refine WC.skip ?_
      refine WQ.then_normal ?_
      refine WC.seq ?_
      refine WC.region ?_
      refine WL.step ?_
      refine WL.move rfl rfl ?_
      refine WL.step ?_
      refine WL.callC (β := RowsX) (res := fun x => .slice x.1.2.1 ls.length x.1.2.2) (cs := fun x => [rowc (.slice x.1.2.1 ls.length x.1.2.2) ls.length 54 1 x.1.1.2, stepsC x.1.1.1 x.1.1.2 ls]) (Cs := []) (O' := []) F.fun23 (fun d h => by cases h; rfl) rfl (List.Perm.refl _) (by simp) (by simp) (fun w hS _ => Rows_c ls a cap us (by omega) hk1 w (hr.next hS)) (fun x21 => ?_)
      refine WL.step ?_
      refine WL.move rfl rfl ?_
      refine WL.step ?_
      refine WL.callC (β := RowsX) (res := fun x => .slice x.1.2.1 ps.length x.1.2.2) (cs := fun x => [rowc (.slice x.1.2.1 ps.length x.1.2.2) ps.length 54 1 x.1.1.2, stepsC x.1.1.1 x.1.1.2 ps]) (Cs := []) (O' := []) F.fun23 (fun d h => by cases h; rfl) rfl (List.Perm.refl _) (by simp) (by simp) (fun w hS _ => Rows_c ps a2 cap2 us2 (by omega) hk2 w (hr2.next hS)) (fun x23 => ?_)
      refine WL.step ?_
      refine WL.assign rfl rfl ?_
      refine WL.step ?_
      refine WL.assign rfl rfl ?_
      refine WL.nil ?_
      refine WQ.then_normal ?_
      refine WC.seq ?_
      refine WC.region ?_
      refine WL.step ?_
      refine WL.move rfl rfl ?_
      refine WL.step ?_
      refine WL.move rfl rfl ?_
      refine WL.step ?_
      refine WL.move rfl rfl ?_
      refine WL.step ?_
      refine WL.callV F.fun31 rfl rfl (fun w hS => pver_c n ls ps x21.1.2.1 x23.1.2.1 x21.1.2.2 x23.1.2.2 x21.1.1.2 x23.1.1.2 (by omega) (by omega) (fun c hc => by have := hk1 c hc; omega) (fun c hc => by have := hk2 c hc; omega) x21.2 w (RdLL.made rfl (hS.ok (rowc (.slice x21.1.2.1 ls.length x21.1.2.2) ls.length 54 1 x21.1.1.2) (by repeat (first | exact List.Mem.head _ | apply List.Mem.tail))) (hS.ok (stepsC x21.1.1.1 x21.1.1.2 ls) (by repeat (first | exact List.Mem.head _ | apply List.Mem.tail)))) (RdLL.made rfl (hS.ok (rowc (.slice x23.1.2.1 ps.length x23.1.2.2) ps.length 54 1 x23.1.1.2) (by repeat (first | exact List.Mem.head _ | apply List.Mem.tail))) (hS.ok (stepsC x23.1.1.1 x23.1.1.2 ps) (by repeat (first | exact List.Mem.head _ | apply List.Mem.tail))))) ?_
      refine WL.step ?_
      refine WL.move rfl rfl ?_
      refine WL.step ?_
      refine WL.extract rfl rfl rfl ?_
      refine WL.step ?_
      refine WL.extract rfl rfl rfl ?_
      refine WL.step ?_
      refine WL.assign rfl rfl ?_
      refine WL.step ?_
      refine WL.assign rfl rfl ?_
      refine WL.nil ?_
      refine WQ.then_normal ?_
      refine WC.seq ?_
      refine WC.region ?_
      refine WL.step ?_
      refine WL.move rfl rfl ?_
      refine WL.step ?_
      refine WL.move rfl rfl ?_
      refine WL.step ?_
      refine WL.move rfl rfl ?_
      refine WL.step ?_
      refine WL.callV F.fun28 rfl rfl (fun w hS => rver_c n ls ps a a2 cap cap2 us us2 (by omega) (by omega) (fun c hc => by have := hk1 c hc; omega) (fun c hc => by have := hk2 c hc; omega) w (hr.next hS) (hr2.next hS)) ?_
      refine WL.step ?_
      refine WL.move rfl rfl ?_
      refine WL.step ?_
      refine WL.extract rfl rfl rfl ?_
      refine WL.step ?_
      refine WL.extract rfl rfl rfl ?_
      refine WL.step ?_
      refine WL.assign rfl rfl ?_
      refine WL.step ?_
      refine WL.assign rfl rfl ?_
      refine WL.nil ?_
      refine WQ.then_normal ?_
      refine WC.seq ?_
      refine WC.region ?_
      refine WL.step ?_
      refine WL.move rfl rfl ?_
      refine WL.step ?_
      refine WL.move rfl rfl ?_
      refine WL.step ?_
      refine WL.eqI rfl rfl rfl ?_
      refine WL.step ?_
      refine WL.move rfl rfl ?_
      refine WA.splitB (i := 41) rfl (fun g41 => ?_) (fun g41 => ?_)
      · skip
        refine WL.step (WL.guardT rfl rfl rfl ?_)
        refine WL.move rfl rfl ?_
        refine WL.step (WL.guardT rfl rfl rfl ?_)
        refine WL.move rfl rfl ?_
        refine WL.step (WL.guardT rfl rfl rfl ?_)
        refine WL.eqI rfl rfl rfl ?_
        refine WL.step ?_
        refine WL.pickT rfl rfl rfl ?_
        refine WL.step ?_
        refine WL.move rfl rfl ?_
        refine WA.splitB (i := 46) rfl (fun g46 => ?_) (fun g46 => ?_)
        · skip
          refine WL.step (WL.guardT rfl rfl rfl ?_)
          refine WL.move rfl rfl ?_
          refine WL.step (WL.guardT rfl rfl rfl ?_)
          refine WL.move rfl rfl ?_
          refine WL.step (WL.guardT rfl rfl rfl ?_)
          refine WL.callV F.fun26 rfl rfl (fun w hS => lsame_c ls x21.1.2.1 a x21.1.2.2 cap x21.1.1.2 us (by omega) hk1 w (RdLL.made rfl (hS.ok (rowc (.slice x21.1.2.1 ls.length x21.1.2.2) ls.length 54 1 x21.1.1.2) (by repeat (first | exact List.Mem.head _ | apply List.Mem.tail))) (hS.ok (stepsC x21.1.1.1 x21.1.1.2 ls) (by repeat (first | exact List.Mem.head _ | apply List.Mem.tail)))) (hr.next hS)) ?_
          refine WL.step ?_
          refine WL.pickT rfl rfl rfl ?_
          refine WL.step ?_
          refine WL.move rfl rfl ?_
          refine WA.splitB (i := 51) rfl (fun g51 => ?_) (fun g51 => ?_)
          · skip
            refine WL.step (WL.guardT rfl rfl rfl ?_)
            refine WL.move rfl rfl ?_
            refine WL.step (WL.guardT rfl rfl rfl ?_)
            refine WL.move rfl rfl ?_
            refine WL.step (WL.guardT rfl rfl rfl ?_)
            refine WL.callV F.fun26 rfl rfl (fun w hS => lsame_c ps x23.1.2.1 a2 x23.1.2.2 cap2 x23.1.1.2 us2 (by omega) hk2 w (RdLL.made rfl (hS.ok (rowc (.slice x23.1.2.1 ps.length x23.1.2.2) ps.length 54 1 x23.1.1.2) (by repeat (first | exact List.Mem.head _ | apply List.Mem.tail))) (hS.ok (stepsC x23.1.1.1 x23.1.1.2 ps) (by repeat (first | exact List.Mem.head _ | apply List.Mem.tail)))) (hr2.next hS)) ?_
            refine WL.step ?_
            refine WL.pickT rfl rfl rfl ?_
            refine WL.step ?_
            refine WL.move rfl rfl ?_
            refine WA.splitB (i := 56) rfl (fun g56 => ?_) (fun g56 => ?_)
            · skip
              refine WL.step (WL.guardT rfl rfl rfl ?_)
              refine WL.callV F.fun13 rfl rfl (fun w _ => wakes_c w) ?_
              refine WL.step ?_
              refine WL.pickT rfl rfl rfl ?_
              refine WL.step ?_
              refine WL.assign rfl rfl ?_
              refine WL.nil ?_
              refine WQ.then_normal ?_
              refine WC.ret ?_
              exact WQ.ret (rs := [.tmp 6]) rfl (.tmp rfl .nil) (fun w hS => ⟨by first | rfl | simp [tup], hS.sublist (List.nil_sublist _)⟩)
            · skip
              exact absurd g56 (by simp)
          · skip
            exact absurd g51 (by simp)
        · skip
          exact absurd g46 (by simp)
      · skip
        exact absurd g41 (by simp)

end Go.Proofs.Ytbippghgkbapnaa
