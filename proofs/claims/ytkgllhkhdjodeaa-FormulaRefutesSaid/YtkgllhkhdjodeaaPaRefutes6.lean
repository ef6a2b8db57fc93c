import Derived.Test.YtkgllhkhdjodeaaPaRefutes5
set_option linter.unusedSimpArgs false
set_option linter.unusedVariables false
namespace Go.Proofs.Ytkgllhkhdjodeaa
open Go Go.Eng Go.Proofs
theorem RdLL.at2 {w : World} {ls : List (List Int)} {a : Option Addr} {us : List Value} {i : Nat} (h : RdLL w ls a us) (hi : i < ls.length) : ∃ c b off a1 cap, ls[i]? = some c ∧ us[i]? = some (.slice a1 c.length cap) ∧ a = some ⟨b, off, none⟩ ∧ w.cell? ⟨b, off + i, none⟩ = some (.slice a1 c.length cap) ∧ RdC w c a1 := by
  have hi' : i < us.length := by rw [h.len]; exact hi
  have h1 : us[i]? = some us[i] := List.getElem?_eq_getElem hi'
  have h2 : ls[i]? = some ls[i] := List.getElem?_eq_getElem hi
  obtain ⟨b, off, ha, hc⟩ := h.hd i _ h1
  obtain ⟨a1, cap, hu, hr⟩ := h.rd i _ _ h2 h1
  exact ⟨ls[i], b, off, a1, cap, h2, by rw [h1, hu], ha, by rw [hc, hu], hr⟩
theorem ver_step {ls ps : List (List Int)} {i : Nat} {c : List Int} (hc : ps[i]? = some c) : verF (ls ++ ps.take i) (ps.drop i) i = if refuted (ls ++ ps.take i) c then (if c.isEmpty then -1 else verF (ls ++ ps.take (i + 1)) (ps.drop (i + 1)) (i + 1)) else i := by
  obtain ⟨hk, he⟩ := List.getElem?_eq_some_iff.1 hc
  rw [List.drop_eq_getElem_cons hk, he, verF, List.take_add_one, hc]
  simp
/-- The clauses at hand are small. -/
theorem both_lit {ls ps : List (List Int)} {n i : Nat} (hn : n ≤ 24) (h1 : ls.all (Fm.fitsB (n : Int)) = true) (h2 : ps.all (Fm.fitsB (n : Int)) = true) : (∀ c ∈ ls ++ ps.take i, ∀ x ∈ c, Lit x) ∧ (∀ c ∈ ls ++ ps.take i, c.length ≤ 64) := by
  refine may_lit hn ?_
  rw [List.all_append, h1, Bool.true_and, List.all_eq_true]
  intro c hc
  exact (List.all_eq_true.1 h2) c (List.mem_of_mem_take hc)

structure V2 where
  i : Nat
  N : Nat
  hs : List Value
  aa : Option Addr
  ca : Nat

theorem pver_c (n : Int) (ls ps : List (List Int)) (a a2 : Option Addr) (cap cap2 : Nat) (us us2 : List Value) (hll : ls.length ≤ 1000) (hpl : ps.length ≤ 100000) (hlens : ∀ c ∈ ls, c.length ≤ 1099511627776) (hlens2 : ∀ c ∈ ps, c.length ≤ 1099511627776) (ha : a = none ∨ ∃ b off, a = some ⟨b, off, none⟩)
    (w : World) (hr : RdLL w ls a us) (hr2 : RdLL w ps a2 us2) : Pure Try.prog 20 [.int .i64 n, .slice a ls.length cap, .slice a2 ps.length cap2] w (.tuple #[.int .i64 (verE n ls ps).1, .int .i64 (verE n ls ps).2]) := by
  refine enter Try.func20 rfl Try.ntmps20 rfl (St.init _) ?_
  refine WC.seq ?_
  refine WC.region ?_
  refine WL.step ?_
  refine WL.assign rfl rfl ?_
  refine WL.step ?_
  refine WL.assign rfl rfl ?_
  refine WL.nil ?_
  refine WQ.then_normal ?_
  refine WC.seq ?_
  refine WC.seq ?_
  refine WC.region ?_
  refine WL.step ?_
  refine WL.move rfl rfl ?_
  refine WL.step ?_
  refine WL.move rfl rfl ?_
  refine WL.step ?_
  refine WL.callV F.fun41 rfl rfl (fun w hS => may_c n ls a cap us w (hr.next hS)) ?_
  refine WL.step ?_
  refine WL.assign rfl rfl ?_
  refine WL.nil ?_
  refine WQ.then_normal ?_
  refine WC.seq ?_
  refine WC.region ?_
  refine WL.step ?_
  refine WL.move rfl rfl ?_
  refine WL.step ?_
  refine WL.neI rfl rfl rfl ?_
  refine WL.nil ?_
  refine WQ.then_normal ?_
  refine WC.cond rfl (fun h23 => ?_) (fun h23 => ?_)
  · skip
    have hme : Fm.mayE n ls ≠ 0 := by simpa using h23
    have hres : verE n ls ps = (0, Fm.mayE n ls) := by unfold verE; rw [if_neg hme]
    refine WC.seq ?_
    refine WC.region ?_
    refine WL.step ?_
    refine WL.move rfl rfl ?_
    refine WL.step ?_
    refine WL.assign rfl rfl ?_
    refine WL.step ?_
    refine WL.assign rfl rfl ?_
    refine WL.nil ?_
    refine WQ.then_normal ?_
    refine WC.ret ?_
    refine WQ.then_ret ?_
    exact WQ.ret (rs := [.tmp 6, .tmp 7]) rfl (.tmp rfl (.tmp rfl .nil)) (fun w hS => ⟨by rw [hres]; rfl, hS.sublist (List.nil_sublist _)⟩)
  · skip
    have hme : Fm.mayE n ls = 0 := by simpa using h23
    obtain ⟨hm0, hcount, hall⟩ := may_zero hme
    obtain ⟨m, rfl⟩ : ∃ m : Nat, n = (m : Int) := ⟨n.toNat, by omega⟩
    have hm : m ≤ 24 := by omega
    have hnb : (-1000 : Int) ≤ (m : Int) ∧ (m : Int) ≤ 1000 := by omega
    refine WC.skip ?_
    refine WQ.then_normal ?_
    refine WC.seq ?_
    refine WC.seq ?_
    refine WC.region ?_
    refine WL.step ?_
    refine WL.move rfl rfl ?_
    refine WL.step ?_
    refine WL.lenSl F.und33 rfl rfl ?_
    refine WL.step ?_
    refine WL.move rfl rfl ?_
    refine WL.nil ?_
    refine WQ.then_normal ?_
    refine WC.block ?_
    refine WC.loop (α := Nat) (fun i => i ≤ ps.length ∧ (ps.take i).all (Fm.fitsB m) = true) (fun i => [(0, .int .i64 m), (1, .slice a ls.length cap), (2, .slice a2 ps.length cap2), (25, .slice a2 ps.length cap2), (26, .int .i64 (ps.length : Int)), (27, .int .i64 (i : Int))]) (fun _ => []) (fun i => ps.length - i) (0) ?_ ?_ ?_ ?_
    · exact ⟨Nat.zero_le _, rfl⟩
    · exact ⟨rfl, rfl, rfl, rfl, rfl, rfl, trivial⟩
    · rfl
    rintro i ⟨hi, hno⟩
    refine WC.seq ?_
    refine WC.region ?_
    refine WL.step ?_
    refine WL.ltI rfl rfl rfl ?_
    refine WL.nil ?_
    refine WQ.then_normal ?_
    refine WC.seq ?_
    refine WC.cond rfl (fun h28 => ?_) (fun h28 => ?_)
    · skip
      have hlt : i < ps.length := by simpa using h28
      obtain ⟨c, b, off, a1, cap1, hc, hu, rfl, hcell, hrc⟩ := hr2.at2 hlt
      have hcl := hlens2 c (List.mem_of_getElem? hc)
      refine WC.skip ?_
      refine WQ.then_normal ?_
      refine WC.seq ?_
      refine WC.block ?_
      refine WC.seq ?_
      refine WC.region ?_
      refine WL.step ?_
      refine WL.indexAddr F.sl33 rfl rfl rfl hlt ?_
      refine WL.step ?_
      refine WL.load1 F.one23 rfl rfl (v := .slice a1 c.length cap1) (fun w hS => hS.oldc (by simpa using hcell) (by simp)) ?_
      refine WL.step ?_
      refine WL.assign rfl rfl ?_
      refine WL.nil ?_
      refine WQ.then_normal ?_
      refine WC.seq ?_
      refine WC.region ?_
      refine WL.step ?_
      refine WL.move rfl rfl ?_
      refine WL.step ?_
      refine WL.move rfl rfl ?_
      refine WL.step ?_
      refine WL.callV F.fun49 rfl rfl (fun w hS => fits_c m hnb c a1 cap1 w (hrc.next hS)) ?_
      refine WL.step ?_
      refine WL.not rfl rfl ?_
      refine WL.nil ?_
      refine WQ.then_normal ?_
      refine WC.cond rfl (fun h34 => ?_) (fun h34 => ?_)
      · skip
        have hres : verE m ls ps = (0, 2) := by
          have h9 : ps.all (Fm.fitsB m) = false := all_at hc (by simpa using h34)
          unfold verE; rw [if_pos hme, h9]; rfl
        refine WC.seq ?_
        refine WC.region ?_
        refine WL.step ?_
        refine WL.assign rfl rfl ?_
        refine WL.step ?_
        refine WL.assign rfl rfl ?_
        refine WL.nil ?_
        refine WQ.then_normal ?_
        refine WC.ret ?_
        refine WQ.block_ret ?_
        refine WQ.then_ret ?_
        refine WQ.then_ret ?_
        refine WQ.block_ret ?_
        refine WQ.then_ret ?_
        exact WQ.ret (rs := [.tmp 6, .tmp 7]) rfl (.tmp rfl (.tmp rfl .nil)) (fun w hS => ⟨by rw [hres]; rfl, hS.sublist (List.nil_sublist _)⟩)
      · skip
        refine WC.skip ?_
        refine WQ.block_normal ?_
        refine WQ.then_normal ?_
        refine WC.region ?_
        refine WL.step ?_
        refine WL.add rfl rfl rfl ⟨by omega, by omega⟩ ?_
        refine WL.step ?_
        refine WL.move rfl rfl ?_
        refine WL.nil ?_
        refine WQ.back (i + 1) ?_ ?_ ?_ ?_
        · exact ⟨by omega, all_takeB hc hno (by simpa using h34)⟩
        · omega
        · exact ⟨rfl, rfl, rfl, rfl, rfl, rfl, trivial⟩
        · rfl
    · skip
      have hie : i = ps.length := by simp at h28; omega
      subst hie
      rw [List.take_length] at hno
      have hres0 : verE m ls ps = (verF ls ps 0, 0) := by unfold verE; rw [if_pos hme, if_pos hno]
      have hall2 := hno
      refine WC.exit ?_
      refine WQ.then_exit ?_
      refine WQ.then_exit ?_
      refine WQ.block_exit ?_
      refine WQ.then_normal ?_
      refine WC.seq ?_
      refine WC.region ?_
      refine WL.step ?_
      refine WL.move rfl rfl ?_
      refine WL.step ?_
      refine WL.callC (β := Option Addr × Nat) (res := fun x => .slice x.1 ls.length x.2) (cs := fun x => [rowc (.slice x.1 ls.length x.2) ls.length 23 1 us]) (Cs := []) (O' := []) F.fun42 (fun d h => by cases h; rfl) rfl (List.Perm.refl _) (by simp) (by simp) (fun w hS _ => Clone_c ls a cap us (by omega) ha w (hr.next hS)) (fun x37 => ?_)
      obtain ⟨ad0, ac0⟩ := x37
      refine WL.step ?_
      refine WL.assign rfl rfl ?_
      refine WL.nil ?_
      refine WQ.then_normal ?_
      refine WC.seq ?_
      refine WC.seq ?_
      refine WC.region ?_
      refine WL.step ?_
      refine WL.move rfl rfl ?_
      refine WL.step ?_
      refine WL.lenSl F.und33 rfl rfl ?_
      refine WL.step ?_
      refine WL.move rfl rfl ?_
      refine WL.nil ?_
      refine WQ.then_normal ?_
      refine WC.block ?_
      refine WC.loop (α := V2) (fun g => g.i ≤ ps.length ∧ g.N = (ls ++ ps.take g.i).length ∧ g.hs = us ++ us2.take g.i ∧ verF (ls ++ ps.take g.i) (ps.drop g.i) g.i = verF ls ps 0) (fun g => [(0, .int .i64 m), (1, .slice a ls.length cap), (2, .slice a2 ps.length cap2), (38, .slice a2 ps.length cap2), (39, .int .i64 (ps.length : Int)), (11, .slice g.aa g.N g.ca), (40, .int .i64 (g.i : Int))]) (fun g => [rowc (.slice g.aa g.N g.ca) g.N 23 1 g.hs]) (fun g => ps.length - g.i) (⟨0, ls.length, us, ad0, ac0⟩) ?_ ?_ ?_ ?_
      · exact ⟨Nat.zero_le _, by simp, by simp, by simp⟩
      · exact ⟨rfl, rfl, rfl, rfl, rfl, rfl, rfl, trivial⟩
      · rfl
      rintro ⟨i, N, hs, aa, ca⟩ ⟨hi, hN, hhs, hv⟩
      dsimp only at hi hN hhs hv
      subst hN
      show WC _ _ _ _ _ _ _ [(0, .int .i64 m), (1, .slice a ls.length cap), (2, .slice a2 ps.length cap2), (38, .slice a2 ps.length cap2), (39, .int .i64 (ps.length : Int)), (11, .slice aa (ls ++ ps.take i).length ca), (40, .int .i64 (i : Int))] [rowc (.slice aa (ls ++ ps.take i).length ca) (ls ++ ps.take i).length 23 1 hs]
      refine WC.seq ?_
      refine WC.region ?_
      refine WL.step ?_
      refine WL.ltI rfl rfl rfl ?_
      refine WL.nil ?_
      refine WQ.then_normal ?_
      refine WC.seq ?_
      refine WC.cond rfl (fun h41 => ?_) (fun h41 => ?_)
      · skip
        have hlt : i < ps.length := by simpa using h41
        obtain ⟨c, b, off, a1, cap1, hc, hu, rfl, hcell, hrc⟩ := hr2.at2 hlt
        have hcm := List.mem_of_getElem? hc
        obtain ⟨hLL, hLen⟩ := both_lit (i := i) hm hall hall2
        have hclit := (may_lit hm hall2).1 c hcm
        have hcl := (may_lit hm hall2).2 c hcm
        have hLN : (ls ++ ps.take i).length ≤ 1000000 := by simp; omega
        obtain ⟨o, ho⟩ := Fm.cons_ends (fun d hd x hx => (hLL d hd x hx).2) (List.map (fun x => -x) c)
        have hneg : ∀ x ∈ (List.map (fun x => -x) c), Lit x := by
          intro x hx
          obtain ⟨y, hy, rfl⟩ := List.mem_map.1 hx
          have := hclit y hy
          exact ⟨by omega, by omega, by omega⟩
        obtain ⟨⟨k1, ok⟩, hcl2⟩ := Fm.closed_ends hLL ((List.map (fun x => -x) c).foldl Fm.withK (0, 0))
        have hco := Fm.closed_conflict (fun d hd x hx => (hLL d hd x hx).1) (fun x hx => (hneg x hx).1) hcl2 ho
        have href0 : refuted (ls ++ ps.take i) c = !ok := by unfold refuted; rw [ho]; exact hco.1
        refine WC.skip ?_
        refine WQ.then_normal ?_
        refine WC.seq ?_
        refine WC.block ?_
        refine WC.seq ?_
        refine WC.region ?_
        refine WL.step ?_
        refine WL.move rfl rfl ?_
        refine WL.step ?_
        refine WL.indexAddr F.sl33 rfl rfl rfl hlt ?_
        refine WL.step ?_
        refine WL.load1 F.one23 rfl rfl (v := .slice a1 c.length cap1) (fun w hS => hS.oldc (by simpa using hcell) (by simp)) ?_
        refine WL.step ?_
        refine WL.assign rfl rfl ?_
        refine WL.step ?_
        refine WL.assign rfl rfl ?_
        refine WL.nil ?_
        refine WQ.then_normal ?_
        refine WC.seq ?_
        refine WC.region ?_
        refine WL.step ?_
        refine WL.alloc F.zero82 rfl (fun b14 => ?_)
        refine WL.nil ?_
        refine WQ.then_normal ?_
        refine WC.seq ?_
        refine WC.seq ?_
        refine WC.region ?_
        refine WL.step ?_
        refine WL.move rfl rfl ?_
        refine WL.step ?_
        refine WL.lenSl F.und23 rfl rfl ?_
        refine WL.step ?_
        refine WL.move rfl rfl ?_
        refine WL.nil ?_
        refine WQ.then_normal ?_
        refine WC.block ?_
        refine WC.loop (α := Nat × Fm.Kn) (fun g => g.1 ≤ c.length ∧ KB g.2 ∧ g.2 = ((c.take g.1).map (fun x => -x)).foldl Fm.withK (0, 0)) (fun g => [(0, .int .i64 m), (1, .slice a ls.length cap), (2, .slice (some ⟨b, off, none⟩) ps.length cap2), (38, .slice (some ⟨b, off, none⟩) ps.length cap2), (39, .int .i64 (ps.length : Int)), (11, .slice aa (ls ++ ps.take i).length ca), (40, .int .i64 (i : Int)), (12, .int .i64 (i : Int)), (13, .slice a1 c.length cap1), (14, pp b14), (45, .slice a1 c.length cap1), (46, .int .i64 (c.length : Int)), (47, .int .i64 (g.1 : Int))]) (fun g => [pt b14 [.int .u32 (g.2.1 : Int), .int .u32 (g.2.2 : Int)] 82, rowc (.slice aa (ls ++ ps.take i).length ca) (ls ++ ps.take i).length 23 1 hs]) (fun g => c.length - g.1) ((0, (0, 0))) ?_ ?_ ?_ ?_
        · exact ⟨Nat.zero_le _, ⟨by decide, by decide⟩, rfl⟩
        · exact ⟨rfl, rfl, rfl, rfl, rfl, rfl, rfl, rfl, rfl, rfl, rfl, rfl, rfl, trivial⟩
        · rfl
        rintro ⟨j, k⟩ ⟨hj, hk, hke⟩
        dsimp only at hj hk hke
        show WC _ _ _ _ _ _ _ [(0, .int .i64 m), (1, .slice a ls.length cap), (2, .slice (some ⟨b, off, none⟩) ps.length cap2), (38, .slice (some ⟨b, off, none⟩) ps.length cap2), (39, .int .i64 (ps.length : Int)), (11, .slice aa (ls ++ ps.take i).length ca), (40, .int .i64 (i : Int)), (12, .int .i64 (i : Int)), (13, .slice a1 c.length cap1), (14, pp b14), (45, .slice a1 c.length cap1), (46, .int .i64 (c.length : Int)), (47, .int .i64 (j : Int))] [pt b14 [.int .u32 (k.1 : Int), .int .u32 (k.2 : Int)] 82, rowc (.slice aa (ls ++ ps.take i).length ca) (ls ++ ps.take i).length 23 1 hs]
        refine WC.seq ?_
        refine WC.region ?_
        refine WL.step ?_
        refine WL.ltI rfl rfl rfl ?_
        refine WL.nil ?_
        refine WQ.then_normal ?_
        refine WC.seq ?_
        refine WC.cond rfl (fun h48 => ?_) (fun h48 => ?_)
        · skip
          have hjlt : j < c.length := by simpa using h48
          obtain ⟨y, hy⟩ : ∃ z, c[j]? = some z := ⟨_, List.getElem?_eq_getElem hjlt⟩
          have hyl := hclit y (List.mem_of_getElem? hy)
          obtain ⟨b2, off2, ha1, hcell2⟩ := hrc j y hy
          subst ha1
          refine WC.skip ?_
          refine WQ.then_normal ?_
          refine WC.seq ?_
          refine WC.block ?_
          refine WC.seq ?_
          refine WC.region ?_
          refine WL.step ?_
          refine WL.indexAddr F.sl23 rfl rfl rfl hjlt ?_
          refine WL.step ?_
          refine WL.load1 F.one3 rfl rfl (v := .int .i64 y) (fun w hS => hS.oldc (by simpa using hcell2) (by simp)) ?_
          refine WL.step ?_
          refine WL.assign rfl rfl ?_
          refine WL.nil ?_
          refine WQ.then_normal ?_
          refine WC.region ?_
          refine WL.step ?_
          refine WL.loadW F.agg82 rfl rfl (by repeat (first | exact List.Mem.head _ | apply List.Mem.tail)) rfl ?_
          refine WL.step ?_
          refine WL.move rfl rfl ?_
          refine WL.step ?_
          refine WL.negI rfl rfl (by omega) ?_
          refine WL.step ?_
          refine WL.callV F.fun43 rfl rfl (fun w _ => with_c k (-y) hk ⟨by omega, by omega, by omega⟩ w) ?_
          refine WL.step ?_
          refine WL.storeN F.agg82 rfl rfl rfl (by simp [Value.oneCell']) (by repeat (first | exact Upd.here | apply Upd.there)) (by repeat constructor) ?_
          refine WL.nil ?_
          refine WQ.block_normal ?_
          refine WQ.then_normal ?_
          refine WC.region ?_
          refine WL.step ?_
          refine WL.add rfl rfl rfl ⟨by omega, by omega⟩ ?_
          refine WL.step ?_
          refine WL.move rfl rfl ?_
          refine WL.nil ?_
          refine WQ.back ((j + 1, Fm.withK k (-y))) ?_ ?_ ?_ ?_
          · exact ⟨by show j + 1 ≤ _; omega, hk.with ⟨by omega, by omega, by omega⟩, by show Fm.withK k (-y) = _; rw [List.take_add_one, hy, List.map_append, List.foldl_append, ← hke]; rfl⟩
          · (show c.length - (j + 1) < c.length - j; omega)
          · exact ⟨rfl, rfl, rfl, rfl, rfl, rfl, rfl, rfl, rfl, rfl, rfl, rfl, rfl, trivial⟩
          · rfl
        · skip
          have hje : j = c.length := by simp at h48; omega
          subst hje
          rw [List.take_length] at hke
          refine WC.exit ?_
          refine WQ.then_exit ?_
          refine WQ.then_exit ?_
          refine WQ.block_exit ?_
          refine WQ.then_normal ?_
          refine WC.seq ?_
          refine WC.seq ?_
          refine WC.region ?_
          refine WL.step ?_
          refine WL.move rfl rfl ?_
          refine WL.step ?_
          refine WL.loadW F.agg82 rfl rfl (by repeat (first | exact List.Mem.head _ | apply List.Mem.tail)) rfl ?_
          refine WL.step ?_
          refine WL.callV F.fun44 rfl rfl (fun w hS => closed_c (ls ++ ps.take i) aa ca hs k 65 (k1, ok) hk hLL (fun d hd => by have := hLen d hd; omega) (by omega) w (RdLL.both (hr.next hS) (hr2.next hS) hhs rfl (hS.ok (rowc (.slice aa (ls ++ ps.take i).length ca) (ls ++ ps.take i).length 23 1 hs) (by repeat (first | exact List.Mem.head _ | apply List.Mem.tail)))) (by rw [hke]; exact hcl2)) ?_
          refine WL.step ?_
          refine WL.move rfl rfl ?_
          refine WL.step ?_
          refine WL.extract rfl rfl rfl ?_
          refine WL.step ?_
          refine WL.extract rfl rfl rfl ?_
          refine WL.step ?_
          refine WL.alloc F.zero82 rfl (fun b17 => ?_)
          refine WL.step ?_
          refine WL.storeN F.agg82 rfl rfl rfl (by simp [Value.oneCell']) (by repeat (first | exact Upd.here | apply Upd.there)) (by repeat constructor) ?_
          refine WL.step ?_
          refine WL.assign rfl rfl ?_
          refine WL.nil ?_
          refine WQ.then_normal ?_
          refine WC.seq ?_
          refine WC.region ?_
          refine WL.step ?_
          refine WL.move rfl rfl ?_
          refine WL.nil ?_
          refine WQ.then_normal ?_
          refine WC.cond rfl (fun h62 => ?_) (fun h62 => ?_)
          · skip
            have hok : ok = true := h62
            have href : refuted (ls ++ ps.take i) c = false := by rw [href0, hok]; rfl
            have hres : verE m ls ps = ((i : Int), 0) := by rw [hres0, ← hv, ver_step hc, href]; rfl
            refine WC.seq ?_
            refine WC.region ?_
            refine WL.step ?_
            refine WL.move rfl rfl ?_
            refine WL.step ?_
            refine WL.assign rfl rfl ?_
            refine WL.step ?_
            refine WL.assign rfl rfl ?_
            refine WL.nil ?_
            refine WQ.then_normal ?_
            refine WC.ret ?_
            refine WQ.then_ret ?_
            refine WQ.block_ret ?_
            refine WQ.then_ret ?_
            refine WQ.then_ret ?_
            refine WQ.block_ret ?_
            refine WQ.then_ret ?_
            exact WQ.ret (rs := [.tmp 6, .tmp 7]) rfl (.tmp rfl (.tmp rfl .nil)) (fun w hS => ⟨by rw [hres]; rfl, hS.sublist (List.nil_sublist _)⟩)
          · skip
            have hok : ok = false := h62
            have href : refuted (ls ++ ps.take i) c = true := by rw [href0, hok]; rfl
            refine WC.skip ?_
            refine WQ.then_normal ?_
            refine WC.seq ?_
            refine WC.seq ?_
            refine WC.region ?_
            refine WL.step ?_
            refine WL.move rfl rfl ?_
            refine WL.step ?_
            refine WL.lenSl F.und23 rfl rfl ?_
            refine WL.step ?_
            refine WL.eqI rfl rfl rfl ?_
            refine WL.nil ?_
            refine WQ.then_normal ?_
            refine WC.cond rfl (fun h66 => ?_) (fun h66 => ?_)
            · skip
              have hce : c.isEmpty = true := by simpa using h66
              have hres : verE m ls ps = (-1, 0) := by rw [hres0, ← hv, ver_step hc, if_pos href, if_pos hce]
              refine WC.seq ?_
              refine WC.region ?_
              refine WL.step ?_
              refine WL.assign rfl rfl ?_
              refine WL.step ?_
              refine WL.assign rfl rfl ?_
              refine WL.nil ?_
              refine WQ.then_normal ?_
              refine WC.ret ?_
              refine WQ.then_ret ?_
              refine WQ.block_ret ?_
              refine WQ.then_ret ?_
              refine WQ.then_ret ?_
              refine WQ.block_ret ?_
              refine WQ.then_ret ?_
              exact WQ.ret (rs := [.tmp 6, .tmp 7]) rfl (.tmp rfl (.tmp rfl .nil)) (fun w hS => ⟨by rw [hres]; rfl, hS.sublist (List.nil_sublist _)⟩)
            · skip
              have hce : c.isEmpty = false := by simpa using h66
              refine WC.skip ?_
              refine WQ.then_normal ?_
              refine WC.region ?_
              refine WL.step ?_
              refine WL.move rfl rfl ?_
              refine WL.step ?_
              refine WL.move rfl rfl ?_
              refine WL.step ?_
              refine WL.buildSlice F.sl33 F.ez33 rfl rfl rfl rfl (by repeat (first | exact Built.nil | apply Built.one rfl rfl (by repeat constructor) | apply Built.agg rfl rfl (by repeat constructor))) rfl (fun b69 => ?_)
              refine WL.step ?_
              refine WL.appendE (news := [.slice a1 c.length cap1]) F.el33 rfl rfl rfl (by repeat (first | exact Rem.here | apply Rem.there)) (fun w hS j u hu => by rw [Nat.zero_add]; exact hS.cell (cs := [.slice a1 c.length cap1]) (by repeat (first | exact List.Mem.head _ | apply List.Mem.tail)) hu) rfl (by simp [Value.oneCell']) (Nat.le_trans (m := 1099511627776) (by simp; omega) (by decide)) (by simp; omega) (fun a4 c4 => ?_)
              refine WL.step ?_
              refine WL.assign rfl rfl ?_
              refine WL.nil ?_
              refine WQ.block_normal ?_
              refine WQ.then_normal ?_
              refine WC.region ?_
              refine WL.step ?_
              refine WL.add rfl rfl rfl ⟨by omega, by omega⟩ ?_
              refine WL.step ?_
              refine WL.move rfl rfl ?_
              refine WL.nil ?_
              have hun : us ++ us2.take i ++ [.slice a1 c.length cap1] = us ++ us2.take (i + 1) := by rw [List.take_add_one, hu]; simp
              have hNN : (ls ++ ps.take i).length + 1 = (ls ++ ps.take (i + 1)).length := by rw [List.take_add_one, hc]; simp; omega
              refine WQ.chunks (C' := [rowc (.slice a4 ((ls ++ ps.take i).length + 1) c4) ((ls ++ ps.take i).length + 1) 23 1 (hs ++ [.slice a1 c.length cap1])]) (fun w hS => ((St.pick hS (c := rowc (.slice a4 ((ls ++ ps.take i).length + 1) c4) ((ls ++ ps.take i).length + 1) 23 1 (hs ++ [.slice a1 c.length cap1])) (by repeat (first | exact Rem.here | apply Rem.there)))).sublist (List.Sublist.cons_cons _ (List.nil_sublist _))) ?_
              refine WQ.back (⟨i + 1, (ls ++ ps.take i).length + 1, hs ++ [.slice a1 c.length cap1], a4, c4⟩) ?_ ?_ ?_ ?_
              · exact ⟨by show i + 1 ≤ _; omega, hNN, by rw [hhs]; exact hun, by rw [← hv, ver_step hc, if_pos href, if_neg (by rw [hce]; decide)]⟩
              · (show ps.length - (i + 1) < ps.length - i; omega)
              · exact ⟨rfl, rfl, rfl, rfl, rfl, rfl, rfl, trivial⟩
              · rfl
      · skip
        have hie : i = ps.length := by simp at h41; omega
        subst hie
        rw [List.drop_length] at hv
        have hres : verE m ls ps = ((ps.length : Int), 0) := by rw [hres0, ← hv]; rfl
        refine WC.exit ?_
        refine WQ.then_exit ?_
        refine WQ.then_exit ?_
        refine WQ.block_exit ?_
        refine WQ.then_normal ?_
        refine WC.seq ?_
        refine WC.region ?_
        refine WL.step ?_
        refine WL.move rfl rfl ?_
        refine WL.step ?_
        refine WL.lenSl F.und33 rfl rfl ?_
        refine WL.step ?_
        refine WL.assign rfl rfl ?_
        refine WL.step ?_
        refine WL.assign rfl rfl ?_
        refine WL.nil ?_
        refine WQ.then_normal ?_
        refine WC.ret ?_
        exact WQ.ret (rs := [.tmp 6, .tmp 7]) rfl (.tmp rfl (.tmp rfl .nil)) (fun w hS => ⟨by rw [hres]; rfl, hS.sublist (List.nil_sublist _)⟩)

end Go.Proofs.Ytkgllhkhdjodeaa

/-
  The search: it ends, its model is the least, and its proof is one.
-/
namespace Go.Proofs.Ytkgllhkhdjodeaa
open Go Go.Eng Go.Proofs

def satL (M : Nat) (x : Int) : Bool := if 0 < x then M.testBit (x - 1).toNat else !M.testBit (-x - 1).toNat
def satC (M : Nat) (c : List Int) : Bool := c.any (satL M)
def holdsB (ls : List (List Int)) (M : Nat) : Bool := ls.all (satC M)
theorem satL_neg {M : Nat} {x : Int} (hx : x ≠ 0) : satL M (-x) = !satL M x := by
  unfold satL
  by_cases h : 0 < x
  · rw [if_pos h, if_neg (by omega), Int.neg_neg]
  · rw [if_neg h, if_pos (by omega), Bool.not_not]
theorem der_mem {ls : List (List Int)} {fixed : List Int} {z : Int} (h : Fm.Der ls fixed z) : z ∈ fixed ∨ ∃ c ∈ ls, z ∈ c := by
  cases h with
  | fix h => exact .inl h
  | unit hc hx _ => exact .inr ⟨_, hc, hx⟩
theorem der_mono {ls ls' : List (List Int)} {fixed fixed' : List Int} {z : Int} (h1 : ∀ c ∈ ls, c ∈ ls') (h2 : ∀ x ∈ fixed, x ∈ fixed') (h : Fm.Der ls fixed z) : Fm.Der ls' fixed' z := by
  induction h with
  | fix h => exact .fix (h2 _ h)
  | unit hc hx _ ih => exact .unit (h1 _ hc) hx ih
theorem der_sat {ls : List (List Int)} {fixed : List Int} {z : Int} {M : Nat} (hl : ∀ c ∈ ls, ∀ x ∈ c, x ≠ 0) (hM : holdsB ls M = true) (hf : ∀ x ∈ fixed, satL M x = true) (h : Fm.Der ls fixed z) : satL M z = true := by
  induction h with
  | fix h => exact hf _ h
  | @unit c x hc hx h ih =>
    obtain ⟨m, hm, hs⟩ := List.any_eq_true.1 (List.all_eq_true.1 hM c hc)
    by_cases he : m = x
    · rw [← he]; exact hs
    · have := ih m hm he
      rw [satL_neg (hl c hc m hm), hs] at this
      cases this
theorem conf_sat {ls : List (List Int)} {fixed : List Int} {M : Nat} (hl : ∀ c ∈ ls, ∀ x ∈ c, x ≠ 0) (hf0 : ∀ x ∈ fixed, x ≠ 0) (hM : holdsB ls M = true) (hf : ∀ x ∈ fixed, satL M x = true) : ¬ Fm.Conf ls fixed := by
  rintro (h | ⟨x, h1, h2⟩)
  · have := List.all_eq_true.1 hM [] h
    simp [satC] at this
  · have hx : x ≠ 0 := by
      rcases der_mem h1 with h | ⟨c, h3, h4⟩
      · exact hf0 x h
      · exact hl c h3 x h4
    have e1 := der_sat hl hM hf h1
    have e2 := der_sat hl hM hf h2
    rw [satL_neg hx, e1] at e2
    cases e2
theorem negs_negs (c : List Int) : (c.map (fun x => -x)).map (fun x => -x) = c := by simp [Function.comp_def]
theorem refuted_iff {ls : List (List Int)} (hl : ∀ c ∈ ls, ∀ x ∈ c, Lit x) (c : List Int) : refuted ls c = true ↔ Fm.Conf ls (c.map (fun x => -x)) := by
  obtain ⟨o, ho⟩ := Fm.cons_ends (fun d hd x hx => (hl d hd x hx).2) (c.map (fun x => -x))
  have hc := Fm.cons_says (fun x hx => hx) (fun z hz => .fix hz) ho
  unfold refuted
  rw [ho]
  exact Fm.conflict_says hc
theorem clo_says {ls : List (List Int)} {fixed : List Int} {k' : Fm.Kn} {ok : Bool} (hl : ∀ c ∈ ls, ∀ x ∈ c, x ≠ 0) (hf : ∀ x ∈ fixed, x ≠ 0) (h1 : Fm.closedF 65 ls (fixed.foldl Fm.withK (0, 0)) = some (k', ok)) :
    (ok = false → Fm.Conf ls fixed) ∧ (ok = true → ¬ Fm.Conf ls fixed ∧ ∀ z : Int, z ≠ 0 → (Fm.hasK k' z = true ↔ Fm.Der ls fixed z)) :=
  Fm.closed_says hl hf (fixed := fixed) (fun x hx => by rw [Fm.hasK_fold (hf x hx) hf]; simp [hx]) (fun z hz h => by
    rw [Fm.hasK_fold hz hf, Fm.hasK_zero, Bool.or_false, decide_eq_true_eq] at h
    exact .fix h) h1
theorem openK_zero {k : Fm.Kn} : ∀ {n : Nat}, Fm.openK k n = 0 → ∀ v : Nat, 0 < v → v ≤ n → Fm.hasK k (v : Int) = true ∨ Fm.hasK k (-(v : Int)) = true
  | 0, _, v, h1, h2 => by omega
  | n + 1, h, v, h1, h2 => by
    simp only [Fm.openK] at h
    split at h
    · omega
    · rename_i h3
      by_cases hv : v = n + 1
      · subst hv
        cases e1 : Fm.hasK k ((n + 1 : Nat) : Int) with
        | true => exact .inl rfl
        | false =>
          cases e2 : Fm.hasK k (-((n + 1 : Nat) : Int)) with
          | true => exact .inr rfl
          | false => exact absurd (by rw [e1, e2]; rfl) h3
      · exact openK_zero h v h1 (by omega)
theorem openK_pos {k : Fm.Kn} : ∀ {n : Nat}, Fm.openK k n ≠ 0 → 0 < Fm.openK k n ∧ Fm.openK k n ≤ n ∧ Fm.hasK k (Fm.openK k n : Int) = false ∧ Fm.hasK k (-(Fm.openK k n : Int)) = false ∧ ∀ v : Nat, Fm.openK k n < v → v ≤ n → Fm.hasK k (v : Int) = true ∨ Fm.hasK k (-(v : Int)) = true
  | 0, h => by simp [Fm.openK] at h
  | n + 1, h => by
    simp only [Fm.openK] at h ⊢
    split
    · rename_i h3
      simp only [Bool.and_eq_true, Bool.not_eq_true'] at h3
      exact ⟨by omega, Nat.le_refl _, h3.1, h3.2, fun v h1 h2 => by omega⟩
    · rename_i h3
      rw [if_neg h3] at h
      obtain ⟨g1, g2, g3, g4, g5⟩ := openK_pos (n := n) h
      refine ⟨g1, by omega, g3, g4, fun v h1 h2 => ?_⟩
      by_cases hv : v = n + 1
      · subst hv
        cases e1 : Fm.hasK k ((n + 1 : Nat) : Int) with
        | true => exact .inl rfl
        | false =>
          cases e2 : Fm.hasK k (-((n + 1 : Nat) : Int)) with
          | true => exact .inr rfl
          | false => exact absurd (by rw [e1, e2]; rfl) h3
      · exact g5 v h1 (by omega)
theorem dec_len : ∀ {path : List Int} {b : Nat}, path.Pairwise (fun x y => y.natAbs < x.natAbs) → (∀ x ∈ path, x ≠ 0 ∧ x.natAbs ≤ b) → path.length ≤ b
  | [], _, _, _ => Nat.zero_le _
  | x :: path, b, hp, hb => by
    obtain ⟨h1, h2⟩ := List.pairwise_cons.1 hp
    have hx := hb x (by simp)
    have := dec_len (b := b - 1) h2 (fun y hy => ⟨(hb y (by simp [hy])).1, by have := h1 y hy; omega⟩)
    simp only [List.length_cons]
    omega
theorem first_bad (M : Nat) : ∀ (path : List Int), (∀ x ∈ path, satL M x = true) ∨ ∃ i x, path[i]? = some x ∧ satL M x = false ∧ ∀ y ∈ path.take i, satL M y = true
  | [] => .inl (fun x hx => by simp at hx)
  | x :: path => by
    cases hx : satL M x with
    | false => exact .inr ⟨0, x, rfl, hx, fun y hy => by simp at hy⟩
    | true =>
      rcases first_bad M path with h | ⟨i, y, h1, h2, h3⟩
      · refine .inl fun y hy => ?_
        rcases List.mem_cons.1 hy with rfl | hy
        · exact hx
        · exact h y hy
      · refine .inr ⟨i + 1, y, by simpa using h1, h2, fun z hz => ?_⟩
        rw [List.take_succ_cons] at hz
        rcases List.mem_cons.1 hz with rfl | hz
        · exact hx
        · exact h3 z hz
theorem verF_run : ∀ (ps rest ls : List (List Int)) (i : Nat), (∀ j c, ps[j]? = some c → refuted (ls ++ ps.take j) c = true ∧ c ≠ []) → verF ls (ps ++ rest) i = verF (ls ++ ps) rest (i + ps.length)
  | [], rest, ls, i, _ => by simp
  | p :: ps, rest, ls, i, h => by
    have h0 := h 0 p rfl
    simp only [List.take_zero, List.append_nil] at h0
    rw [List.cons_append, verF, if_pos h0.1, if_neg (by simpa using h0.2), verF_run ps rest (ls ++ [p]) (i + 1) (fun j c hj => by
      have := h (j + 1) c (by simpa using hj)
      rw [List.take_succ_cons] at this
      simpa using this)]
    rw [List.length_cons, List.append_assoc, List.singleton_append]
    congr 1
    omega

theorem lt_of_bits : ∀ (i x y : Nat), x.testBit i = false → y.testBit i = true → (∀ j, i < j → x.testBit j = y.testBit j) → x < y
  | 0, x, y, h1, h2, h => by
    have e : x / 2 = y / 2 := Nat.eq_of_testBit_eq fun j => by rw [Nat.testBit_div_two, Nat.testBit_div_two]; exact h (j + 1) (by omega)
    have g1 := Nat.mod_two_eq_zero_iff_testBit_zero.2 h1
    have g2 := Nat.mod_two_eq_one_iff_testBit_zero.2 h2
    omega
  | i + 1, x, y, h1, h2, h => by
    rw [Nat.testBit_add_one] at h1 h2
    have := lt_of_bits i (x / 2) (y / 2) h1 h2 fun j hj => by rw [Nat.testBit_div_two, Nat.testBit_div_two]; exact h (j + 1) (by omega)
    omega

/-! ### the search -/
structure SI (n : Nat) (ls : List (List Int)) (path : List Int) (proof : List (List Int)) : Prop where
  lit : ∀ x ∈ path, x ≠ 0 ∧ x.natAbs ≤ n
  dec : path.Pairwise (fun x y => y.natAbs < x.natAbs)
  hi : ∀ i x, path[i]? = some x → ∀ v : Nat, x.natAbs < v → v ≤ n → Fm.Der (ls ++ proof) (path.take i) (v : Int) ∨ Fm.Der (ls ++ proof) (path.take i) (-(v : Int))
  pos : ∀ i x, path[i]? = some x → 0 < x → ((path.take i).map (fun y => -y) ++ [x]) ∈ ls ++ proof
  ver : ∀ i c, proof[i]? = some c → refuted (ls ++ proof.take i) c = true ∧ c ≠ []
  fit : ∀ c ∈ proof, (∀ x ∈ c, x ≠ 0 ∧ x.natAbs ≤ n) ∧ c.length ≤ 64
  mdl : ∀ M, holdsB ls M = true → holdsB (ls ++ proof) M = true
theorem lit_le {n : Nat} (hn : n ≤ 24) {ls : List (List Int)} (h : ∀ c ∈ ls, ∀ x ∈ c, x ≠ 0 ∧ x.natAbs ≤ n) : ∀ c ∈ ls, ∀ x ∈ c, Lit x := fun c hc x hx => by
  have := h c hc x hx
  exact ⟨this.1, by omega, by omega⟩
theorem SI.all {n : Nat} {ls proof : List (List Int)} {path : List Int} (h : SI n ls path proof) (hls : ∀ c ∈ ls, ∀ x ∈ c, x ≠ 0 ∧ x.natAbs ≤ n) : ∀ c ∈ ls ++ proof, ∀ x ∈ c, x ≠ 0 ∧ x.natAbs ≤ n := fun c hc => by
  rcases List.mem_append.1 hc with hc | hc
  · exact hls c hc
  · exact (h.fit c hc).1
/-- What a conflict teaches, and the path without its last step. -/
theorem SI.pop {n : Nat} {ls proof : List (List Int)} {p : List Int} {x : Int} (hn : n ≤ 24) (hls : ∀ c ∈ ls, ∀ x ∈ c, x ≠ 0 ∧ x.natAbs ≤ n) (h : SI n ls (p ++ [x]) proof) (hc : Fm.Conf (ls ++ proof) (p ++ [x])) : SI n ls p (proof ++ [(p ++ [x]).map (fun y => -y)]) := by
  have hall := h.all hls
  have hmono : ∀ c ∈ ls ++ proof, c ∈ ls ++ (proof ++ [(p ++ [x]).map (fun y => -y)]) := fun c hc => by
    rw [← List.append_assoc]; exact List.mem_append_left _ hc
  have hidx : ∀ i y, p[i]? = some y → (p ++ [x])[i]? = some y ∧ (p ++ [x]).take i = p.take i := fun i y hi => by
    have hlt := (List.getElem?_eq_some_iff.1 hi).1
    exact ⟨by rw [List.getElem?_append_left hlt]; exact hi, by rw [List.take_append_of_le_length (by omega)]⟩
  refine ⟨fun y hy => h.lit y (by simp [hy]), (List.pairwise_append.1 h.dec).1, fun i y hi v h1 h2 => ?_, fun i y hi h1 => ?_, fun i c hi => ?_, fun c hc2 => ?_, fun M hM => ?_⟩
  · obtain ⟨g1, g2⟩ := hidx i y hi
    rcases h.hi i y g1 v h1 h2 with g | g
    · rw [g2] at g; exact .inl (der_mono hmono (fun _ h => h) g)
    · rw [g2] at g; exact .inr (der_mono hmono (fun _ h => h) g)
  · obtain ⟨g1, g2⟩ := hidx i y hi
    have := h.pos i y g1 h1
    rw [g2] at this
    exact hmono _ this
  · by_cases hlt : i < proof.length
    · rw [List.getElem?_append_left hlt] at hi
      rw [List.take_append_of_le_length (by omega)]
      exact h.ver i c hi
    · rw [List.getElem?_append_right (by omega)] at hi
      have hie : i = proof.length := by
        have := (List.getElem?_eq_some_iff.1 hi).1
        simp at this; omega
      subst hie
      rw [Nat.sub_self] at hi
      injection hi with hi
      subst hi
      refine ⟨?_, by simp⟩
      rw [List.take_left' rfl, refuted_iff (lit_le hn hall), negs_negs]
      exact hc
  · rcases List.mem_append.1 hc2 with hc2 | hc2
    · exact h.fit c hc2
    · rw [List.mem_singleton] at hc2
      subst hc2
      refine ⟨fun y hy => ?_, ?_⟩
      · obtain ⟨z, hz, rfl⟩ := List.mem_map.1 hy
        have := h.lit z hz
        exact ⟨by omega, by omega⟩
      · have := dec_len h.dec h.lit
        rw [List.length_map]; omega
  · have hM' := h.mdl M hM
    rw [← List.append_assoc]
    unfold holdsB at hM' ⊢
    rw [List.all_append, hM', Bool.true_and]
    simp only [List.all_cons, List.all_nil, Bool.and_true]
    cases hs : satC M ((p ++ [x]).map (fun y => -y)) with
    | true => rfl
    | false =>
      refine absurd hc (conf_sat (fun c hc x hx => (hall c hc x hx).1) (fun y hy => (h.lit y hy).1) hM' fun y hy => ?_)
      have := List.any_eq_false.1 hs (-y) (List.mem_map.2 ⟨y, hy, rfl⟩)
      rw [satL_neg (h.lit y hy).1] at this
      simpa using this
def tS (v : Nat) : Nat := 4 * 2 ^ v - 3
def rS (x : Int) : Nat := if x < 0 then tS (x.natAbs - 1) + 2 else 1
def remS (n : Nat) (path : List Int) : Nat := match path.getLast? with | none => n | some x => x.natAbs - 1
def muS (n : Nat) (mode : Bool) (path : List Int) : Nat := (path.map rS).sum + 1 + (if mode then 0 else tS (remS n path))
theorem tS_succ (v : Nat) : tS (v + 1) = 2 * tS v + 3 := by
  have : 0 < 2 ^ v := Nat.pow_pos (by decide)
  unfold tS; rw [Nat.pow_succ]; omega
theorem tS_pos (v : Nat) : 0 < tS v := by
  have : 0 < 2 ^ v := Nat.pow_pos (by decide)
  unfold tS; omega
theorem tS_mono {u v : Nat} (h : u ≤ v) : tS u ≤ tS v := by
  have := Nat.pow_le_pow_right (n := 2) (by decide) h
  unfold tS; omega
def GoodS (n : Nat) (ls : List (List Int)) (r : Fm.Ans) : Prop :=
  (r.ok = true ∧ r.proof = [] ∧ r.model < 2 ^ n ∧ holdsB ls r.model = true ∧ ∀ M, M < 2 ^ n → holdsB ls M = true → r.model ≤ M) ∨
  (r.ok = false ∧ r.model = 0 ∧ verF ls r.proof 0 = -1 ∧ (∀ c ∈ r.proof, (∀ x ∈ c, x ≠ 0 ∧ x.natAbs ≤ n) ∧ c.length ≤ 64) ∧ ∀ M, holdsB ls M = false)
theorem model_good {n : Nat} {ls proof : List (List Int)} {path : List Int} {k : Fm.Kn} (hn : n ≤ 24) (hls : ∀ c ∈ ls, ∀ x ∈ c, x ≠ 0 ∧ x.natAbs ≤ n) (h : SI n ls path proof) (hc : ¬ Fm.Conf (ls ++ proof) path) (hk : ∀ z : Int, z ≠ 0 → (Fm.hasK k z = true ↔ Fm.Der (ls ++ proof) path z)) (ho : Fm.openK k n = 0) :
    k.1 < 2 ^ n ∧ holdsB ls k.1 = true ∧ ∀ M, M < 2 ^ n → holdsB ls M = true → k.1 ≤ M := by
  have hall := h.all hls
  have hbit : ∀ i : Nat, k.1.testBit i = Fm.hasK k ((i : Int) + 1) := fun i => by
    unfold Fm.hasK
    rw [if_pos (by omega)]
    congr 1
    omega
  have hsmall : ∀ i, n ≤ i → k.1.testBit i = false := fun i hi => by
    rw [hbit]
    cases e : Fm.hasK k ((i : Int) + 1) with
    | false => rfl
    | true =>
      rcases der_mem ((hk _ (by omega)).1 e) with g | ⟨c, g1, g2⟩
      · have := (h.lit _ g).2; omega
      · have := (hall c g1 _ g2).2; omega
  have hsat : ∀ z : Int, z ≠ 0 → z.natAbs ≤ n → satL k.1 z = Fm.hasK k z := fun z hz hzn => by
    unfold satL
    by_cases hp : 0 < z
    · rw [if_pos hp]; unfold Fm.hasK; rw [if_pos hp]
    · rw [if_neg hp]
      have e1 : k.1.testBit (-z - 1).toNat = Fm.hasK k (-z) := by unfold Fm.hasK; rw [if_pos (by omega)]
      rw [e1]
      rcases openK_zero ho z.natAbs (by omega) hzn with g | g
      · have e2 : ((z.natAbs : Nat) : Int) = -z := by omega
        rw [e2] at g
        rw [g]
        cases e3 : Fm.hasK k z with
        | false => rfl
        | true => exact absurd (.inr ⟨z, (hk z hz).1 e3, (hk (-z) (by omega)).1 g⟩) hc
      · have e2 : (-((z.natAbs : Nat) : Int)) = z := by omega
        rw [e2] at g
        rw [g]
        cases e3 : Fm.hasK k (-z) with
        | false => rfl
        | true => exact absurd (.inr ⟨z, (hk z hz).1 g, (hk (-z) (by omega)).1 e3⟩) hc
  refine ⟨Nat.lt_pow_two_of_testBit _ hsmall, List.all_eq_true.2 fun c hcm => ?_, fun M hM hh => ?_⟩
  · have hcm' : c ∈ ls ++ proof := List.mem_append_left _ hcm
    cases e : satC k.1 c with
    | true => rfl
    | false =>
      refine absurd ?_ hc
      have hno : ∀ m ∈ c, Fm.Der (ls ++ proof) path (-m) := fun m hm => by
        have g := List.any_eq_false.1 e m hm
        have hm0 := hls c hcm m hm
        rw [hsat m hm0.1 hm0.2] at g
        refine (hk (-m) (by omega)).1 ?_
        rcases openK_zero ho m.natAbs (by omega) hm0.2 with g2 | g2
        · by_cases hp : 0 < m
          · rw [show ((m.natAbs : Nat) : Int) = m by omega] at g2; exact absurd g2 g
          · rw [show ((m.natAbs : Nat) : Int) = -m by omega] at g2; exact g2
        · by_cases hp : 0 < m
          · rw [show ((m.natAbs : Nat) : Int) = m by omega] at g2; exact g2
          · rw [show (-((m.natAbs : Nat) : Int)) = m by omega] at g2; exact absurd g2 g
      cases c with
      | nil => exact .inl hcm'
      | cons x r => exact .inr ⟨x, .unit hcm' (by simp) (fun m hm _ => hno m hm), hno x (by simp)⟩
  · have hM' := h.mdl M hh
    have hl0 : ∀ c ∈ ls ++ proof, ∀ x ∈ c, x ≠ 0 := fun c hc x hx => (hall c hc x hx).1
    have agree : ∀ (fx : List Int), (∀ y ∈ fx, y ∈ path) → (∀ y ∈ fx, satL M y = true) → ∀ v : Nat, 0 < v → v ≤ n → Fm.Der (ls ++ proof) fx (v : Int) ∨ Fm.Der (ls ++ proof) fx (-(v : Int)) → k.1.testBit (v - 1) = M.testBit (v - 1) := fun fx hsub hfx v hv hvn hd => by
      have e0 : ((v : Int) - 1).toNat = v - 1 := by omega
      rcases hd with hd | hd
      · have g1 := der_sat hl0 hM' hfx hd
        have g2 := (hk (v : Int) (by omega)).2 (der_mono (fun _ h => h) hsub hd)
        unfold satL at g1
        rw [if_pos (by omega), e0] at g1
        unfold Fm.hasK at g2
        rw [if_pos (by omega), e0] at g2
        rw [g1, g2]
      · have g1 := der_sat hl0 hM' hfx hd
        have g2 := (hk (-(v : Int)) (by omega)).2 (der_mono (fun _ h => h) hsub hd)
        have g3 := hsat (-(v : Int)) (by omega) (by omega)
        rw [satL_neg (by omega)] at g1 g3
        rw [g2] at g3
        unfold satL at g1 g3
        rw [if_pos (by omega), e0] at g1 g3
        simp at g1 g3
        rw [g1, g3]
    rcases first_bad M path with hg | ⟨i, x, h1, h2, h3⟩
    · refine Nat.le_of_eq (Nat.eq_of_testBit_eq fun i => ?_)
      by_cases hi : n ≤ i
      · rw [hsmall i hi, Nat.testBit_lt_two_pow (Nat.lt_of_lt_of_le hM (Nat.pow_le_pow_right (by decide) hi))]
      · have hd : Fm.Der (ls ++ proof) path ((i + 1 : Nat) : Int) ∨ Fm.Der (ls ++ proof) path (-((i + 1 : Nat) : Int)) := by
          rcases openK_zero ho (i + 1) (by omega) (by omega) with g | g
          · exact .inl ((hk _ (by omega)).1 g)
          · exact .inr ((hk _ (by omega)).1 g)
        exact agree path (fun _ h => h) hg (i + 1) (by omega) (by omega) hd
    · have hx := h.lit x (List.mem_of_getElem? h1)
      have hkx : Fm.hasK k x = true := (hk x hx.1).2 (.fix (List.mem_of_getElem? h1))
      by_cases hp : 0 < x
      · exfalso
        have hm := List.all_eq_true.1 hM' _ (h.pos i x h1 hp)
        obtain ⟨m, hm1, hm2⟩ := List.any_eq_true.1 hm
        rcases List.mem_append.1 hm1 with hm1 | hm1
        · obtain ⟨y, hy, rfl⟩ := List.mem_map.1 hm1
          have hy0 := (h.lit y (List.mem_of_mem_take hy)).1
          rw [satL_neg hy0, h3 y hy] at hm2
          cases hm2
        · rw [List.mem_singleton] at hm1
          rw [hm1, h2] at hm2
          cases hm2
      · have g3 := hsat x hx.1 hx.2
        rw [hkx] at g3
        unfold satL at g3 h2
        rw [if_neg hp] at g3 h2
        simp at g3 h2
        refine Nat.le_of_lt (lt_of_bits _ _ _ g3 h2 fun j hj => ?_)
        by_cases hjn : n ≤ j
        · rw [hsmall j hjn, Nat.testBit_lt_two_pow (Nat.lt_of_lt_of_le hM (Nat.pow_le_pow_right (by decide) hjn))]
        · exact agree (path.take i) (fun y hy => List.mem_of_mem_take hy) h3 (j + 1) (by omega) (by omega) (h.hi i x h1 (j + 1) (by omega) (by omega))
/-- A new decision. -/
theorem SI.push {n : Nat} {ls proof : List (List Int)} {p : List Int} {y : Int} (h : SI n ls p proof) (hy : y ≠ 0 ∧ y.natAbs ≤ n) (hd : ∀ x ∈ p, y.natAbs < x.natAbs) (hh : ∀ v : Nat, y.natAbs < v → v ≤ n → Fm.Der (ls ++ proof) p (v : Int) ∨ Fm.Der (ls ++ proof) p (-(v : Int)))
    (hp : 0 < y → (p.map (fun z => -z) ++ [y]) ∈ ls ++ proof) : SI n ls (p ++ [y]) proof := by
  have hidx : ∀ i x, (p ++ [y])[i]? = some x → (p[i]? = some x ∧ (p ++ [y]).take i = p.take i) ∨ (x = y ∧ (p ++ [y]).take i = p) := fun i x hi => by
    by_cases hlt : i < p.length
    · rw [List.getElem?_append_left hlt] at hi
      exact .inl ⟨hi, by rw [List.take_append_of_le_length (by omega)]⟩
    · rw [List.getElem?_append_right (by omega)] at hi
      have hie : i = p.length := by
        have := (List.getElem?_eq_some_iff.1 hi).1
        simp at this; omega
      subst hie
      rw [Nat.sub_self] at hi
      injection hi with hi
      exact .inr ⟨hi.symm, List.take_left' rfl⟩
  refine ⟨fun x hx => ?_, ?_, fun i x hi v h1 h2 => ?_, fun i x hi h1 => ?_, h.ver, h.fit, h.mdl⟩
  · rcases List.mem_append.1 hx with hx | hx
    · exact h.lit x hx
    · rw [List.mem_singleton] at hx; rw [hx]; exact hy
  · refine List.pairwise_append.2 ⟨h.dec, List.pairwise_singleton _ _, fun x hx z hz => ?_⟩
    rw [List.mem_singleton] at hz; rw [hz]; exact hd x hx
  · rcases hidx i x hi with ⟨g1, g2⟩ | ⟨rfl, g2⟩
    · rw [g2]; exact h.hi i x g1 v h1 h2
    · rw [g2]; exact hh v h1 h2
  · rcases hidx i x hi with ⟨g1, g2⟩ | ⟨rfl, g2⟩
    · rw [g2]; exact h.pos i x g1 h1
    · rw [g2]; exact hp h1
theorem getLast_some {path : List Int} {x : Int} (h : path.getLast? = some x) : ∃ p, path = p ++ [x] := by
  obtain ⟨p, hp⟩ := List.getLast?_eq_some_iff.1 h
  exact ⟨p, hp⟩
theorem solve_ok {n : Nat} {ls : List (List Int)} (hn : n ≤ 24) (hls : ∀ c ∈ ls, ∀ x ∈ c, x ≠ 0 ∧ x.natAbs ≤ n) : ∀ (f : Nat) (mode : Bool) (path : List Int) (proof : List (List Int)), SI n ls path proof → (mode = true → Fm.Conf (ls ++ proof) path) → muS n mode path ≤ f → ∃ r, Fm.solveF n f mode (ls ++ proof) path proof = some r ∧ GoodS n ls r
  | 0, mode, path, proof, _, _, hmu => by unfold muS at hmu; omega
  | f + 1, false, path, proof, h, _, hmu => by
    have hall := h.all hls
    have hL := lit_le hn hall
    obtain ⟨⟨k, ok⟩, hcl⟩ := Fm.closed_ends hL (path.foldl Fm.withK (0, 0))
    have hsay := clo_says (fun c hc x hx => (hL c hc x hx).1) (fun x hx => (h.lit x hx).1) hcl
    simp only [Fm.solveF]
    rw [hcl]
    cases ok with
    | false =>
      simp only
      refine solve_ok hn hls f true path proof h (fun _ => hsay.1 rfl) ?_
      have := tS_pos (remS n path)
      unfold muS at hmu ⊢
      simp at hmu ⊢
      omega
    | true =>
      simp only
      obtain ⟨hnc, hk⟩ := hsay.2 rfl
      split
      · rename_i ho
        obtain ⟨g1, g2, g3⟩ := model_good hn hls h hnc hk ho
        exact ⟨_, rfl, .inl ⟨rfl, rfl, g1, g2, g3⟩⟩
      · rename_i ho
        obtain ⟨g1, g2, g3, g4, g5⟩ := openK_pos ho
        have hab : (-(Fm.openK k n : Int)).natAbs = Fm.openK k n := by omega
        have hder : ∀ v : Nat, Fm.openK k n < v → v ≤ n → Fm.Der (ls ++ proof) path (v : Int) ∨ Fm.Der (ls ++ proof) path (-(v : Int)) := fun v h1 h2 => by
          rcases g5 v h1 h2 with g | g
          · exact .inl ((hk _ (by omega)).1 g)
          · exact .inr ((hk _ (by omega)).1 g)
        have hdec : ∀ x ∈ path, Fm.openK k n < x.natAbs := fun x hx => by
          have hx0 := h.lit x hx
          obtain ⟨i, hi⟩ := List.getElem?_of_mem hx
          have hkx := (hk x hx0.1).2 (.fix hx)
          have hne : x.natAbs ≠ Fm.openK k n := fun he => by
            by_cases hp : 0 < x
            · rw [show ((Fm.openK k n : Nat) : Int) = x by omega, hkx] at g3; cases g3
            · rw [show (-((Fm.openK k n : Nat) : Int)) = x by omega, hkx] at g4; cases g4
          by_cases hlt : x.natAbs < Fm.openK k n
          · exfalso
            rcases h.hi i x hi (Fm.openK k n) hlt g2 with g | g
            · have := (hk _ (by omega)).2 (der_mono (fun _ h => h) (fun y hy => List.mem_of_mem_take hy) g)
              rw [g3] at this; cases this
            · have := (hk _ (by omega)).2 (der_mono (fun _ h => h) (fun y hy => List.mem_of_mem_take hy) g)
              rw [g4] at this; cases this
          · omega
        refine solve_ok hn hls f false (path ++ [-(Fm.openK k n : Int)]) proof (h.push ⟨by omega, by omega⟩ (fun x hx => by rw [hab]; exact hdec x hx) (fun v h1 h2 => hder v (by omega) h2) (fun hp => by omega)) (fun hh => by cases hh) ?_
        have hrem : Fm.openK k n ≤ remS n path := by
          unfold remS
          split
          · exact g2
          · rename_i x hx
            obtain ⟨p, rfl⟩ := getLast_some hx
            have := hdec x (by simp)
            omega
        have e1 := tS_mono hrem
        have e2 := tS_succ (Fm.openK k n - 1)
        rw [Nat.sub_add_cancel g1] at e2
        have e3 : rS (-(Fm.openK k n : Int)) = tS (Fm.openK k n - 1) + 2 := by
          unfold rS; rw [if_pos (by omega), hab]
        have e4 : remS n (path ++ [-(Fm.openK k n : Int)]) = Fm.openK k n - 1 := by
          unfold remS; rw [List.getLast?_concat]; simp only; rw [hab]
        unfold muS at hmu ⊢
        rw [e4]
        simp only [List.map_append, List.sum_append, List.map_cons, List.map_nil, List.sum_cons, List.sum_nil, e3] at hmu ⊢
        simp at hmu ⊢
        omega
  | f + 1, true, path, proof, h, hc, hmu => by
    have hall := h.all hls
    have hL := lit_le hn hall
    have hconf := hc rfl
    simp only [Fm.solveF]
    cases hgl : path.getLast? with
    | none =>
      have hpe : path = [] := by simpa using hgl
      subst hpe
      simp only
      refine ⟨_, rfl, .inr ⟨rfl, rfl, ?_, ?_, fun M => ?_⟩⟩
      · show verF ls (proof ++ [List.map (fun x => -x) []]) 0 = -1
        rw [verF_run proof _ ls 0 h.ver]
        have href : refuted (ls ++ proof) (List.map (fun x => -x) []) = true := (refuted_iff hL _).2 hconf
        simp only [verF]
        rw [if_pos href]
        rfl
      · intro c hc
        rcases List.mem_append.1 hc with hc | hc
        · exact h.fit c hc
        · rw [List.mem_singleton] at hc
          subst hc
          exact ⟨fun x hx => by simp at hx, by simp⟩
      · cases hM : holdsB ls M with
        | false => rfl
        | true => exact absurd hconf (conf_sat (fun c hc x hx => (hL c hc x hx).1) (fun x hx => by simp at hx) (h.mdl M hM) (fun x hx => by simp at hx))
    | some last =>
      obtain ⟨p, rfl⟩ := getLast_some hgl
      simp only [List.dropLast_concat]
      have hpop := h.pop hn hls hconf
      have hx0 := h.lit last (by simp)
      have hdl : ∀ x ∈ p, last.natAbs < x.natAbs := fun x hx => (List.pairwise_append.1 h.dec).2.2 x hx last (by simp)
      have hii : (p ++ [last])[p.length]? = some last := by simp
      have htk : (p ++ [last]).take p.length = p := List.take_left' rfl
      have hstep : (p ++ [last]).map (fun y => -y) = p.map (fun y => -y) ++ [-last] := by simp
      have hin : (p ++ [last]).map (fun y => -y) ∈ ls ++ (proof ++ [(p ++ [last]).map (fun y => -y)]) := by simp
      have hmono : ∀ c ∈ ls ++ proof, c ∈ ls ++ (proof ++ [(p ++ [last]).map (fun y => -y)]) := fun c hc => by
        rw [← List.append_assoc]; exact List.mem_append_left _ hc
      split
      · rename_i hneg
        rw [List.append_assoc]
        refine solve_ok hn hls f false (p ++ [-last]) (proof ++ [(p ++ [last]).map (fun y => -y)]) (hpop.push ⟨by omega, by omega⟩ (fun x hx => by have := hdl x hx; omega) (fun v h1 h2 => ?_) (fun _ => ?_)) (fun hh => by cases hh) ?_
        · have := h.hi p.length last hii v (by omega) h2
          rw [htk] at this
          rcases this with g | g
          · exact .inl (der_mono hmono (fun _ h => h) g)
          · exact .inr (der_mono hmono (fun _ h => h) g)
        · have := hin
          rw [hstep] at this ⊢
          exact this
        · have e1 : rS last = tS (last.natAbs - 1) + 2 := by unfold rS; rw [if_pos hneg]
          have e2 : rS (-last) = 1 := by unfold rS; rw [if_neg (by omega)]
          have e3 : remS n (p ++ [-last]) = last.natAbs - 1 := by
            unfold remS; rw [List.getLast?_concat]; simp only [Int.natAbs_neg]
          unfold muS at hmu ⊢
          rw [e3]
          simp only [List.map_append, List.sum_append, List.map_cons, List.map_nil, List.sum_cons, List.sum_nil, e1, e2] at hmu ⊢
          simp at hmu ⊢
          omega
      · rename_i hneg
        rw [List.append_assoc]
        refine solve_ok hn hls f true p (proof ++ [(p ++ [last]).map (fun y => -y)]) hpop (fun _ => ?_) ?_
        · have h1 := hmono _ (h.pos p.length last hii (by omega))
          rw [htk] at h1
          have h2 := hin
          rw [hstep] at h2
          rw [hstep] at h1 ⊢
          refine .inr ⟨last, .unit h1 (by simp) (fun m hm hne => ?_), .unit h2 (by simp) (fun m hm hne => ?_)⟩
          · rcases List.mem_append.1 hm with hm | hm
            · obtain ⟨y, hy, rfl⟩ := List.mem_map.1 hm
              rw [Int.neg_neg]; exact .fix hy
            · rw [List.mem_singleton] at hm; exact absurd hm hne
          · rcases List.mem_append.1 hm with hm | hm
            · obtain ⟨y, hy, rfl⟩ := List.mem_map.1 hm
              rw [Int.neg_neg]; exact .fix hy
            · rw [List.mem_singleton] at hm; exact absurd hm hne
        · have e1 : rS last = 1 := by unfold rS; rw [if_neg hneg]
          unfold muS at hmu ⊢
          simp only [List.map_append, List.sum_append, List.map_cons, List.map_nil, List.sum_cons, List.sum_nil, e1] at hmu ⊢
          simp at hmu ⊢
          omega
theorem solve_len {n : Nat} : ∀ {f : Nat} {mode : Bool} {all : List (List Int)} {path : List Int} {proof : List (List Int)} {r : Fm.Ans}, Fm.solveF n f mode all path proof = some r → r.proof.length ≤ proof.length + f
  | 0, _, _, _, _, _, h => by simp [Fm.solveF] at h
  | f + 1, false, all, path, proof, r, h => by
    simp only [Fm.solveF] at h
    split at h
    · cases h
    · split at h
      · injection h with h; subst h; simp
      · have := solve_len h; omega
    · have := solve_len h; omega
  | f + 1, true, all, path, proof, r, h => by
    simp only [Fm.solveF] at h
    split at h
    · injection h with h; subst h; simp
    · split at h
      · have := solve_len h; simp at this; omega
      · have := solve_len h; simp at this; omega
theorem may_abs {m : Nat} {ls : List (List Int)} (h : Fm.mayE (m : Int) ls = 0) : ∀ c ∈ ls, ∀ x ∈ c, x ≠ 0 ∧ x.natAbs ≤ m := fun c hc x hx => by
  have h1 := (may_zero h).2.2
  have h2 := (List.all_eq_true.1 h1) c hc
  simp only [Fm.fitsB, Bool.and_eq_true, List.all_eq_true] at h2
  have h3 := h2.2 x hx
  simp [Fm.litB] at h3
  exact ⟨h3.1.1, by omega⟩
theorem fits_of {m : Nat} {ps : List (List Int)} (h : ∀ c ∈ ps, (∀ x ∈ c, x ≠ 0 ∧ x.natAbs ≤ m) ∧ c.length ≤ 64) : ps.all (Fm.fitsB (m : Int)) = true := by
  rw [List.all_eq_true]
  intro c hc
  obtain ⟨h1, h2⟩ := h c hc
  simp only [Fm.fitsB, Bool.and_eq_true, decide_eq_true_eq, List.all_eq_true]
  refine ⟨h2, fun x hx => ?_⟩
  have := h1 x hx
  simp [Fm.litB]
  exact ⟨⟨this.1, by omega⟩, by omega⟩
end Go.Proofs.Ytkgllhkhdjodeaa

/-! Sets of clauses and what the search says of them. -/
namespace Go.Proofs.Ytkgllhkhdjodeaa
open Go Go.Eng Go.Proofs Dg
theorem holds_cf (ls : List (List Int)) (M : Nat) : holdsB ls M = ls.all (fun k => clauseB k (cfg M)) := rfl
theorem num_of (cf : Cf) : ∀ n : Nat, ∃ M, M < 2 ^ n ∧ ∀ i, i < n → M.testBit i = cf i
  | 0 => ⟨0, by simp, fun i hi => by omega⟩
  | n + 1 => by
    obtain ⟨M, hM, hb⟩ := num_of cf n
    have hp : 2 ^ n < 2 ^ (n + 1) := Nat.pow_lt_pow_right (by decide) (Nat.lt_succ_self _)
    by_cases hc : cf n = true
    · refine ⟨M ||| 2 ^ n, Nat.or_lt_two_pow (by omega) hp, fun i hi => ?_⟩
      rw [or_pow_testBit]
      by_cases he : i = n
      · subst he; simp [hc]
      · simp [he, hb i (by omega)]
    · refine ⟨M, by omega, fun i hi => ?_⟩
      by_cases he : i = n
      · subst he
        rw [Nat.testBit_lt_two_pow hM]; simpa using hc
      · exact hb i (by omega)
theorem clauseB_num {c : List Int} {n M : Nat} {cf : Cf} (h : ∀ x ∈ c, x ≠ 0 ∧ x.natAbs ≤ n) (hM : ∀ i, i < n → M.testBit i = cf i) : clauseB c (cfg M) = clauseB c cf := by
  unfold clauseB
  rw [Bool.eq_iff_iff, List.any_eq_true, List.any_eq_true]
  have key : ∀ x ∈ c, litC (cfg M) x = litC cf x := fun x hx => by
    have := h x hx
    unfold litC cfg
    by_cases h0 : 0 < x
    · rw [if_pos h0, if_pos h0, hM _ (by omega)]
    · rw [if_neg h0, if_neg h0, hM _ (by omega)]
  exact ⟨fun ⟨x, hx, hl⟩ => ⟨x, hx, by rw [← key x hx]; exact hl⟩, fun ⟨x, hx, hl⟩ => ⟨x, hx, by rw [key x hx]; exact hl⟩⟩
/-- A configuration of the first n features stands for all that agree with it there. -/
theorem holds_num {ls : List (List Int)} {n : Nat} (h : ∀ c ∈ ls, ∀ x ∈ c, x ≠ 0 ∧ x.natAbs ≤ n) (cf : Cf) : ∃ M, M < 2 ^ n ∧ holdsB ls M = ls.all (fun k => clauseB k cf) := by
  obtain ⟨M, h1, h2⟩ := num_of cf n
  refine ⟨M, h1, ?_⟩
  rw [holds_cf, Bool.eq_iff_iff, List.all_eq_true, List.all_eq_true]
  exact ⟨fun g c hc => by rw [← clauseB_num (h c hc) h2]; exact g c hc, fun g c hc => by rw [clauseB_num (h c hc) h2]; exact g c hc⟩
theorem solve_gen {n k : Nat} {ls : List (List Int)} (hn : n ≤ k) (hk : k ≤ 24) (f : Nat) (hf : tS k + 1 ≤ f) (hls : ∀ c ∈ ls, ∀ x ∈ c, x ≠ 0 ∧ x.natAbs ≤ n) : ∃ r, Fm.solveF n f false ls [] [] = some r ∧ GoodS n ls r := by
  have h := solve_ok (by omega) hls f false [] [] ⟨fun x hx => by simp at hx, .nil, fun i x hi => by simp at hi, fun i x hi => by simp at hi, fun i c hi => by simp at hi, fun c hc => by simp at hc, fun M hM => by rw [List.append_nil]; exact hM⟩ (fun h => by cases h) (by
    have := tS_mono hn
    simp [muS, remS]
    omega)
  simpa using h
/-- What Verify accepts has no model. -/
theorem ver_sound : ∀ (ps ls : List (List Int)) (i : Nat), (∀ c ∈ ls, ∀ x ∈ c, Lit x) → (∀ c ∈ ps, ∀ x ∈ c, Lit x) → verF ls ps i = -1 → ∀ M, holdsB ls M = false
  | [], ls, i, _, _, h, M => by
    simp only [verF] at h
    omega
  | c :: ps, ls, i, h1, h2, h, M => by
    simp only [verF] at h
    split at h
    · rename_i hr
      cases hh : holdsB ls M with
      | false => rfl
      | true =>
        exfalso
        have hc := (refuted_iff h1 c).1 hr
        have hcl := h2 c (List.mem_cons_self ..)
        have hsat : satC M c = true := by
          cases hs : satC M c with
          | true => rfl
          | false =>
            exfalso
            refine conf_sat (fun d hd x hx => (h1 d hd x hx).1) (fun x hx => ?_) hh (fun x hx => ?_) hc
            · obtain ⟨y, hy, rfl⟩ := List.mem_map.1 hx
              have := (hcl y hy).1
              omega
            · obtain ⟨y, hy, rfl⟩ := List.mem_map.1 hx
              rw [satL_neg (hcl y hy).1]
              have := List.any_eq_false.1 hs y hy
              simpa using this
        split at h
        · rename_i he
          have : c = [] := by simpa using he
          subst this
          simp [satC] at hsat
        · have ih := ver_sound ps (ls ++ [c]) (i + 1) (fun d hd => by
            rcases List.mem_append.1 hd with hd | hd
            · exact h1 d hd
            · rw [List.mem_singleton.1 hd]; exact hcl) (fun d hd => h2 d (List.mem_cons_of_mem _ hd)) h M
          unfold holdsB at ih hh
          rw [List.all_append, hh] at ih
          simp [hsat] at ih
    · omega
end Go.Proofs.Ytkgllhkhdjodeaa

namespace Go.Proofs.Ytkgllhkhdjodeaa
open Go Go.Eng Go.Proofs
def largeB (ls : List (List Int)) : Bool := decide (40 < ls.length) || ls.any (fun c => decide (80 < c.length))
theorem large_no {ls : List (List Int)} (h : largeB ls = false) : ls.length ≤ 40 ∧ ∀ c ∈ ls, c.length ≤ 80 := by
  simp only [largeB, Bool.or_eq_false_iff, decide_eq_false_iff_not, List.any_eq_false, decide_eq_true_eq] at h
  exact ⟨by omega, fun c hc => by have := h.2 c hc; omega⟩

theorem Large_c (ls : List (List Int)) (a : Option Addr) (cap : Nat) (us : List Value) (w : World) (hr : RdLL w ls a us) : Pure Try.prog 14 [.slice a ls.length cap] w (.bool (largeB ls)) := by
  refine enter Try.func14 rfl Try.ntmps14 rfl (St.init _) ?_
  refine WC.seq ?_
  refine WC.region ?_
  refine WL.step ?_
  refine WL.assign rfl rfl ?_
  refine WL.nil ?_
  refine WQ.then_normal ?_
  refine WC.seq ?_
  refine WC.seq ?_
  refine WC.region ?_
  refine WL.step ?_
  refine WL.move rfl rfl ?_
  refine WL.step ?_
  refine WL.lenSl F.und33 rfl rfl ?_
  refine WL.step ?_
  refine WL.gtI rfl rfl rfl ?_
  refine WL.nil ?_
  refine WQ.then_normal ?_
  refine WC.cond rfl (fun h6 => ?_) (fun h6 => ?_)
  · skip
    have hres : largeB ls = true := by
      have h9 : decide (40 < ls.length) = true := by simp at h6 ⊢; omega
      unfold largeB; rw [h9]; rfl
    refine WC.seq ?_
    refine WC.region ?_
    refine WL.step ?_
    refine WL.assign rfl rfl ?_
    refine WL.nil ?_
    refine WQ.then_normal ?_
    refine WC.ret ?_
    refine WQ.then_ret ?_
    exact WQ.ret (rs := [.tmp 2]) rfl (.tmp rfl .nil) (fun w hS => ⟨by rw [hres]; rfl, hS⟩)
  · skip
    have hs40 : decide (40 < ls.length) = false := by simp at h6 ⊢; omega
    have hl40 : ls.length ≤ 40 := by simpa using hs40
    refine WC.skip ?_
    refine WQ.then_normal ?_
    refine WC.seq ?_
    refine WC.seq ?_
    refine WC.region ?_
    refine WL.step ?_
    refine WL.assign rfl rfl ?_
    refine WL.nil ?_
    refine WQ.then_normal ?_
    refine WC.block ?_
    refine WC.loop (α := Nat) (fun i => i ≤ ls.length ∧ (ls.take i).any (fun c => decide (80 < c.length)) = false) (fun i => [(0, .slice a ls.length cap), (3, .int .i64 (i : Int))]) (fun _ => []) (fun i => ls.length - i) (0) ?_ ?_ ?_ ?_
    · exact ⟨Nat.zero_le _, rfl⟩
    · exact ⟨rfl, rfl, trivial⟩
    · rfl
    rintro i ⟨hi, hno⟩
    refine WC.seq ?_
    refine WC.seq ?_
    refine WC.region ?_
    refine WL.step ?_
    refine WL.move rfl rfl ?_
    refine WL.step ?_
    refine WL.move rfl rfl ?_
    refine WL.step ?_
    refine WL.lenSl F.und33 rfl rfl ?_
    refine WL.step ?_
    refine WL.ltI rfl rfl rfl ?_
    refine WL.nil ?_
    refine WQ.then_normal ?_
    refine WC.cond rfl (fun h10 => ?_) (fun h10 => ?_)
    · skip
      have hlt : i < ls.length := by simpa using h10
      obtain ⟨c, b, off, a1, cap1, hc, rfl, hcell, hrc⟩ := hr.at hlt
      refine WC.skip ?_
      refine WQ.then_normal ?_
      refine WC.seq ?_
      refine WC.block ?_
      refine WC.seq ?_
      refine WC.region ?_
      refine WL.step ?_
      refine WL.move rfl rfl ?_
      refine WL.step ?_
      refine WL.move rfl rfl ?_
      refine WL.step ?_
      refine WL.indexAddr F.sl33 rfl rfl rfl hlt ?_
      refine WL.step ?_
      refine WL.load1 F.one23 rfl rfl (v := .slice a1 c.length cap1) (fun w hS => hS.oldc (by simpa using hcell) (by simp)) ?_
      refine WL.step ?_
      refine WL.lenSl F.und23 rfl rfl ?_
      refine WL.step ?_
      refine WL.gtI rfl rfl rfl ?_
      refine WL.nil ?_
      refine WQ.then_normal ?_
      refine WC.cond rfl (fun h18 => ?_) (fun h18 => ?_)
      · skip
        have hres : largeB ls = true := by
          have h9 : ls.any (fun c => decide (80 < c.length)) = true := any_at hc (by simp at h18 ⊢; omega)
          unfold largeB; rw [h9, Bool.or_true]
        refine WC.seq ?_
        refine WC.region ?_
        refine WL.step ?_
        refine WL.assign rfl rfl ?_
        refine WL.nil ?_
        refine WQ.then_normal ?_
        refine WC.ret ?_
        refine WQ.block_ret ?_
        refine WQ.then_ret ?_
        refine WQ.then_ret ?_
        refine WQ.block_ret ?_
        refine WQ.then_ret ?_
        exact WQ.ret (rs := [.tmp 2]) rfl (.tmp rfl .nil) (fun w hS => ⟨by rw [hres]; rfl, hS⟩)
      · skip
        refine WC.skip ?_
        refine WQ.block_normal ?_
        refine WQ.then_normal ?_
        refine WC.region ?_
        refine WL.step ?_
        refine WL.move rfl rfl ?_
        refine WL.step ?_
        refine WL.add rfl rfl rfl ⟨by omega, by omega⟩ ?_
        refine WL.step ?_
        refine WL.assign rfl rfl ?_
        refine WL.nil ?_
        refine WQ.back (i + 1) ?_ ?_ ?_ ?_
        · exact ⟨by omega, any_take hc hno (by simp at h18 ⊢; omega)⟩
        · omega
        · exact ⟨rfl, rfl, trivial⟩
        · rfl
    · skip
      have hie : i = ls.length := by simp at h10; omega
      subst hie
      rw [List.take_length] at hno
      have hres : largeB ls = false := by unfold largeB; rw [hs40, hno]; rfl
      refine WC.exit ?_
      refine WQ.then_exit ?_
      refine WQ.then_exit ?_
      refine WQ.block_exit ?_
      refine WQ.then_normal ?_
      refine WC.seq ?_
      refine WC.region ?_
      refine WL.step ?_
      refine WL.assign rfl rfl ?_
      refine WL.nil ?_
      refine WQ.then_normal ?_
      refine WC.ret ?_
      exact WQ.ret (rs := [.tmp 2]) rfl (.tmp rfl .nil) (fun w hS => ⟨by rw [hres]; rfl, hS⟩)

structure RW where
  i : Nat
  G : List Nat
  vs : List Value
  ss : List (List Int)
  aa : Option Addr
  ca : Nat
def Shaped (a : Option Addr) : Prop := a = none ∨ ∃ b off, a = some ⟨b, off, none⟩
abbrev RowsX := { x : (List Nat × List Value) × Option Addr × Nat // Shaped x.2.1 }
def rowsC (x : RowsX) (ls : List (List Int)) : List Chunk := [rowc (.slice x.1.2.1 ls.length x.1.2.2) ls.length 23 1 x.1.1.2, stepsC x.1.1.1 x.1.1.2 ls]

end Go.Proofs.Ytkgllhkhdjodeaa

namespace Go.Proofs.Ytkgllhkhdjodeaa
open Go Go.Eng Go.Proofs
def propL (q : Int → Bool) : Nat → List Int
  | 0 => []
  | n + 1 => propL q n ++ (if q ((n : Int) + 1) then [(n : Int) + 1] else if q (-((n : Int) + 1)) then [-((n : Int) + 1)] else [])
def propE (n : Int) (ls : List (List Int)) (fixed : List Int) : List Int × Int :=
  if Fm.mayE n ls = 0 then (if fixed.all (Fm.litB n) then (match Fm.consF 66 ls fixed with
    | some o => if Fm.conflictB ls o then ([], 9) else (propL (fun z => o.contains z) n.toNat, 0)
    | none => ([], 0)) else ([], 2)) else ([], Fm.mayE n ls)
def PropPost (n : Int) (ls : List (List Int)) (fixed : List Int) (w : World) (e : Ending) (w' : World) : Prop :=
  ∃ x : Option Addr × Nat, e = .returned (.tuple #[.slice x.1 (propE n ls fixed).1.length x.2, .int .i64 (propE n ls fixed).2]) ∧
    St w [] [rowc (.slice x.1 (propE n ls fixed).1.length x.2) (propE n ls fixed).1.length 3 1 ((propE n ls fixed).1.map (Value.int .i64))] w'
theorem RdC.one {w : World} {b off : Nat} {x : Int} (h : w.cell? ⟨b, off, none⟩ = some (.int .i64 x)) : RdC w [x] (some ⟨b, off, none⟩) := fun j y hy => by
  match j, hy with
  | 0, hy => simp at hy; subst hy; exact ⟨b, off, rfl, h⟩
  | j + 1, hy => simp at hy

structure P2 where
  j : Nat
  out : List Int
  ad : Option Addr
  ac : Nat

end Go.Proofs.Ytkgllhkhdjodeaa

namespace Go.Proofs.Ytkgllhkhdjodeaa
open Go Go.Eng Go.Proofs
end Go.Proofs.Ytkgllhkhdjodeaa

namespace Go.Proofs.Ytkgllhkhdjodeaa
open Go Go.Eng Go.Proofs
theorem und4b : Try.prog.underlying 4 = some .bool := by kernel_rfl
end Go.Proofs.Ytkgllhkhdjodeaa

namespace Go.Proofs.Ytkgllhkhdjodeaa
open Go Go.Eng Go.Proofs
def modelsL (n : Nat) (ls : List (List Int)) : List Nat := (List.range (2 ^ n)).filter (holdsB ls)
def u32s (l : List Nat) : List Value := l.map (fun m : Nat => Value.int .u32 (m : Int))
structure MD where
  M : Nat
  out : List Nat
  ad : Option Addr
  ac : Nat

end Go.Proofs.Ytkgllhkhdjodeaa

namespace Go.Proofs.Ytkgllhkhdjodeaa
open Go Go.Eng Go.Proofs
end Go.Proofs.Ytkgllhkhdjodeaa

namespace Go.Proofs.Ytkgllhkhdjodeaa
open Go Go.Eng Go.Proofs Dg
theorem run_neB {x y : Operand} (a b : Bool) (w : World) : (do eqGuard .neq 4 x y (.bool a) (.bool b); binOp .neq 4 (.bool a) (.bool b) : Sem Value).run Try.prog w = .ok (.bool (a != b)) w := by
  have h := run_neq_bool (P := Try.prog) (w := w) 4 a b und4b
  simp [eqGuard, h]
  cases a <;> cases b <;> rfl

set_option maxRecDepth 100000 in
theorem FormulaRefutes_c (n : Int) (ls : List (List Int)) (a : Option Addr) (cap : Nat) (us : List Value) (ps : List (List Int)) (a2 : Option Addr) (cap2 : Nat) (us2 : List Value) (w : World) (_hn : -9223372036854775808 ≤ n ∧ n < 9223372036854775808) (ha : a = none ∨ ∃ b off, a = some ⟨b, off, none⟩) (hr : RdLL w ls a us) (hr2 : RdLL w ps a2 us2) : Pure Try.prog 4 [.int .i64 n, .slice a ls.length cap, .slice a2 ps.length cap2] w (.bool true) := by
  refine enter Try.func4 rfl Try.ntmps4 rfl (St.init _) ?_
  refine WC.seq ?_
  refine WC.region ?_
  refine WL.step ?_
  refine WL.assign rfl rfl ?_
  refine WL.nil ?_
  refine WQ.then_normal ?_
  refine WC.seq ?_
  refine WC.seq ?_
  refine WC.cutF [(30, .bool (largeB ls || (largeB ps || (decide (12 < n) || (Fm.mayE n ls != 0))))), (0, .int .i64 n), (1, .slice a ls.length cap), (2, .slice a2 ps.length cap2)] (fun Q' hQ => ?_) ?_
  · skip
    refine WC.region ?_
    refine WL.step ?_
    refine WL.move rfl rfl ?_
    refine WL.step ?_
    refine WL.callV F.fun14 rfl rfl (fun w hS => Large_c ls a cap us w (hr.next hS)) ?_
    refine WL.step ?_
    refine WL.move rfl rfl ?_
    refine WA.splitB (i := 17) rfl (fun g17 => ?_) (fun g17 => ?_)
    · skip
      refine WL.step (WL.guardF rfl rfl rfl rfl rfl rfl ?_)
      refine WL.step (WL.guardF rfl rfl rfl rfl rfl rfl ?_)
      refine WL.step ?_
      refine WL.pickT rfl rfl rfl ?_
      refine WL.step ?_
      refine WL.move rfl rfl ?_
      refine WL.step (WL.guardF rfl rfl rfl rfl rfl rfl ?_)
      refine WL.step (WL.guardF rfl rfl rfl rfl rfl rfl ?_)
      refine WL.step ?_
      refine WL.pickT rfl rfl rfl ?_
      refine WL.step ?_
      refine WL.move rfl rfl ?_
      refine WL.step (WL.guardF rfl rfl rfl rfl rfl rfl ?_)
      refine WL.step (WL.guardF rfl rfl rfl rfl rfl rfl ?_)
      refine WL.step (WL.guardF rfl rfl rfl rfl rfl rfl ?_)
      refine WL.step (WL.guardF rfl rfl rfl rfl rfl rfl ?_)
      refine WL.step ?_
      refine WL.pickT rfl rfl rfl ?_
      refine WL.nil ?_
      refine WQ.byCut hQ (subF_bool ?_ ⟨rfl, rfl, rfl, trivial⟩ rfl)
      first | (simp [g17]; done) | (simp [g17, g21]; done) | (simp [g17, g21, g25]; done)
    · skip
      refine WL.step (WL.guardT rfl rfl rfl ?_)
      refine WL.move rfl rfl ?_
      refine WL.step (WL.guardT rfl rfl rfl ?_)
      refine WL.callV F.fun14 rfl rfl (fun w hS => Large_c ps a2 cap2 us2 w (hr2.next hS)) ?_
      refine WL.step ?_
      refine WL.pickF rfl rfl rfl ?_
      refine WL.step ?_
      refine WL.move rfl rfl ?_
      refine WA.splitB (i := 21) rfl (fun g21 => ?_) (fun g21 => ?_)
      · skip
        refine WL.step (WL.guardF rfl rfl rfl rfl rfl rfl ?_)
        refine WL.step (WL.guardF rfl rfl rfl rfl rfl rfl ?_)
        refine WL.step ?_
        refine WL.pickT rfl rfl rfl ?_
        refine WL.step ?_
        refine WL.move rfl rfl ?_
        refine WL.step (WL.guardF rfl rfl rfl rfl rfl rfl ?_)
        refine WL.step (WL.guardF rfl rfl rfl rfl rfl rfl ?_)
        refine WL.step (WL.guardF rfl rfl rfl rfl rfl rfl ?_)
        refine WL.step (WL.guardF rfl rfl rfl rfl rfl rfl ?_)
        refine WL.step ?_
        refine WL.pickT rfl rfl rfl ?_
        refine WL.nil ?_
        refine WQ.byCut hQ (subF_bool ?_ ⟨rfl, rfl, rfl, trivial⟩ rfl)
        first | (simp [g17]; done) | (simp [g17, g21]; done) | (simp [g17, g21, g25]; done)
      · skip
        refine WL.step (WL.guardT rfl rfl rfl ?_)
        refine WL.move rfl rfl ?_
        refine WL.step (WL.guardT rfl rfl rfl ?_)
        refine WL.gtI rfl rfl rfl ?_
        refine WL.step ?_
        refine WL.pickF rfl rfl rfl ?_
        refine WL.step ?_
        refine WL.move rfl rfl ?_
        refine WA.splitB (i := 25) rfl (fun g25 => ?_) (fun g25 => ?_)
        · skip
          refine WL.step (WL.guardF rfl rfl rfl rfl rfl rfl ?_)
          refine WL.step (WL.guardF rfl rfl rfl rfl rfl rfl ?_)
          refine WL.step (WL.guardF rfl rfl rfl rfl rfl rfl ?_)
          refine WL.step (WL.guardF rfl rfl rfl rfl rfl rfl ?_)
          refine WL.step ?_
          refine WL.pickT rfl rfl rfl ?_
          refine WL.nil ?_
          refine WQ.byCut hQ (subF_bool ?_ ⟨rfl, rfl, rfl, trivial⟩ rfl)
          first | (simp [g17]; done) | (simp [g17, g21]; done) | (simp [g17, g21, g25]; done)
        · skip
          refine WL.step (WL.guardT rfl rfl rfl ?_)
          refine WL.move rfl rfl ?_
          refine WL.step (WL.guardT rfl rfl rfl ?_)
          refine WL.move rfl rfl ?_
          refine WL.step (WL.guardT rfl rfl rfl ?_)
          refine WL.callV F.fun15 rfl rfl (fun w hS => rclauses_c n ls a cap us (by have := (large_no g17).1; omega) (fun c hc => by have := (large_no g17).2 c hc; omega) w (hr.next hS)) ?_
          refine WL.step (WL.guardT rfl rfl rfl ?_)
          refine WL.neI rfl rfl rfl ?_
          refine WL.step ?_
          refine WL.pickF rfl rfl rfl ?_
          refine WL.nil ?_
          refine WQ.byCut hQ (subF_bool ?_ ⟨rfl, rfl, rfl, trivial⟩ rfl)
          first | (simp [g17]; done) | (simp [g17, g21]; done) | (simp [g17, g21, g25]; done)
  refine WQ.then_normal ?_
  refine WC.cond rfl (fun h30 => ?_) (fun h30 => ?_)
  · skip
    refine WC.seq ?_
    refine WC.region ?_
    refine WL.step ?_
    refine WL.callV F.fun13 rfl rfl (fun w _ => wakes_c w) ?_
    refine WL.step ?_
    refine WL.assign rfl rfl ?_
    refine WL.nil ?_
    refine WQ.then_normal ?_
    refine WC.ret ?_
    refine WQ.then_ret ?_
    exact WQ.ret (rs := [.tmp 6]) rfl (.tmp rfl .nil) (fun w hS => ⟨rfl, hS.sublist (List.nil_sublist _)⟩)
  · skip
    simp only [Bool.or_eq_false_iff, decide_eq_false_iff_not, bne_eq_false_iff_eq] at h30
    obtain ⟨hL1, hL2, hn12, hme⟩ := h30
    obtain ⟨hl40, hc80⟩ := large_no hL1
    obtain ⟨hp40, hd80⟩ := large_no hL2
    obtain ⟨hm0, hcount, hall⟩ := may_zero hme
    obtain ⟨m, rfl⟩ : ∃ m : Nat, n = (m : Int) := ⟨n.toNat, by omega⟩
    have habs := may_abs hme
    have hLL := lit_le (by omega) habs
    obtain ⟨r, hrs, hgood⟩ := solve_gen (n := m) (k := 12) (by omega) (by decide) 20000 (by decide) habs
    have hrl := solve_len hrs
    simp only [List.length_nil] at hrl
    refine WC.skip ?_
    refine WQ.then_normal ?_
    refine WC.seq ?_
    refine WC.region ?_
    refine WL.step ?_
    refine WL.move rfl rfl ?_
    refine WL.step ?_
    refine WL.move rfl rfl ?_
    refine WL.step ?_
    refine WL.callC (β := (Option Addr × Nat) × List Nat × List Value) (res := fun y => .tuple #[.agg #[.bool r.ok, .int .u32 (r.model : Int), .slice y.1.1 r.proof.length y.1.2], .int .i64 0]) (cs := fun y => [rowc (.slice y.1.1 r.proof.length y.1.2) r.proof.length 23 1 y.2.2, stepsC y.2.1 y.2.2 r.proof]) (Cs := []) (O' := []) F.fun16 (fun d h => by cases h; rfl) rfl (List.Perm.refl _) (by simp) (by simp) (fun w hS _ => (Solve_c m ls a cap us ha w (hr.next hS) 20000 r (by omega) (fun k hk _ => (show m = k by omega) ▸ hrs)).mono (fun e w2 h => ?_)) (fun y35 => ?_)
    · rcases h with h | ⟨_, x, F, vs, h1, h2⟩
      · exact absurd hme h.1
      · exact ⟨(x, F, vs), h1, h2⟩
    obtain ⟨⟨pa, pc⟩, pf, pv⟩ := y35
    refine WL.step ?_
    refine WL.move rfl rfl ?_
    refine WL.step ?_
    refine WL.extract rfl rfl rfl ?_
    refine WL.step ?_
    refine WL.extract rfl rfl rfl ?_
    refine WL.step ?_
    refine WL.alloc F.zero41 rfl (fun b7 => ?_)
    refine WL.step ?_
    refine WL.storeN F.agg41 rfl rfl rfl (by simp [Value.oneCell']) (by repeat (first | exact Upd.here | apply Upd.there)) (by repeat constructor) ?_
    refine WL.step ?_
    refine WL.assign rfl rfl ?_
    refine WL.nil ?_
    refine WQ.then_normal ?_
    refine WC.seq ?_
    refine WC.region ?_
    refine WL.step ?_
    refine WL.move rfl rfl ?_
    refine WL.step ?_
    refine WL.move rfl rfl ?_
    refine WL.step ?_
    refine WL.call0 (β := DRes (fun cf => ls.all (fun k => clauseB k cf))) (res := fun z => .returned (.tuple #[z.v, .int .i64 0])) (cs := fun z => [z.ch]) (ψ := fun _ => True) F.fun17 (fun d h => by cases h; rfl) rfl (fun w hS => (Conj_in m ls a cap us hme w (hr.next hS)).mono (fun e w2 ⟨x, h1, h2⟩ => ⟨x, trivial, h1, h2⟩)) (fun z41 _ => ?_)
    have hnone : (∀ M, holdsB ls M = false) → ((canon z41.1.1).2 == 0) = true := fun hM => (emptyT z41.2.1).2 (fun cf => by (rw [z41.2.2]; dsimp only; obtain ⟨M, _, hh⟩ := holds_num habs cf; rw [← hh]; exact hM M))
    have hmod : r.ok = true → z41.1.1.ev (cfg r.model) = true ∧ r.model < 4294967296 := fun hok => by
      rcases hgood with ⟨_, _, h3, h4, _⟩ | ⟨h1, _⟩
      · exact ⟨by rw [z41.2.2]; exact h4, Nat.lt_of_lt_of_le h3 (Nat.le_trans (Nat.pow_le_pow_right (by decide) (show m ≤ 12 by omega)) (by decide))⟩
      · rw [h1] at hok; cases hok
    have hemp : ((canon z41.1.1).2 == 0) = !r.ok := by
      rcases hgood with ⟨h1, _, h3, h4, _⟩ | ⟨h1, _, _, _, h5⟩
      · rw [h1]
        cases he : ((canon z41.1.1).2 == 0) with
        | false => rfl
        | true =>
          have := (emptyT z41.2.1).1 he (cfg r.model)
          rw [(hmod h1).1] at this; cases this
      · rw [hnone h5, h1]; rfl
    refine WL.step ?_
    refine WL.move rfl rfl ?_
    refine WL.step ?_
    refine WL.extract rfl rfl rfl ?_
    refine WL.step ?_
    refine WL.extract rfl rfl rfl ?_
    refine WL.step ?_
    refine WL.alloc F.zero27 rfl (fun b9 => ?_)
    refine WL.step ?_
    refine WL.storeN F.agg27 rfl rfl rfl (by simp [Value.oneCell']) (by repeat (first | exact Upd.here | apply Upd.there)) (by repeat constructor) ?_
    refine WL.step ?_
    refine WL.assign rfl rfl ?_
    refine WL.nil ?_
    refine WQ.then_normal ?_
    refine WC.seq ?_
    refine WC.seq ?_
    refine WC.drawsL (by kernel_rfl) (FactsOk.cons (ds := []) (LoadOk.one (t := 7) (off := 0) rfl (by repeat (first | exact List.Mem.head _ | apply List.Mem.tail)) rfl) (FactsOk.cons (ds := []) (LoadOk.whole (t := 9) rfl (by repeat (first | exact List.Mem.head _ | apply List.Mem.tail))) (FactsOk.cons (ds := []) (LoadOk.one (t := 7) (off := 0) rfl (by repeat (first | exact List.Mem.head _ | apply List.Mem.tail)) rfl) (FactsOk.cons (ds := []) (LoadOk.whole (t := 9) rfl (by repeat (first | exact List.Mem.head _ | apply List.Mem.tail))) (FactsOk.cons (ds := []) (LoadOk.one (t := 7) (off := 1) rfl (by repeat (first | exact List.Mem.head _ | apply List.Mem.tail)) rfl) (FactsOk.nil)))))) ?_
    refine WD.take (i := 0) rfl rfl rfl rfl (by kernel_rfl) (by kernel_rfl) (by kernel_rfl) (fun _ _ _ h => h) (by kernel_rfl) need_none (Yl.move rfl) ?_
    refine WD.take (i := 1) rfl rfl rfl rfl (by kernel_rfl) (by kernel_rfl) (by kernel_rfl) (fun _ _ _ h => h) (by kernel_rfl) need_none (Yl.neI rfl rfl) ?_
    refine WD.take (i := 2) rfl rfl rfl rfl (by kernel_rfl) (by kernel_rfl) (by kernel_rfl) (fun _ _ _ h => h) (by kernel_rfl) need_none (Yl.move rfl) ?_
    refine fun hcl => WA.splitB (i := 46) rfl (fun g46 => ?_) (fun g46 => ?_)
    · skip
      refine (show WD _ _ _ _ _ _ _ _ _ _ _ _ from ?_) hcl
      exact absurd g46 (by decide)
    · skip
      refine (show WD _ _ _ _ _ _ _ _ _ _ _ _ from ?_) hcl
      refine WD.takeG (i := 3) rfl rfl rfl rfl rfl rfl (by kernel_rfl) (by kernel_rfl) (by kernel_rfl) (fun _ _ _ h => h) (by kernel_rfl) need_none (Yl.move rfl) ?_
      refine WD.takeG (i := 4) rfl rfl rfl rfl rfl rfl (by kernel_rfl) (by kernel_rfl) (by kernel_rfl) (fun _ _ _ h => h) (by kernel_rfl) need_none (Yl.neI rfl rfl) ?_
      refine WD.take (i := 5) rfl rfl rfl rfl (by kernel_rfl) (by kernel_rfl) (by kernel_rfl) (fun _ _ _ h => h) (by kernel_rfl) need_none (Yl.pickF rfl rfl) ?_
      refine WD.take (i := 6) rfl rfl rfl rfl (by kernel_rfl) (by kernel_rfl) (by kernel_rfl) (fun _ _ _ h => h) (by kernel_rfl) need_none (Yl.move rfl) ?_
      refine fun hcl => WA.splitB (i := 50) rfl (fun g50 => ?_) (fun g50 => ?_)
      · skip
        refine (show WD _ _ _ _ _ _ _ _ _ _ _ _ from ?_) hcl
        exact absurd g50 (by decide)
      · skip
        refine (show WD _ _ _ _ _ _ _ _ _ _ _ _ from ?_) hcl
        refine WD.takeG (i := 7) rfl rfl rfl rfl rfl rfl (by kernel_rfl) (by kernel_rfl) (by kernel_rfl) (fun _ _ _ h => h) (by kernel_rfl) need_none (Yl.fieldAddr0 F.fld41_0 rfl) ?_
        refine WD.takeG (i := 8) rfl rfl rfl rfl rfl rfl (by kernel_rfl) (by kernel_rfl) (by kernel_rfl) (fun _ _ _ h => h) (by kernel_rfl) (need_at 0 25 rfl (by kernel_rfl)) (Yl.load1 F.one4 rfl) ?_
        refine WD.takeG (i := 9) rfl rfl rfl rfl rfl rfl (by kernel_rfl) (by kernel_rfl) (by kernel_rfl) (fun _ _ _ h => h) (by kernel_rfl) (need_at 1 25 rfl (by kernel_rfl)) (Yl.loadN F.agg27 rfl rfl) ?_
        refine WD.one (i := 10) (by kernel_rfl) rfl ?_
        refine WL.guardT rfl rfl rfl ?_
        refine WL.callV F.fun18 rfl rfl (fun w hS => Empty_c z41.1.1 z41.1.2.1 z41.1.2.2 w) ?_
        refine WD.on (closed_of (by kernel_rfl)) (fun w hS => Sx.keep (hS.cell (by repeat (first | exact List.Mem.head _ | apply List.Mem.tail)) rfl) (Sx.keep ((fun j v hv => by rw [Nat.zero_add]; exact hS.cell (by repeat (first | exact List.Mem.head _ | apply List.Mem.tail)) hv)) (Sx.keep (hS.cell (by repeat (first | exact List.Mem.head _ | apply List.Mem.tail)) rfl) (Sx.keep ((fun j v hv => by rw [Nat.zero_add]; exact hS.cell (by repeat (first | exact List.Mem.head _ | apply List.Mem.tail)) hv)) (Sx.keep (hS.cell (by repeat (first | exact List.Mem.head _ | apply List.Mem.tail)) rfl) (Sx.none)))))) ?_
        refine WD.takeG (i := 11) rfl rfl rfl rfl rfl rfl (by kernel_rfl) (by kernel_rfl) (by kernel_rfl) (fun _ _ _ h => h) (by kernel_rfl) need_none (Yl.not rfl) ?_
        refine WD.takeG (i := 12) rfl rfl rfl rfl rfl rfl (by kernel_rfl) (by kernel_rfl) (by kernel_rfl) (fun _ _ _ h => h) (by kernel_rfl) need_none (Yl.bin rfl rfl (fun w => run_neB _ _ w)) ?_
        refine WD.take (i := 13) rfl rfl rfl rfl (by kernel_rfl) (by kernel_rfl) (by kernel_rfl) (fun _ _ _ h => h) (by kernel_rfl) need_none (Yl.pickF rfl rfl) ?_
        refine WD.take (i := 14) rfl rfl rfl rfl (by kernel_rfl) (by kernel_rfl) (by kernel_rfl) (fun _ _ _ h => h) (by kernel_rfl) need_none (Yl.move rfl) ?_
        refine fun hcl => WA.splitB (i := 58) rfl (fun g58 => ?_) (fun g58 => ?_)
        · skip
          refine (show WD _ _ _ _ _ _ _ _ _ _ _ _ from ?_) hcl
          exfalso; rw [hemp] at g58; revert g58; cases r.ok <;> simp
        · skip
          refine (show WD _ _ _ _ _ _ _ _ _ _ _ _ from ?_) hcl
          refine WD.takeG (i := 15) rfl rfl rfl rfl rfl rfl (by kernel_rfl) (by kernel_rfl) (by kernel_rfl) (fun _ _ _ h => h) (by kernel_rfl) need_none (Yl.fieldAddr0 F.fld41_0 rfl) ?_
          refine WD.takeG (i := 16) rfl rfl rfl rfl rfl rfl (by kernel_rfl) (by kernel_rfl) (by kernel_rfl) (fun _ _ _ h => h) (by kernel_rfl) (need_at 2 25 rfl (by kernel_rfl)) (Yl.load1 F.one4 rfl) ?_
          refine WD.takeG (i := 17) rfl rfl rfl rfl rfl rfl (by kernel_rfl) (by kernel_rfl) (by kernel_rfl) (fun _ _ _ h => h) (by kernel_rfl) need_none (Yl.move rfl) ?_
          refine fun hcl => WA.splitB (i := 61) rfl (fun g61 => ?_) (fun g61 => ?_)
          · skip
            refine (show WD _ _ _ _ _ _ _ _ _ _ _ _ from ?_) hcl
            refine WD.takeG (i := 18) rfl rfl rfl rfl rfl rfl (by kernel_rfl) (by kernel_rfl) (by kernel_rfl) (fun _ _ _ h => h) (by kernel_rfl) (need_at 3 25 rfl (by kernel_rfl)) (Yl.loadN F.agg27 rfl rfl) ?_
            refine WD.takeG (i := 19) rfl rfl rfl rfl rfl rfl (by kernel_rfl) (by kernel_rfl) (by kernel_rfl) (fun _ _ _ h => h) (by kernel_rfl) need_none (Yl.fieldAddr0 F.fld41_1 rfl) ?_
            refine WD.takeG (i := 20) rfl rfl rfl rfl rfl rfl (by kernel_rfl) (by kernel_rfl) (by kernel_rfl) (fun _ _ _ h => h) (by kernel_rfl) (need_at 4 25 rfl (by kernel_rfl)) (Yl.load1 F.one22 rfl) ?_
            refine WD.one (i := 21) (by kernel_rfl) rfl ?_
            refine WL.guardT rfl rfl rfl ?_
            refine WL.callV F.fun19 rfl rfl (fun w hS => Has_c z41.1.1 z41.1.2.1 z41.1.2.2 r.model (hmod g61).2 w (z41.rd hS (by repeat (first | exact List.Mem.head _ | apply List.Mem.tail)))) ?_
            refine WD.on (closed_of (by kernel_rfl)) (fun w hS => Sx.keep (hS.cell (by repeat (first | exact List.Mem.head _ | apply List.Mem.tail)) rfl) (Sx.keep ((fun j v hv => by rw [Nat.zero_add]; exact hS.cell (by repeat (first | exact List.Mem.head _ | apply List.Mem.tail)) hv)) (Sx.keep (hS.cell (by repeat (first | exact List.Mem.head _ | apply List.Mem.tail)) rfl) (Sx.keep ((fun j v hv => by rw [Nat.zero_add]; exact hS.cell (by repeat (first | exact List.Mem.head _ | apply List.Mem.tail)) hv)) (Sx.keep (hS.cell (by repeat (first | exact List.Mem.head _ | apply List.Mem.tail)) rfl) (Sx.none)))))) ?_
            refine WD.takeG (i := 22) rfl rfl rfl rfl rfl rfl (by kernel_rfl) (by kernel_rfl) (by kernel_rfl) (fun _ _ _ h => h) (by kernel_rfl) need_none (Yl.not rfl) ?_
            refine WD.takeG (i := 23) rfl rfl rfl rfl rfl rfl (by kernel_rfl) (by kernel_rfl) (by kernel_rfl) (fun _ _ _ h => h) (by kernel_rfl) need_none (Yl.pickT rfl rfl) ?_
            refine WD.take (i := 24) rfl rfl rfl rfl (by kernel_rfl) (by kernel_rfl) (by kernel_rfl) (fun _ _ _ h => h) (by kernel_rfl) need_none (Yl.pickF rfl rfl) ?_
            refine WD.done (by kernel_rfl) ?_
            refine WQ.then_normal ?_
            refine WC.cond rfl (fun h68 => ?_) (fun h68 => ?_)
            · skip
              exfalso
              first | (rw [(hmod g61).1] at h68; cases h68) | cases h68
            · skip
              refine WC.skip ?_
              refine WQ.then_normal ?_
              refine WC.seq ?_
              refine WC.seq ?_
              refine WC.region ?_
              refine WL.step ?_
              refine WL.fieldAddr0 F.fld41_0 rfl rfl ?_
              refine WL.step ?_
              refine WL.loadP F.one4 rfl rfl (by repeat (first | exact List.Mem.head _ | apply List.Mem.tail)) rfl ?_
              refine WL.step ?_
              refine WL.not rfl rfl ?_
              refine WL.nil ?_
              refine WQ.then_normal ?_
              refine WC.cond rfl (fun h71 => ?_) (fun h71 => ?_)
              · skip
                have hro : r.ok = false := by simpa using h71
                obtain ⟨hv1, hv2⟩ : verF ls r.proof 0 = -1 ∧ (∀ c ∈ r.proof, (∀ x ∈ c, x ≠ 0 ∧ x.natAbs ≤ m) ∧ c.length ≤ 64) := by
                  rcases hgood with ⟨h1, _⟩ | ⟨_, _, h3, h4, _⟩
                  · rw [hro] at h1; cases h1
                  · exact ⟨h3, h4⟩
                have hve : verE (m : Int) ls r.proof = (-1, 0) := by (unfold verE; rw [if_pos hme, if_pos (fits_of hv2), hv1])
                refine WC.seq ?_
                refine WC.region ?_
                refine WL.step ?_
                refine WL.move rfl rfl ?_
                refine WL.step ?_
                refine WL.move rfl rfl ?_
                refine WL.step ?_
                refine WL.fieldAddr0 F.fld41_2 rfl rfl ?_
                refine WL.step ?_
                refine WL.loadP F.one33 rfl rfl (by repeat (first | exact List.Mem.head _ | apply List.Mem.tail)) rfl ?_
                refine WL.step ?_
                refine WL.callV (v := .tuple #[.int .i64 (-1), .int .i64 0]) F.fun20 rfl rfl (fun w hS => by have h9 := pver_c m ls r.proof a pa cap pc us pv (by omega) (by omega) (fun c hc => by have := hc80 c hc; omega) (fun c hc => by have := (hv2 c hc).2; omega) ha w (hr.next hS) (RdLL.made rfl (hS.ok (rowc (.slice pa r.proof.length pc) r.proof.length 23 1 pv) (by repeat (first | exact List.Mem.head _ | apply List.Mem.tail))) (hS.ok (stepsC pf pv r.proof) (by repeat (first | exact List.Mem.head _ | apply List.Mem.tail)))); rw [hve] at h9; exact h9) ?_
                refine WL.step ?_
                refine WL.move rfl rfl ?_
                refine WL.step ?_
                refine WL.extract rfl rfl rfl ?_
                refine WL.step ?_
                refine WL.extract rfl rfl rfl ?_
                refine WL.step ?_
                refine WL.assign rfl rfl ?_
                refine WL.step ?_
                refine WL.assign rfl rfl ?_
                refine WL.nil ?_
                refine WQ.then_normal ?_
                refine WC.seq ?_
                refine WC.region ?_
                refine WL.step ?_
                refine WL.move rfl rfl ?_
                refine WL.step ?_
                refine WL.neI rfl rfl rfl ?_
                refine WL.step ?_
                refine WL.move rfl rfl ?_
                refine WA.splitB (i := 82) rfl (fun g82 => ?_) (fun g82 => ?_)
                · skip
                  exact absurd g82 (by decide)
                · skip
                  refine WL.step (WL.guardT rfl rfl rfl ?_)
                  refine WL.move rfl rfl ?_
                  refine WL.step (WL.guardT rfl rfl rfl ?_)
                  refine WL.neI rfl rfl rfl ?_
                  refine WL.step ?_
                  refine WL.pickF rfl rfl rfl ?_
                  refine WL.nil ?_
                  refine WQ.then_normal ?_
                  refine WC.cond rfl (fun h85 => ?_) (fun h85 => ?_)
                  · skip
                    cases h85
                  · skip
                    refine WC.skip ?_
                    refine WQ.then_normal ?_
                    refine WC.seq ?_
                    refine WC.region ?_
                    refine WL.step ?_
                    refine WL.move rfl rfl ?_
                    refine WL.step ?_
                    refine WL.move rfl rfl ?_
                    refine WL.step ?_
                    refine WL.move rfl rfl ?_
                    refine WL.step ?_
                    refine WL.callV F.fun20 rfl rfl (fun w hS => pver_c m ls ps a a2 cap cap2 us us2 (by omega) (by omega) (fun c hc => by have := hc80 c hc; omega) (fun c hc => by have := hd80 c hc; omega) ha w (hr.next hS) (hr2.next hS)) ?_
                    refine WL.step ?_
                    refine WL.move rfl rfl ?_
                    refine WL.step ?_
                    refine WL.extract rfl rfl rfl ?_
                    refine WL.step ?_
                    refine WL.extract rfl rfl rfl ?_
                    refine WL.step ?_
                    refine WL.assign rfl rfl ?_
                    refine WL.step ?_
                    refine WL.assign rfl rfl ?_
                    refine WL.nil ?_
                    refine WQ.then_normal ?_
                    refine WC.seq ?_
                    refine WC.region ?_
                    refine WL.step ?_
                    refine WL.move rfl rfl ?_
                    refine WL.step ?_
                    refine WL.neI rfl rfl rfl ?_
                    refine WL.step ?_
                    refine WL.move rfl rfl ?_
                    refine WA.splitB (i := 95) rfl (fun g95 => ?_) (fun g95 => ?_)
                    · skip
                      refine WL.step (WL.guardF rfl rfl rfl rfl rfl rfl ?_)
                      refine WL.step (WL.guardF rfl rfl rfl rfl rfl rfl ?_)
                      refine WL.step ?_
                      refine WL.pickT rfl rfl rfl ?_
                      refine WL.step ?_
                      refine WL.move rfl rfl ?_
                      refine WL.step (WL.guardT rfl rfl rfl ?_)
                      refine WL.callV F.fun13 rfl rfl (fun w _ => wakes_c w) ?_
                      refine WL.step ?_
                      refine WL.pickT rfl rfl rfl ?_
                      refine WL.step ?_
                      refine WL.assign rfl rfl ?_
                      refine WL.nil ?_
                      refine WQ.then_normal ?_
                      refine WC.ret ?_
                      exact WQ.ret (rs := [.tmp 6]) rfl (.tmp rfl .nil) (fun w hS => ⟨by first | rfl | simp [tup], hS.sublist (List.nil_sublist _)⟩)
                    · skip
                      have hsnd : ((canon z41.1.1).2 == 0) = true := by
                        refine hnone ?_
                        have hv : (verE (m : Int) ls ps).1 = -1 := by simpa using g95
                        unfold verE at hv
                        rw [if_pos hme] at hv
                        split at hv
                        · rename_i hf
                          exact ver_sound ps ls 0 hLL (fun c hc x hx => litB_lit (n := m) (by omega) ((List.all_eq_true.1 (by have h9 := List.all_eq_true.1 hf c hc; simp only [Fm.fitsB, Bool.and_eq_true] at h9; exact h9.2)) x hx)) hv
                        · simp at hv
                      refine WL.step (WL.guardT rfl rfl rfl ?_)
                      refine WL.loadW F.agg27 rfl rfl (by repeat (first | exact List.Mem.head _ | apply List.Mem.tail)) rfl ?_
                      refine WL.step (WL.guardT rfl rfl rfl ?_)
                      refine WL.callV F.fun18 rfl rfl (fun w hS => Empty_c z41.1.1 z41.1.2.1 z41.1.2.2 w) ?_
                      refine WL.step ?_
                      refine WL.pickF rfl rfl rfl ?_
                      refine WL.step ?_
                      refine WL.move rfl rfl ?_
                      refine WA.splitB (i := 99) rfl (fun g99 => ?_) (fun g99 => ?_)
                      · skip
                        refine WL.step (WL.guardT rfl rfl rfl ?_)
                        refine WL.callV F.fun13 rfl rfl (fun w _ => wakes_c w) ?_
                        refine WL.step ?_
                        refine WL.pickT rfl rfl rfl ?_
                        refine WL.step ?_
                        refine WL.assign rfl rfl ?_
                        refine WL.nil ?_
                        refine WQ.then_normal ?_
                        refine WC.ret ?_
                        exact WQ.ret (rs := [.tmp 6]) rfl (.tmp rfl .nil) (fun w hS => ⟨by first | rfl | simp [tup], hS.sublist (List.nil_sublist _)⟩)
                      · skip
                        exfalso; first | (rw [hsnd] at g99; cases g99) | cases g99
              · skip
                refine WC.skip ?_
                refine WQ.then_normal ?_
                refine WC.seq ?_
                refine WC.region ?_
                refine WL.step ?_
                refine WL.move rfl rfl ?_
                refine WL.step ?_
                refine WL.move rfl rfl ?_
                refine WL.step ?_
                refine WL.move rfl rfl ?_
                refine WL.step ?_
                refine WL.callV F.fun20 rfl rfl (fun w hS => pver_c m ls ps a a2 cap cap2 us us2 (by omega) (by omega) (fun c hc => by have := hc80 c hc; omega) (fun c hc => by have := hd80 c hc; omega) ha w (hr.next hS) (hr2.next hS)) ?_
                refine WL.step ?_
                refine WL.move rfl rfl ?_
                refine WL.step ?_
                refine WL.extract rfl rfl rfl ?_
                refine WL.step ?_
                refine WL.extract rfl rfl rfl ?_
                refine WL.step ?_
                refine WL.assign rfl rfl ?_
                refine WL.step ?_
                refine WL.assign rfl rfl ?_
                refine WL.nil ?_
                refine WQ.then_normal ?_
                refine WC.seq ?_
                refine WC.region ?_
                refine WL.step ?_
                refine WL.move rfl rfl ?_
                refine WL.step ?_
                refine WL.neI rfl rfl rfl ?_
                refine WL.step ?_
                refine WL.move rfl rfl ?_
                refine WA.splitB (i := 95) rfl (fun g95 => ?_) (fun g95 => ?_)
                · skip
                  refine WL.step (WL.guardF rfl rfl rfl rfl rfl rfl ?_)
                  refine WL.step (WL.guardF rfl rfl rfl rfl rfl rfl ?_)
                  refine WL.step ?_
                  refine WL.pickT rfl rfl rfl ?_
                  refine WL.step ?_
                  refine WL.move rfl rfl ?_
                  refine WL.step (WL.guardT rfl rfl rfl ?_)
                  refine WL.callV F.fun13 rfl rfl (fun w _ => wakes_c w) ?_
                  refine WL.step ?_
                  refine WL.pickT rfl rfl rfl ?_
                  refine WL.step ?_
                  refine WL.assign rfl rfl ?_
                  refine WL.nil ?_
                  refine WQ.then_normal ?_
                  refine WC.ret ?_
                  exact WQ.ret (rs := [.tmp 6]) rfl (.tmp rfl .nil) (fun w hS => ⟨by first | rfl | simp [tup], hS.sublist (List.nil_sublist _)⟩)
                · skip
                  have hsnd : ((canon z41.1.1).2 == 0) = true := by
                    refine hnone ?_
                    have hv : (verE (m : Int) ls ps).1 = -1 := by simpa using g95
                    unfold verE at hv
                    rw [if_pos hme] at hv
                    split at hv
                    · rename_i hf
                      exact ver_sound ps ls 0 hLL (fun c hc x hx => litB_lit (n := m) (by omega) ((List.all_eq_true.1 (by have h9 := List.all_eq_true.1 hf c hc; simp only [Fm.fitsB, Bool.and_eq_true] at h9; exact h9.2)) x hx)) hv
                    · simp at hv
                  refine WL.step (WL.guardT rfl rfl rfl ?_)
                  refine WL.loadW F.agg27 rfl rfl (by repeat (first | exact List.Mem.head _ | apply List.Mem.tail)) rfl ?_
                  refine WL.step (WL.guardT rfl rfl rfl ?_)
                  refine WL.callV F.fun18 rfl rfl (fun w hS => Empty_c z41.1.1 z41.1.2.1 z41.1.2.2 w) ?_
                  refine WL.step ?_
                  refine WL.pickF rfl rfl rfl ?_
                  refine WL.step ?_
                  refine WL.move rfl rfl ?_
                  refine WA.splitB (i := 99) rfl (fun g99 => ?_) (fun g99 => ?_)
                  · skip
                    refine WL.step (WL.guardT rfl rfl rfl ?_)
                    refine WL.callV F.fun13 rfl rfl (fun w _ => wakes_c w) ?_
                    refine WL.step ?_
                    refine WL.pickT rfl rfl rfl ?_
                    refine WL.step ?_
                    refine WL.assign rfl rfl ?_
                    refine WL.nil ?_
                    refine WQ.then_normal ?_
                    refine WC.ret ?_
                    exact WQ.ret (rs := [.tmp 6]) rfl (.tmp rfl .nil) (fun w hS => ⟨by first | rfl | simp [tup], hS.sublist (List.nil_sublist _)⟩)
                  · skip
                    exfalso; first | (rw [hsnd] at g99; cases g99) | cases g99
          · skip
            refine (show WD _ _ _ _ _ _ _ _ _ _ _ _ from ?_) hcl
            refine WD.skip (i := 18) rfl rfl rfl rfl rfl rfl rfl (by kernel_rfl) (by kernel_rfl) (by kernel_rfl) (fun _ _ _ h => h) (by kernel_rfl) ?_
            refine WD.skip (i := 19) rfl rfl rfl rfl rfl rfl rfl (by kernel_rfl) (by kernel_rfl) (by kernel_rfl) (fun _ _ _ h => h) (by kernel_rfl) ?_
            refine WD.skip (i := 20) rfl rfl rfl rfl rfl rfl rfl (by kernel_rfl) (by kernel_rfl) (by kernel_rfl) (fun _ _ _ h => h) (by kernel_rfl) ?_
            refine WD.skip (i := 21) rfl rfl rfl rfl rfl rfl rfl (by kernel_rfl) (by kernel_rfl) (by kernel_rfl) (fun _ _ _ h => h) (by kernel_rfl) ?_
            refine WD.skip (i := 22) rfl rfl rfl rfl rfl rfl rfl (by kernel_rfl) (by kernel_rfl) (by kernel_rfl) (fun _ _ _ h => h) (by kernel_rfl) ?_
            refine WD.takeG (i := 23) rfl rfl rfl rfl rfl rfl (by kernel_rfl) (by kernel_rfl) (by kernel_rfl) (fun _ _ _ h => h) (by kernel_rfl) need_none (Yl.pickF rfl rfl) ?_
            refine WD.take (i := 24) rfl rfl rfl rfl (by kernel_rfl) (by kernel_rfl) (by kernel_rfl) (fun _ _ _ h => h) (by kernel_rfl) need_none (Yl.pickF rfl rfl) ?_
            refine WD.done (by kernel_rfl) ?_
            refine WQ.then_normal ?_
            refine WC.condF rfl ?_
            refine WC.skip ?_
            refine WQ.then_normal ?_
            refine WC.seq ?_
            refine WC.seq ?_
            refine WC.region ?_
            refine WL.step ?_
            refine WL.fieldAddr0 F.fld41_0 rfl rfl ?_
            refine WL.step ?_
            refine WL.loadP F.one4 rfl rfl (by repeat (first | exact List.Mem.head _ | apply List.Mem.tail)) rfl ?_
            refine WL.step ?_
            refine WL.not rfl rfl ?_
            refine WL.nil ?_
            refine WQ.then_normal ?_
            refine WC.cond rfl (fun h71 => ?_) (fun h71 => ?_)
            · skip
              have hro : r.ok = false := by simpa using h71
              obtain ⟨hv1, hv2⟩ : verF ls r.proof 0 = -1 ∧ (∀ c ∈ r.proof, (∀ x ∈ c, x ≠ 0 ∧ x.natAbs ≤ m) ∧ c.length ≤ 64) := by
                rcases hgood with ⟨h1, _⟩ | ⟨_, _, h3, h4, _⟩
                · rw [hro] at h1; cases h1
                · exact ⟨h3, h4⟩
              have hve : verE (m : Int) ls r.proof = (-1, 0) := by (unfold verE; rw [if_pos hme, if_pos (fits_of hv2), hv1])
              refine WC.seq ?_
              refine WC.region ?_
              refine WL.step ?_
              refine WL.move rfl rfl ?_
              refine WL.step ?_
              refine WL.move rfl rfl ?_
              refine WL.step ?_
              refine WL.fieldAddr0 F.fld41_2 rfl rfl ?_
              refine WL.step ?_
              refine WL.loadP F.one33 rfl rfl (by repeat (first | exact List.Mem.head _ | apply List.Mem.tail)) rfl ?_
              refine WL.step ?_
              refine WL.callV (v := .tuple #[.int .i64 (-1), .int .i64 0]) F.fun20 rfl rfl (fun w hS => by have h9 := pver_c m ls r.proof a pa cap pc us pv (by omega) (by omega) (fun c hc => by have := hc80 c hc; omega) (fun c hc => by have := (hv2 c hc).2; omega) ha w (hr.next hS) (RdLL.made rfl (hS.ok (rowc (.slice pa r.proof.length pc) r.proof.length 23 1 pv) (by repeat (first | exact List.Mem.head _ | apply List.Mem.tail))) (hS.ok (stepsC pf pv r.proof) (by repeat (first | exact List.Mem.head _ | apply List.Mem.tail)))); rw [hve] at h9; exact h9) ?_
              refine WL.step ?_
              refine WL.move rfl rfl ?_
              refine WL.step ?_
              refine WL.extract rfl rfl rfl ?_
              refine WL.step ?_
              refine WL.extract rfl rfl rfl ?_
              refine WL.step ?_
              refine WL.assign rfl rfl ?_
              refine WL.step ?_
              refine WL.assign rfl rfl ?_
              refine WL.nil ?_
              refine WQ.then_normal ?_
              refine WC.seq ?_
              refine WC.region ?_
              refine WL.step ?_
              refine WL.move rfl rfl ?_
              refine WL.step ?_
              refine WL.neI rfl rfl rfl ?_
              refine WL.step ?_
              refine WL.move rfl rfl ?_
              refine WA.splitB (i := 82) rfl (fun g82 => ?_) (fun g82 => ?_)
              · skip
                exact absurd g82 (by decide)
              · skip
                refine WL.step (WL.guardT rfl rfl rfl ?_)
                refine WL.move rfl rfl ?_
                refine WL.step (WL.guardT rfl rfl rfl ?_)
                refine WL.neI rfl rfl rfl ?_
                refine WL.step ?_
                refine WL.pickF rfl rfl rfl ?_
                refine WL.nil ?_
                refine WQ.then_normal ?_
                refine WC.cond rfl (fun h85 => ?_) (fun h85 => ?_)
                · skip
                  cases h85
                · skip
                  refine WC.skip ?_
                  refine WQ.then_normal ?_
                  refine WC.seq ?_
                  refine WC.region ?_
                  refine WL.step ?_
                  refine WL.move rfl rfl ?_
                  refine WL.step ?_
                  refine WL.move rfl rfl ?_
                  refine WL.step ?_
                  refine WL.move rfl rfl ?_
                  refine WL.step ?_
                  refine WL.callV F.fun20 rfl rfl (fun w hS => pver_c m ls ps a a2 cap cap2 us us2 (by omega) (by omega) (fun c hc => by have := hc80 c hc; omega) (fun c hc => by have := hd80 c hc; omega) ha w (hr.next hS) (hr2.next hS)) ?_
                  refine WL.step ?_
                  refine WL.move rfl rfl ?_
                  refine WL.step ?_
                  refine WL.extract rfl rfl rfl ?_
                  refine WL.step ?_
                  refine WL.extract rfl rfl rfl ?_
                  refine WL.step ?_
                  refine WL.assign rfl rfl ?_
                  refine WL.step ?_
                  refine WL.assign rfl rfl ?_
                  refine WL.nil ?_
                  refine WQ.then_normal ?_
                  refine WC.seq ?_
                  refine WC.region ?_
                  refine WL.step ?_
                  refine WL.move rfl rfl ?_
                  refine WL.step ?_
                  refine WL.neI rfl rfl rfl ?_
                  refine WL.step ?_
                  refine WL.move rfl rfl ?_
                  refine WA.splitB (i := 95) rfl (fun g95 => ?_) (fun g95 => ?_)
                  · skip
                    refine WL.step (WL.guardF rfl rfl rfl rfl rfl rfl ?_)
                    refine WL.step (WL.guardF rfl rfl rfl rfl rfl rfl ?_)
                    refine WL.step ?_
                    refine WL.pickT rfl rfl rfl ?_
                    refine WL.step ?_
                    refine WL.move rfl rfl ?_
                    refine WL.step (WL.guardT rfl rfl rfl ?_)
                    refine WL.callV F.fun13 rfl rfl (fun w _ => wakes_c w) ?_
                    refine WL.step ?_
                    refine WL.pickT rfl rfl rfl ?_
                    refine WL.step ?_
                    refine WL.assign rfl rfl ?_
                    refine WL.nil ?_
                    refine WQ.then_normal ?_
                    refine WC.ret ?_
                    exact WQ.ret (rs := [.tmp 6]) rfl (.tmp rfl .nil) (fun w hS => ⟨by first | rfl | simp [tup], hS.sublist (List.nil_sublist _)⟩)
                  · skip
                    have hsnd : ((canon z41.1.1).2 == 0) = true := by
                      refine hnone ?_
                      have hv : (verE (m : Int) ls ps).1 = -1 := by simpa using g95
                      unfold verE at hv
                      rw [if_pos hme] at hv
                      split at hv
                      · rename_i hf
                        exact ver_sound ps ls 0 hLL (fun c hc x hx => litB_lit (n := m) (by omega) ((List.all_eq_true.1 (by have h9 := List.all_eq_true.1 hf c hc; simp only [Fm.fitsB, Bool.and_eq_true] at h9; exact h9.2)) x hx)) hv
                      · simp at hv
                    refine WL.step (WL.guardT rfl rfl rfl ?_)
                    refine WL.loadW F.agg27 rfl rfl (by repeat (first | exact List.Mem.head _ | apply List.Mem.tail)) rfl ?_
                    refine WL.step (WL.guardT rfl rfl rfl ?_)
                    refine WL.callV F.fun18 rfl rfl (fun w hS => Empty_c z41.1.1 z41.1.2.1 z41.1.2.2 w) ?_
                    refine WL.step ?_
                    refine WL.pickF rfl rfl rfl ?_
                    refine WL.step ?_
                    refine WL.move rfl rfl ?_
                    refine WA.splitB (i := 99) rfl (fun g99 => ?_) (fun g99 => ?_)
                    · skip
                      refine WL.step (WL.guardT rfl rfl rfl ?_)
                      refine WL.callV F.fun13 rfl rfl (fun w _ => wakes_c w) ?_
                      refine WL.step ?_
                      refine WL.pickT rfl rfl rfl ?_
                      refine WL.step ?_
                      refine WL.assign rfl rfl ?_
                      refine WL.nil ?_
                      refine WQ.then_normal ?_
                      refine WC.ret ?_
                      exact WQ.ret (rs := [.tmp 6]) rfl (.tmp rfl .nil) (fun w hS => ⟨by first | rfl | simp [tup], hS.sublist (List.nil_sublist _)⟩)
                    · skip
                      exfalso; first | (rw [hsnd] at g99; cases g99) | cases g99
            · skip
              refine WC.skip ?_
              refine WQ.then_normal ?_
              refine WC.seq ?_
              refine WC.region ?_
              refine WL.step ?_
              refine WL.move rfl rfl ?_
              refine WL.step ?_
              refine WL.move rfl rfl ?_
              refine WL.step ?_
              refine WL.move rfl rfl ?_
              refine WL.step ?_
              refine WL.callV F.fun20 rfl rfl (fun w hS => pver_c m ls ps a a2 cap cap2 us us2 (by omega) (by omega) (fun c hc => by have := hc80 c hc; omega) (fun c hc => by have := hd80 c hc; omega) ha w (hr.next hS) (hr2.next hS)) ?_
              refine WL.step ?_
              refine WL.move rfl rfl ?_
              refine WL.step ?_
              refine WL.extract rfl rfl rfl ?_
              refine WL.step ?_
              refine WL.extract rfl rfl rfl ?_
              refine WL.step ?_
              refine WL.assign rfl rfl ?_
              refine WL.step ?_
              refine WL.assign rfl rfl ?_
              refine WL.nil ?_
              refine WQ.then_normal ?_
              refine WC.seq ?_
              refine WC.region ?_
              refine WL.step ?_
              refine WL.move rfl rfl ?_
              refine WL.step ?_
              refine WL.neI rfl rfl rfl ?_
              refine WL.step ?_
              refine WL.move rfl rfl ?_
              refine WA.splitB (i := 95) rfl (fun g95 => ?_) (fun g95 => ?_)
              · skip
                refine WL.step (WL.guardF rfl rfl rfl rfl rfl rfl ?_)
                refine WL.step (WL.guardF rfl rfl rfl rfl rfl rfl ?_)
                refine WL.step ?_
                refine WL.pickT rfl rfl rfl ?_
                refine WL.step ?_
                refine WL.move rfl rfl ?_
                refine WL.step (WL.guardT rfl rfl rfl ?_)
                refine WL.callV F.fun13 rfl rfl (fun w _ => wakes_c w) ?_
                refine WL.step ?_
                refine WL.pickT rfl rfl rfl ?_
                refine WL.step ?_
                refine WL.assign rfl rfl ?_
                refine WL.nil ?_
                refine WQ.then_normal ?_
                refine WC.ret ?_
                exact WQ.ret (rs := [.tmp 6]) rfl (.tmp rfl .nil) (fun w hS => ⟨by first | rfl | simp [tup], hS.sublist (List.nil_sublist _)⟩)
              · skip
                have hsnd : ((canon z41.1.1).2 == 0) = true := by
                  refine hnone ?_
                  have hv : (verE (m : Int) ls ps).1 = -1 := by simpa using g95
                  unfold verE at hv
                  rw [if_pos hme] at hv
                  split at hv
                  · rename_i hf
                    exact ver_sound ps ls 0 hLL (fun c hc x hx => litB_lit (n := m) (by omega) ((List.all_eq_true.1 (by have h9 := List.all_eq_true.1 hf c hc; simp only [Fm.fitsB, Bool.and_eq_true] at h9; exact h9.2)) x hx)) hv
                  · simp at hv
                refine WL.step (WL.guardT rfl rfl rfl ?_)
                refine WL.loadW F.agg27 rfl rfl (by repeat (first | exact List.Mem.head _ | apply List.Mem.tail)) rfl ?_
                refine WL.step (WL.guardT rfl rfl rfl ?_)
                refine WL.callV F.fun18 rfl rfl (fun w hS => Empty_c z41.1.1 z41.1.2.1 z41.1.2.2 w) ?_
                refine WL.step ?_
                refine WL.pickF rfl rfl rfl ?_
                refine WL.step ?_
                refine WL.move rfl rfl ?_
                refine WA.splitB (i := 99) rfl (fun g99 => ?_) (fun g99 => ?_)
                · skip
                  refine WL.step (WL.guardT rfl rfl rfl ?_)
                  refine WL.callV F.fun13 rfl rfl (fun w _ => wakes_c w) ?_
                  refine WL.step ?_
                  refine WL.pickT rfl rfl rfl ?_
                  refine WL.step ?_
                  refine WL.assign rfl rfl ?_
                  refine WL.nil ?_
                  refine WQ.then_normal ?_
                  refine WC.ret ?_
                  exact WQ.ret (rs := [.tmp 6]) rfl (.tmp rfl .nil) (fun w hS => ⟨by first | rfl | simp [tup], hS.sublist (List.nil_sublist _)⟩)
                · skip
                  exfalso; first | (rw [hsnd] at g99; cases g99) | cases g99

end Go.Proofs.Ytkgllhkhdjodeaa
