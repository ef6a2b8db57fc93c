import Derived.Test.YtbippghgkbapnaaPaSolves3
set_option linter.unusedSimpArgs false
set_option linter.unusedVariables false
namespace Go.Proofs.Ytbippghgkbapnaa
open Go Go.Eng Go.Proofs
theorem Clone_c (ls : List (List Int)) (a : Option Addr) (cap : Nat) (us : List Value) (hlen : ls.length ≤ 1099511627776) (ha : a = none ∨ ∃ b off, a = some ⟨b, off, none⟩) (w : World) (hr : RdLL w ls a us) :
    Calls Try.prog 62 [.slice a ls.length cap].toArray w fun e w' => ∃ x : Option Addr × Nat, e = .returned (.slice x.1 ls.length x.2) ∧ St w [] [rowc (.slice x.1 ls.length x.2) ls.length 54 1 us] w' := by
  refine enter Try.func62 rfl Try.ntmps62 rfl (St.init _) ?_
  refine WC.seq ?_
  refine WC.region ?_
  refine WL.step ?_
  refine WL.assign rfl rfl ?_
  refine WL.nil ?_
  refine WQ.then_normal ?_
  refine WC.seq ?_
  refine WC.seq ?_
  rcases ha with rfl | ⟨b, off, rfl⟩
  · skip
    have hus : us = [] := by
      cases us with
      | nil => rfl
      | cons u r =>
        obtain ⟨b, off, h1, _⟩ := hr.hd 0 u rfl
        cases h1
    have hl0 : ls = [] := by (have := hr.len; rw [hus] at this; exact List.eq_nil_of_length_eq_zero this.symm)
    subst hus; subst hl0
    refine WC.region ?_
    refine WL.step ?_
    refine WL.move rfl rfl ?_
    refine WL.step ?_
    refine WL.bin rfl rfl rfl (v := .bool true) (fun w => by kernel_rfl) ?_
    refine WL.nil ?_
    refine WQ.then_normal ?_
    refine WC.condT rfl ?_
    refine WC.seq ?_
    refine WC.region ?_
    refine WL.step ?_
    refine WL.assign rfl rfl ?_
    refine WL.nil ?_
    refine WQ.then_normal ?_
    refine WC.ret ?_
    refine WQ.then_ret ?_
    exact WQ.ret (rs := [.tmp 2]) rfl (.tmp rfl .nil) (fun w hS => ⟨(none, 0), rfl, hS.rowNil 54 1⟩)
  · skip
    refine WC.region ?_
    refine WL.step ?_
    refine WL.move rfl rfl ?_
    refine WL.step ?_
    refine WL.bin rfl rfl rfl (v := .bool false) (fun w => by kernel_rfl) ?_
    refine WL.nil ?_
    refine WQ.then_normal ?_
    refine WC.condF rfl ?_
    refine WC.skip ?_
    refine WQ.then_normal ?_
    refine WC.seq ?_
    refine WC.region ?_
    refine WL.step ?_
    refine WL.buildSlice0 F.sl38 rfl (fun b5 => ?_)
    refine WA.chunks (fun w hS => hS.rowOf (n := 0) (sz := 1) rfl (by decide)) ?_
    refine WL.step ?_
    refine WL.move rfl rfl ?_
    refine WL.step ?_
    refine WL.appendE (news := us) F.el38 rfl rfl rfl (by repeat (first | exact Rem.here | apply Rem.there)) (fun w hS i u hu => ?_) (by rw [hr.len, Nat.mul_one]) (fun u hu => ?_) (Nat.le_trans (m := 1099511627776) (by omega) (by decide)) (by omega) (fun a2 cap2 => ?_)
    · obtain ⟨b2, off2, h1, h2⟩ := hr.hd i u hu
      injection h1 with h1
      injection h1 with h1 h3
      subst h1; subst h3
      exact hS.oldc h2 (by simp)
    · obtain ⟨i, hi, he⟩ := List.getElem_of_mem hu
      have h1 : us[i]? = some u := by rw [List.getElem?_eq_getElem hi, he]
      have h2 : ls[i]? = some (ls[i]'(by rw [← hr.len]; exact hi)) := List.getElem?_eq_getElem _
      obtain ⟨a1, c1, h3, _⟩ := hr.rd i _ u h2 h1
      subst h3
      rfl
    refine WL.step ?_
    refine WL.assign rfl rfl ?_
    refine WL.nil ?_
    refine WQ.then_normal ?_
    refine WC.ret ?_
    refine WQ.ret (rs := [.tmp 2]) rfl (.tmp rfl .nil) (fun w hS => ⟨(a2, cap2), ?_, ?_⟩)
    · simp [tup]
    · simpa using hS

theorem passK_KB : ∀ {ls : List (List Int)} {k : Fm.Kn} {ag : Bool}, KB k → (∀ c ∈ ls, ∀ x ∈ c, Lit x) → (∀ k', Fm.passK ls k ag = .inl k' → KB k') ∧ (∀ k' b, Fm.passK ls k ag = .inr (k', b) → KB k')
  | [], k, ag, hk, _ => ⟨fun k' h => by simp [Fm.passK] at h, fun k' b h => by simp only [Fm.passK, Sum.inr.injEq, Prod.mk.injEq] at h; rw [← h.1]; exact hk⟩
  | c :: cs, k, ag, hk, hl => by
    have hcs : ∀ c ∈ cs, ∀ x ∈ c, Lit x := fun c' h => hl c' (List.mem_cons_of_mem _ h)
    simp only [Fm.passK]
    split
    · exact ⟨fun k' h => by injection h with h; rw [← h]; exact hk, fun k' b h => by cases h⟩
    split
    · exact ⟨fun k' h => by injection h with h; rw [← h]; exact hk, fun k' b h => by cases h⟩
    split
    · rename_i h1 h2 h3
      have hx : Lit (Fm.unitK k c).1 := by
        rcases unitG_mem (x := (Fm.unitK k c).1) (c := c) (op := 0) (k := k) (by have := h3; unfold Fm.unitK at this ⊢; rw [← this]) with h0 | h0
        · exfalso
          apply h2
          rw [h3, h0]; rfl
        · exact hl c (List.mem_cons_self ..) _ h0
      exact passK_KB (hk.with hx) hcs
    · exact passK_KB hk hcs
theorem closedF_KB : ∀ {f : Nat} {ls : List (List Int)} {k k' : Fm.Kn} {b : Bool}, KB k → (∀ c ∈ ls, ∀ x ∈ c, Lit x) → Fm.closedF f ls k = some (k', b) → KB k'
  | 0, ls, k, k', b, _, _, h => by simp [Fm.closedF] at h
  | f + 1, ls, k, k', b, hk, hl, h => by
    have hp := passK_KB (ag := false) hk hl
    simp only [Fm.closedF] at h
    split at h
    · rename_i k2 h2
      simp only [Option.some.injEq, Prod.mk.injEq] at h
      rw [← h.1]; exact hp.1 _ h2
    · rename_i k2 b2 h2
      split at h
      · exact closedF_KB (hp.2 _ _ h2) hl h
      · simp only [Option.some.injEq, Prod.mk.injEq] at h
        rw [← h.1]; exact hp.2 _ _ h2
theorem solveF_true {n f : Nat} {all proof : List (List Int)} {path : List Int} : Fm.solveF n (f + 1) true all path proof = match path.getLast? with
    | none => some ⟨false, 0, proof ++ [path.map (fun x => -x)]⟩
    | some last => if last < 0 then Fm.solveF n f false (all ++ [path.map (fun x => -x)]) (path.dropLast ++ [-last]) (proof ++ [path.map (fun x => -x)]) else Fm.solveF n f true (all ++ [path.map (fun x => -x)]) path.dropLast (proof ++ [path.map (fun x => -x)]) := rfl
structure SG where
  f : Nat
  path : List Int
  ss : List (List Int)
  vs : List Value
  hs : List Value
  ps : List Value
  F : List Nat
  aa : Option Addr
  pa : Option Addr
  ta : Option Addr
  ca : Nat
  pc : Nat
  tc : Nat
  nA : Nat
  nP : Nat
  nT : Nat
structure SInv (n : Nat) (ls : List (List Int)) (us : List Value) (r : Fm.Ans) (mode : Bool) (g : SG) : Prop where
  sol : Fm.solveF n g.f mode (ls ++ g.ss) g.path g.ss = some r
  hhs : g.hs = us ++ g.vs
  hps : g.ps = g.path.map (Value.int .i64)
  hA : g.nA = ls.length + g.ss.length
  hP : g.nP = g.ss.length
  hT : g.nT = g.path.length
  lit : ∀ x ∈ g.path, x ≠ 0 ∧ -24 ≤ x ∧ x ≤ 24
  slit : ∀ c ∈ g.ss, ∀ x ∈ c, Lit x
  slen : ∀ c ∈ g.ss, c.length ≤ 1099511627776
  bp : g.path.length + g.f ≤ 1073741824
  bs : g.ss.length + g.f ≤ 1073741824
/-- The step that shows that a path leads to no model, laid up to i. -/
def stepAt (path : List Int) (i : Nat) : List Value := ((path.map (fun x => -x)).take i).map (Value.int .i64) ++ List.replicate (path.length - i) (.int .i64 0)
theorem stepAt_len {path : List Int} {i : Nat} (h : i ≤ path.length) : (stepAt path i).length = path.length := by
  simp [stepAt]; omega
theorem stepAt_set {path : List Int} {i : Nat} {x : Int} (h : path[i]? = some x) : (stepAt path i).set i (.int .i64 (-x)) = stepAt path (i + 1) := by
  have hi := (List.getElem?_eq_some_iff.1 h).1
  have hl : (((path.map (fun x => -x)).take i).map (Value.int .i64)).length = i := by simp; omega
  unfold stepAt
  rw [List.set_append_right _ _ (by omega), hl, Nat.sub_self, List.take_add_one, List.map_append]
  have hg : (path.map (fun x => -x))[i]? = some (-x) := by simp [h]
  rw [hg]
  have hr : path.length - i = (path.length - (i + 1)) + 1 := by omega
  rw [hr, List.replicate_succ, List.set_cons_zero]
  simp
theorem stepAt_end {path : List Int} : stepAt path path.length = (path.map (fun x => -x)).map (Value.int .i64) := by
  simp [stepAt]
  rw [List.take_of_length_le (by simp)]
theorem Lit.neg {x : Int} (h : x ≠ 0 ∧ -24 ≤ x ∧ x ≤ 24) : Lit (-x) := ⟨by omega, by omega, by omega⟩
theorem litB_lit {n : Nat} {x : Int} (hn : n ≤ 24) (h : Fm.litB (n : Int) x = true) : Lit x := by
  simp only [Fm.litB, Bool.and_eq_true, Bool.not_eq_true', decide_eq_true_eq, beq_eq_false_iff_ne] at h
  exact ⟨h.1.1, by omega, by omega⟩
theorem may_lit {n : Nat} {ls : List (List Int)} (hn : n ≤ 24) (h : ls.all (Fm.fitsB (n : Int)) = true) : (∀ c ∈ ls, ∀ x ∈ c, Lit x) ∧ (∀ c ∈ ls, c.length ≤ 64) := by
  rw [List.all_eq_true] at h
  refine ⟨fun c hc x hx => ?_, fun c hc => ?_⟩
  · have := h c hc
    simp only [Fm.fitsB, Bool.and_eq_true, List.all_eq_true] at this
    exact litB_lit hn (this.2 x hx)
  · have := h c hc
    simp only [Fm.fitsB, Bool.and_eq_true, decide_eq_true_eq] at this
    exact this.1
def SolvePost (w : World) (r : Fm.Ans) (e : Ending) (w' : World) : Prop :=
  ∃ (x : Option Addr × Nat) (F : List Nat) (vs : List Value), e = .returned (.tuple #[.agg #[.bool r.ok, .int .u32 (r.model : Int), .slice x.1 r.proof.length x.2], .int .i64 0]) ∧
    St w [] [rowc (.slice x.1 r.proof.length x.2) r.proof.length 54 1 vs, stepsC F vs r.proof] w'

theorem may_zero {m : Int} {ls : List (List Int)} (h : Fm.mayE m ls = 0) : (0 ≤ m ∧ m ≤ 24) ∧ ls.length ≤ 4096 ∧ ls.all (Fm.fitsB m) = true := by
  unfold Fm.mayE at h
  split at h
  · cases h
  split at h
  · cases h
  split at h
  · rename_i h1 h2 h3
    exact ⟨by omega, by omega, h3⟩
  · cases h
theorem stepAt_zero {path : List Int} {k : Nat} (h : k = path.length) : stepAt path 0 = List.replicate k (.int .i64 0) := by
  simp [stepAt, h]
theorem last_at {path : List Int} {x : Int} {k : Nat} (hk : k = path.length) (h : path.getLast? = some x) : path[k - 1]? = some x ∧ 0 < k := by
  subst hk
  rw [List.getLast?_eq_getElem?] at h
  exact ⟨h, by have := (List.getElem?_eq_some_iff.1 h).1; omega⟩
namespace F
theorem info3 : (Try.prog.info? 3).map (fun i => (i.zero, i.size, i.bytes)) = some (some (.int .i64 0), 1, 8) := by kernel_rfl
end F

theorem Solve_c (m : Int) (ls : List (List Int)) (a : Option Addr) (cap : Nat) (us : List Value) (ha : a = none ∨ ∃ b off, a = some ⟨b, off, none⟩) (w : World) (hr : RdLL w ls a us)
    (f0 : Nat) (r : Fm.Ans) (hf0 : f0 ≤ 536870912) (hsol : ∀ n : Nat, m = (n : Int) → Fm.mayE m ls = 0 → Fm.solveF n f0 false ls [] [] = some r) :
    Calls Try.prog 24 [.int .i64 m, .slice a ls.length cap].toArray w fun e w' => (Fm.mayE m ls ≠ 0 ∧ e = .returned (.tuple #[.agg #[.bool false, .int .u32 0, .slice none 0 0], .int .i64 (Fm.mayE m ls)]) ∧ St w [] [] w') ∨
      (Fm.mayE m ls = 0 ∧ SolvePost w r e w') := by
  refine enter Try.func24 rfl Try.ntmps24 rfl (St.init _) ?_
  refine WC.seq ?_
  refine WC.region ?_
  refine WL.step ?_
  refine WL.alloc F.zero43 rfl (fun b4 => ?_)
  refine WL.step ?_
  refine WL.assign rfl rfl ?_
  refine WL.nil ?_
  refine WQ.then_normal ?_
  refine WC.scope ?_
  refine WC.seq ?_
  refine WC.seq ?_
  refine WC.region ?_
  refine WL.step ?_
  refine WL.move rfl rfl ?_
  refine WL.step ?_
  refine WL.move rfl rfl ?_
  refine WL.step ?_
  refine WL.callV F.fun61 rfl rfl (fun w hS => may_c m ls a cap us w (hr.next hS)) ?_
  refine WL.step ?_
  refine WL.assign rfl rfl ?_
  refine WL.nil ?_
  refine WQ.then_normal ?_
  refine WC.seq ?_
  refine WC.region ?_
  refine WL.step ?_
  refine WL.move rfl rfl ?_
  refine WL.step ?_
  refine WL.neI rfl rfl rfl ?_
  refine WL.nil ?_
  refine WQ.then_normal ?_
  refine WC.cond rfl (fun h23 => ?_) (fun h23 => ?_)
  · skip
    have hme : Fm.mayE m ls ≠ 0 := by simpa using h23
    refine WC.seq ?_
    refine WC.region ?_
    refine WL.step ?_
    refine WL.build F.stT43 rfl (by repeat (first | exact Built.nil | apply Built.one rfl rfl (by repeat constructor) | apply Built.agg rfl rfl (by repeat constructor))) rfl ?_
    refine WL.step ?_
    refine WL.move rfl rfl ?_
    refine WL.step ?_
    refine WL.storeN F.agg43 rfl rfl rfl (by simp [Value.oneCell']) (by repeat (first | exact Upd.here | apply Upd.there)) (by repeat constructor) ?_
    refine WL.step ?_
    refine WL.assign rfl rfl ?_
    refine WL.nil ?_
    refine WQ.then_normal ?_
    refine WC.ret ?_
    refine WQ.then_ret ?_
    refine WQ.scope_ret ?_
    refine WQ.ret (rs := [.cell 4 43, .tmp 5]) rfl (.cellN F.agg43 rfl (by repeat (first | exact List.Mem.head _ | apply List.Mem.tail)) rfl (.tmp rfl .nil)) (fun w hS => .inl ⟨hme, rfl, hS.drop⟩)
  · skip
    have hme : Fm.mayE m ls = 0 := by simpa using h23
    obtain ⟨hm0, hcount, hall⟩ := may_zero hme
    obtain ⟨n, rfl⟩ : ∃ n : Nat, m = (n : Int) := ⟨m.toNat, by omega⟩
    have hn : n ≤ 24 := by omega
    obtain ⟨hlits, hlens⟩ := may_lit hn hall
    have h := hsol n rfl hme
    refine WC.skip ?_
    refine WQ.then_normal ?_
    refine WC.seq ?_
    refine WC.region ?_
    refine WL.step ?_
    refine WL.move rfl rfl ?_
    refine WL.step ?_
    refine WL.callC (β := Option Addr × Nat) (res := fun x => .slice x.1 ls.length x.2) (cs := fun x => [rowc (.slice x.1 ls.length x.2) ls.length 54 1 us]) (Cs := []) (O' := []) F.fun62 (fun d h => by cases h; rfl) rfl (List.Perm.refl _) (by simp) (by simp) (fun w hS _ => Clone_c ls a cap us (by omega) ha w (hr.next hS)) (fun x27 => ?_)
    refine WL.step ?_
    refine WL.assign rfl rfl ?_
    refine WL.nil ?_
    refine WQ.then_normal ?_
    refine WC.seq ?_
    refine WC.region ?_
    refine WL.step ?_
    refine WL.assign rfl rfl ?_
    refine WL.nil ?_
    refine WQ.then_normal ?_
    refine WC.seq ?_
    refine WC.region ?_
    refine WL.step ?_
    refine WL.assign rfl rfl ?_
    refine WL.nil ?_
    refine WQ.then_normal ?_
    refine WC.seq ?_
    refine WC.label ?_
    refine WQ.then_normal ?_
    refine WC.block ?_
    obtain ⟨a1, c1⟩ := x27
    refine WC.chunks (fun w hS => (hS.rowNil 54 1)) ?_
    refine WC.chunks (fun w hS => (hS.rowNil 3 1)) ?_
    refine WC.chunks (fun w hS => hS.stepsNil) ?_
    refine WC.chunks (C' := [pt b4 [.bool false, .int .u32 0, .slice none 0 0] 43, rowc (.slice a1 ls.length c1) ls.length 54 1 us, rowc (.slice none 0 0) 0 54 1 [], rowc (.slice none 0 0) 0 3 1 [], stepsC [] [] []]) (fun w hS => (St.pick (St.pick (St.pick (St.pick hS (c := rowc (.slice none 0 0) 0 3 1 []) (by repeat (first | exact Rem.here | apply Rem.there))) (c := rowc (.slice none 0 0) 0 54 1 []) (by repeat (first | exact Rem.here | apply Rem.there))) (c := rowc (.slice a1 ls.length c1) ls.length 54 1 us) (by repeat (first | exact Rem.here | apply Rem.there))) (c := pt b4 [.bool false, .int .u32 0, .slice none 0 0] 43) (by repeat (first | exact Rem.here | apply Rem.there)))) ?_
    refine WC.loop (α := SG) (SInv n ls us r false) (fun g => [(0, .int .i64 (n : Int)), (4, pp b4), (7, .slice g.aa g.nA g.ca), (8, .slice g.ta g.nT g.tc), (9, .slice g.pa g.nP g.pc)]) (fun g => [pt b4 [.bool false, .int .u32 0, .slice none 0 0] 43, rowc (.slice g.aa g.nA g.ca) g.nA 54 1 g.hs, rowc (.slice g.pa g.nP g.pc) g.nP 54 1 g.vs, rowc (.slice g.ta g.nT g.tc) g.nT 3 1 g.ps, stepsC g.F g.vs g.ss]) (fun g => g.f) (⟨f0, [], [], [], us, [], [], a1, none, none, c1, 0, 0, ls.length, 0, 0⟩) ?_ ?_ ?_ ?_
    · exact ⟨by rw [List.append_nil]; exact h, by rw [List.append_nil], rfl, rfl, rfl, rfl, by simp, by simp, by simp, by simp; omega, by simp; omega⟩
    · exact ⟨rfl, rfl, rfl, rfl, rfl, trivial⟩
    · rfl
    rintro ⟨f, path, ss, vs, hs, ps, Fb, aa, pa, ta, ca, pc, tc, nA, nP, nT⟩ hI
    obtain ⟨sol, hhs, hps, hA, hP, hT, hlit, hslit, hslen, hbp, hbs⟩ := hI
    dsimp only at sol hhs hps hA hP hT hlit hslit hslen hbp hbs
    obtain ⟨f, rfl⟩ : ∃ f2, f = f2 + 1 := by cases f with | zero => simp [Fm.solveF] at sol | succ f => exact ⟨f, rfl⟩
    show WC _ _ _ _ _ _ _ [(0, .int .i64 (n : Int)), (4, pp b4), (7, .slice aa nA ca), (8, .slice ta nT tc), (9, .slice pa nP pc)] [pt b4 [.bool false, .int .u32 0, .slice none 0 0] 43, rowc (.slice aa nA ca) nA 54 1 hs, rowc (.slice pa nP pc) nP 54 1 vs, rowc (.slice ta nT tc) nT 3 1 ps, stepsC Fb vs ss]
    simp only [Fm.solveF] at sol
    obtain rfl : nA = (ls ++ ss).length := by rw [hA, List.length_append]
    have hLL : ∀ c ∈ ls ++ ss, ∀ x ∈ c, Lit x := by
      intro c hc
      rcases List.mem_append.1 hc with hc | hc
      · exact hlits c hc
      · exact hslit c hc
    have hLen : ∀ c ∈ ls ++ ss, c.length ≤ 1099511627776 := by
      intro c hc
      rcases List.mem_append.1 hc with hc | hc
      · have := hlens c hc; omega
      · exact hslen c hc
    refine WC.block ?_
    refine WC.seq ?_
    refine WC.region ?_
    refine WL.step ?_
    refine WL.build F.stT103 rfl (by repeat (first | exact Built.nil | apply Built.one rfl rfl (by repeat constructor) | apply Built.agg rfl rfl (by repeat constructor))) rfl ?_
    refine WL.step ?_
    refine WL.alloc F.zero103 rfl (fun b10 => ?_)
    refine WL.step ?_
    refine WL.storeN F.agg103 rfl rfl rfl (by simp [Value.oneCell']) (by repeat (first | exact Upd.here | apply Upd.there)) (by repeat constructor) ?_
    refine WL.nil ?_
    refine WQ.then_normal ?_
    refine WC.seq ?_
    refine WC.seq ?_
    refine WC.region ?_
    refine WL.step ?_
    refine WL.move rfl rfl ?_
    refine WL.step ?_
    refine WL.lenSl F.und54 rfl rfl ?_
    refine WL.step ?_
    refine WL.move rfl rfl ?_
    refine WL.nil ?_
    refine WQ.then_normal ?_
    refine WC.block ?_
    refine WC.loop (α := Nat × Fm.Kn) (fun g => g.1 ≤ nT ∧ KB g.2 ∧ g.2 = (path.take g.1).foldl Fm.withK (0, 0)) (fun g => [(0, .int .i64 (n : Int)), (4, pp b4), (7, .slice aa (ls ++ ss).length ca), (8, .slice ta nT tc), (9, .slice pa nP pc), (10, pp b10), (29, .slice ta nT tc), (30, .int .i64 (nT : Int)), (31, .int .i64 (g.1 : Int))]) (fun g => [pt b10 [.int .u32 (g.2.1 : Int), .int .u32 (g.2.2 : Int)] 103, pt b4 [.bool false, .int .u32 0, .slice none 0 0] 43, rowc (.slice aa (ls ++ ss).length ca) (ls ++ ss).length 54 1 hs, rowc (.slice pa nP pc) nP 54 1 vs, rowc (.slice ta nT tc) nT 3 1 ps, stepsC Fb vs ss]) (fun g => nT - g.1) ((0, (0, 0))) ?_ ?_ ?_ ?_
    · exact ⟨Nat.zero_le _, ⟨by decide, by decide⟩, rfl⟩
    · exact ⟨rfl, rfl, rfl, rfl, rfl, rfl, rfl, rfl, rfl, trivial⟩
    · rfl
    rintro ⟨i, k⟩ ⟨hi, hk, hke⟩
    dsimp only at hi hk hke
    show WC _ _ _ _ _ _ _ [(0, .int .i64 (n : Int)), (4, pp b4), (7, .slice aa (ls ++ ss).length ca), (8, .slice ta nT tc), (9, .slice pa nP pc), (10, pp b10), (29, .slice ta nT tc), (30, .int .i64 (nT : Int)), (31, .int .i64 (i : Int))] [pt b10 [.int .u32 (k.1 : Int), .int .u32 (k.2 : Int)] 103, pt b4 [.bool false, .int .u32 0, .slice none 0 0] 43, rowc (.slice aa (ls ++ ss).length ca) (ls ++ ss).length 54 1 hs, rowc (.slice pa nP pc) nP 54 1 vs, rowc (.slice ta nT tc) nT 3 1 ps, stepsC Fb vs ss]
    refine WC.seq ?_
    refine WC.region ?_
    refine WL.step ?_
    refine WL.ltI rfl rfl rfl ?_
    refine WL.nil ?_
    refine WQ.then_normal ?_
    refine WC.seq ?_
    refine WC.cond rfl (fun h32 => ?_) (fun h32 => ?_)
    · skip
      have hlt : i < nT := by simpa using h32
      obtain ⟨x, hx⟩ : ∃ x, path[i]? = some x := ⟨_, List.getElem?_eq_getElem (by omega)⟩
      have hxl := hlit x (List.mem_of_getElem? hx)
      refine WC.know (φ := ∃ g, ta = some ⟨g, 0, none⟩ ∧ nT = nT ∧ nT ≤ tc) (fun w hS => rowc_addr (hS.ok (rowc (.slice ta nT tc) nT 3 1 ps) (by repeat (first | exact List.Mem.head _ | apply List.Mem.tail))) (by omega)) (fun ⟨g, hta, _, _⟩ => ?_)
      subst hta
      refine WC.skip ?_
      refine WQ.then_normal ?_
      refine WC.seq ?_
      refine WC.block ?_
      refine WC.seq ?_
      refine WC.region ?_
      refine WL.step ?_
      refine WL.indexAddr F.sl54 rfl rfl rfl hlt ?_
      refine WL.step ?_
      refine WL.load1 F.one3 rfl rfl (v := .int .i64 x) (fun w hS => by simpa using rowc_cell (hS.ok (rowc (.slice (some ⟨g, 0, none⟩) nT tc) nT 3 1 ps) (by repeat (first | exact List.Mem.head _ | apply List.Mem.tail))) (u := .int .i64 x) (by rw [hps]; simp [hx])) ?_
      refine WL.step ?_
      refine WL.assign rfl rfl ?_
      refine WL.nil ?_
      refine WQ.then_normal ?_
      refine WC.region ?_
      refine WL.step ?_
      refine WL.loadW F.agg103 rfl rfl (by repeat (first | exact List.Mem.head _ | apply List.Mem.tail)) rfl ?_
      refine WL.step ?_
      refine WL.move rfl rfl ?_
      refine WL.step ?_
      refine WL.callV F.fun63 rfl rfl (fun w _ => with_c k x hk ⟨hxl.1, by omega, by omega⟩ w) ?_
      refine WL.step ?_
      refine WL.storeN F.agg103 rfl rfl rfl (by simp [Value.oneCell']) (by repeat (first | exact Upd.here | apply Upd.there)) (by repeat constructor) ?_
      refine WL.nil ?_
      refine WQ.block_normal ?_
      refine WQ.then_normal ?_
      refine WC.region ?_
      refine WL.step ?_
      refine WL.add rfl rfl rfl ⟨by omega, by omega⟩ ?_
      refine WL.step ?_
      refine WL.move rfl rfl ?_
      refine WL.nil ?_
      refine WQ.back ((i + 1, Fm.withK k x)) ?_ ?_ ?_ ?_
      · exact ⟨by show i + 1 ≤ nT; omega, hk.with ⟨hxl.1, by omega, by omega⟩, by show Fm.withK k x = _; rw [List.take_add_one, hx, List.foldl_append, ← hke]; rfl⟩
      · (show nT - (i + 1) < nT - i; omega)
      · exact ⟨rfl, rfl, rfl, rfl, rfl, rfl, rfl, rfl, rfl, trivial⟩
      · rfl
    · skip
      have hie : nT = i := by simp at h32; omega
      subst hie
      rw [hT, List.take_length] at hke
      refine WC.exit ?_
      refine WQ.then_exit ?_
      refine WQ.then_exit ?_
      refine WQ.block_exit ?_
      refine WQ.then_normal ?_
      refine WC.seq ?_
      rcases hcl : Fm.closedF 65 (ls ++ ss) k with _ | ⟨k1, ok⟩
      · skip
        rw [← hke, hcl] at sol
        cases sol
      · skip
        rw [← hke, hcl] at sol
        have hk1 := closedF_KB hk hLL hcl
        refine WC.region ?_
        refine WL.step ?_
        refine WL.move rfl rfl ?_
        refine WL.step ?_
        refine WL.loadW F.agg103 rfl rfl (by repeat (first | exact List.Mem.head _ | apply List.Mem.tail)) rfl ?_
        refine WL.step ?_
        refine WL.callV F.fun64 rfl rfl (fun w hS => closed_c (ls ++ ss) aa ca hs k 65 (k1, ok) hk hLL hLen (by simp; omega) w (hr.join hS hhs (by rw [List.length_append]) (n := (ls ++ ss).length) (cap := ca) (F := Fb) (vs := vs) (by repeat (first | exact List.Mem.head _ | apply List.Mem.tail)) (by repeat (first | exact List.Mem.head _ | apply List.Mem.tail))) hcl) ?_
        refine WL.step ?_
        refine WL.move rfl rfl ?_
        refine WL.step ?_
        refine WL.extract rfl rfl rfl ?_
        refine WL.step ?_
        refine WL.extract rfl rfl rfl ?_
        refine WL.step ?_
        refine WL.storeN F.agg103 rfl rfl rfl (by simp [Value.oneCell']) (by repeat (first | exact Upd.here | apply Upd.there)) (by repeat constructor) ?_
        refine WL.step ?_
        refine WL.assign rfl rfl ?_
        refine WL.nil ?_
        refine WQ.then_normal ?_
        refine WC.seq ?_
        refine WC.seq ?_
        refine WC.region ?_
        refine WL.step ?_
        refine WL.move rfl rfl ?_
        refine WL.nil ?_
        refine WQ.then_normal ?_
        refine WC.cond rfl (fun h45 => ?_) (fun h45 => ?_)
        · skip
          have hok : ok = true := h45
          subst hok
          simp only at sol
          refine WC.seq ?_
          refine WC.seq ?_
          refine WC.region ?_
          refine WL.step ?_
          refine WL.move rfl rfl ?_
          refine WL.step ?_
          refine WL.assign rfl rfl ?_
          refine WL.nil ?_
          refine WQ.then_normal ?_
          refine WC.block ?_
          refine WC.loop (α := Nat) (fun i => i ≤ n ∧ Fm.openK k1 n = Fm.openK k1 i) (fun i => [(0, .int .i64 (n : Int)), (4, pp b4), (7, .slice aa (ls ++ ss).length ca), (8, .slice ta nT tc), (9, .slice pa nP pc), (10, pp b10), (14, .int .i64 (i : Int))]) (fun _ => [pt b10 [.int .u32 (k1.1 : Int), .int .u32 (k1.2 : Int)] 103, pt b4 [.bool false, .int .u32 0, .slice none 0 0] 43, rowc (.slice aa (ls ++ ss).length ca) (ls ++ ss).length 54 1 hs, rowc (.slice pa nP pc) nP 54 1 vs, rowc (.slice ta nT tc) nT 3 1 ps, stepsC Fb vs ss]) (fun i => i) (n) ?_ ?_ ?_ ?_
          · exact ⟨Nat.le_refl _, rfl⟩
          · exact ⟨rfl, rfl, rfl, rfl, rfl, rfl, rfl, trivial⟩
          · rfl
          rintro i ⟨hi, hop⟩
          refine WC.seq ?_
          refine WC.seq ?_
          refine WC.region ?_
          refine WL.step ?_
          refine WL.move rfl rfl ?_
          refine WL.step ?_
          refine WL.gtI rfl rfl rfl ?_
          refine WL.nil ?_
          refine WQ.then_normal ?_
          refine WC.cond rfl (fun h48 => ?_) (fun h48 => ?_)
          · skip
            have hi0 : 0 < i := by simp at h48; omega
            have hLi : Lit (i : Int) := ⟨by omega, by omega, by omega⟩
            have hLn : Lit (-(i : Int)) := ⟨by omega, by omega, by omega⟩
            have hok2 : Fm.openK k1 i = if !Fm.hasK k1 (i : Int) && !Fm.hasK k1 (-(i : Int)) then i else Fm.openK k1 (i - 1) := by
              obtain ⟨j, rfl⟩ : ∃ j, i = j + 1 := ⟨i - 1, by omega⟩
              simp only [Fm.openK, Nat.add_sub_cancel]
            refine WC.skip ?_
            refine WQ.then_normal ?_
            refine WC.seq ?_
            refine WC.block ?_
            refine WC.seq ?_
            refine WC.region ?_
            refine WL.step ?_
            refine WL.loadW F.agg103 rfl rfl (by repeat (first | exact List.Mem.head _ | apply List.Mem.tail)) rfl ?_
            refine WL.step ?_
            refine WL.move rfl rfl ?_
            refine WL.step ?_
            refine WL.callV F.fun65 rfl rfl (fun w _ => has_c k1 _ hk1 hLi w) ?_
            refine WL.step ?_
            refine WL.not rfl rfl ?_
            refine WL.step ?_
            refine WL.move rfl rfl ?_
            refine WA.splitB (i := 55) rfl (fun h55 => ?_) (fun h55 => ?_)
            · skip
              refine WL.step (WL.guardT rfl rfl rfl ?_)
              refine WL.loadW F.agg103 rfl rfl (by repeat (first | exact List.Mem.head _ | apply List.Mem.tail)) rfl ?_
              refine WL.step (WL.guardT rfl rfl rfl ?_)
              refine WL.move rfl rfl ?_
              refine WL.step (WL.guardT rfl rfl rfl ?_)
              refine WL.negI rfl rfl (by omega) ?_
              refine WL.step (WL.guardT rfl rfl rfl ?_)
              refine WL.callV F.fun65 rfl rfl (fun w _ => has_c k1 _ hk1 hLn w) ?_
              refine WL.step (WL.guardT rfl rfl rfl ?_)
              refine WL.not rfl rfl ?_
              refine WL.step ?_
              refine WL.pickT rfl rfl rfl ?_
              refine WL.nil ?_
              refine WQ.then_normal ?_
              refine WC.cond rfl (fun h61 => ?_) (fun h61 => ?_)
              · skip
                have hoi : Fm.openK k1 n = i := by rw [hop, hok2, h55, h61]; rfl
                rw [if_neg (by rw [hoi]; omega), hoi] at sol
                refine WC.seq ?_
                refine WC.region ?_
                refine WL.step ?_
                refine WL.move rfl rfl ?_
                refine WL.step ?_
                refine WL.move rfl rfl ?_
                refine WL.step ?_
                refine WL.negI rfl rfl (by omega) ?_
                refine WL.step ?_
                refine WL.buildSlice F.sl54 F.ez54 rfl rfl rfl rfl (by repeat (first | exact Built.nil | apply Built.one rfl rfl (by repeat constructor) | apply Built.agg rfl rfl (by repeat constructor))) rfl (fun b65 => ?_)
                refine WL.step ?_
                refine WL.appendE (news := [.int .i64 (-(i : Int))]) F.el54 rfl rfl rfl (by repeat (first | exact Rem.here | apply Rem.there)) (fun w hS j u hu => by rw [Nat.zero_add]; exact hS.cell (cs := [.int .i64 (-(i : Int))]) (by repeat (first | exact List.Mem.head _ | apply List.Mem.tail)) hu) rfl (by simp [Value.oneCell']) (Nat.le_trans (m := 1099511627776) (by omega) (by decide)) (by omega) (fun a3 c3 => ?_)
                refine WL.step ?_
                refine WL.assign rfl rfl ?_
                refine WL.nil ?_
                refine WQ.then_normal ?_
                refine WC.exit ?_
                refine WQ.block_other rfl ?_
                refine WQ.then_exit ?_
                refine WQ.then_exit ?_
                refine WQ.block_other rfl ?_
                refine WQ.then_exit ?_
                refine WQ.then_exit ?_
                refine WQ.block_exit ?_
                refine WQ.chunks (C' := [pt b4 [.bool false, .int .u32 0, .slice none 0 0] 43, rowc (.slice aa (ls ++ ss).length ca) (ls ++ ss).length 54 1 hs, rowc (.slice pa nP pc) nP 54 1 vs, rowc (.slice a3 (nT + 1) c3) (nT + 1) 3 1 (ps ++ [.int .i64 (-(i : Int))]), stepsC Fb vs ss]) (fun w hS => ((St.pick (St.pick (St.pick (St.pick (St.pick hS (c := stepsC Fb vs ss) (by repeat (first | exact Rem.here | apply Rem.there))) (c := rowc (.slice a3 (nT + 1) c3) (nT + 1) 3 1 (ps ++ [.int .i64 (-(i : Int))])) (by repeat (first | exact Rem.here | apply Rem.there))) (c := rowc (.slice pa nP pc) nP 54 1 vs) (by repeat (first | exact Rem.here | apply Rem.there))) (c := rowc (.slice aa (ls ++ ss).length ca) (ls ++ ss).length 54 1 hs) (by repeat (first | exact Rem.here | apply Rem.there))) (c := pt b4 [.bool false, .int .u32 0, .slice none 0 0] 43) (by repeat (first | exact Rem.here | apply Rem.there)))).sublist (List.Sublist.cons_cons _ (List.Sublist.cons_cons _ (List.Sublist.cons_cons _ (List.Sublist.cons_cons _ (List.Sublist.cons_cons _ (List.nil_sublist _))))))) ?_
                refine WQ.back (⟨f, path ++ [-(i : Int)], ss, vs, hs, ps ++ [.int .i64 (-(i : Int))], Fb, aa, pa, a3, ca, pc, c3, (ls ++ ss).length, nP, nT + 1⟩) ?_ ?_ ?_ ?_
                · exact ⟨sol, hhs, by show ps ++ _ = (path ++ _).map _; rw [hps]; simp, by show (ls ++ ss).length = _; rw [List.length_append], hP, by show nT + 1 = (path ++ [_]).length; rw [hT]; simp, by intro x hx; rcases List.mem_append.1 hx with hx | hx; exact hlit x hx; simp at hx; subst hx; exact ⟨by omega, by omega, by omega⟩, hslit, hslen, by show (path ++ [_]).length + f ≤ _; simp; omega, by show ss.length + f ≤ _; omega⟩
                · exact Nat.lt_succ_self f
                · exact ⟨rfl, rfl, rfl, rfl, rfl, trivial⟩
                · rfl
              · skip
                have hop2 : Fm.openK k1 n = Fm.openK k1 (i - 1) := by rw [hop, hok2, h55, h61]; rfl
                refine WC.skip ?_
                refine WQ.block_normal ?_
                refine WQ.then_normal ?_
                refine WC.region ?_
                refine WL.step ?_
                refine WL.move rfl rfl ?_
                refine WL.step ?_
                refine WL.sub rfl rfl rfl ⟨by omega, by omega⟩ ?_
                refine WL.step ?_
                refine WL.assign rfl rfl ?_
                refine WL.nil ?_
                obtain ⟨i, rfl⟩ : ∃ i2, i = i2 + 1 := ⟨i - 1, by omega⟩
                rw [show (((i + 1 : Nat) : Int) - 1) = (i : Int) by omega]
                refine WQ.back (i) ?_ ?_ ?_ ?_
                · exact ⟨by omega, hop2⟩
                · omega
                · exact ⟨rfl, rfl, rfl, rfl, rfl, rfl, rfl, trivial⟩
                · rfl
            · skip
              have hop2 : Fm.openK k1 n = Fm.openK k1 (i - 1) := by rw [hop, hok2, h55]; rfl
              refine WL.step (WL.guardF rfl rfl rfl rfl rfl rfl ?_)
              refine WL.step (WL.guardF rfl rfl rfl rfl rfl rfl ?_)
              refine WL.step (WL.guardF rfl rfl rfl rfl rfl rfl ?_)
              refine WL.step (WL.guardF rfl rfl rfl rfl rfl rfl ?_)
              refine WL.step (WL.guardF rfl rfl rfl rfl rfl rfl ?_)
              refine WL.step ?_
              refine WL.pickF rfl rfl rfl ?_
              refine WL.nil ?_
              refine WQ.then_normal ?_
              refine WC.condF rfl ?_
              refine WC.skip ?_
              refine WQ.block_normal ?_
              refine WQ.then_normal ?_
              refine WC.region ?_
              refine WL.step ?_
              refine WL.move rfl rfl ?_
              refine WL.step ?_
              refine WL.sub rfl rfl rfl ⟨by omega, by omega⟩ ?_
              refine WL.step ?_
              refine WL.assign rfl rfl ?_
              refine WL.nil ?_
              obtain ⟨i, rfl⟩ : ∃ i2, i = i2 + 1 := ⟨i - 1, by omega⟩
              rw [show (((i + 1 : Nat) : Int) - 1) = (i : Int) by omega]
              refine WQ.back (i) ?_ ?_ ?_ ?_
              · exact ⟨by omega, hop2⟩
              · omega
              · exact ⟨rfl, rfl, rfl, rfl, rfl, rfl, rfl, trivial⟩
              · rfl
          · skip
            have hi0 : i = 0 := by simp at h48; omega
            subst hi0
            have hop0 : Fm.openK k1 n = 0 := hop
            rw [if_pos hop0] at sol
            injection sol with sol
            refine WC.exit ?_
            refine WQ.then_exit ?_
            refine WQ.then_exit ?_
            refine WQ.block_exit ?_
            refine WQ.then_normal ?_
            refine WC.seq ?_
            refine WC.region ?_
            refine WL.step ?_
            refine WL.fieldAddr0 F.fld103_0 rfl rfl ?_
            refine WL.step ?_
            refine WL.loadP F.one41 rfl rfl (by repeat (first | exact List.Mem.head _ | apply List.Mem.tail)) rfl ?_
            refine WL.step ?_
            refine WL.build F.stT43 rfl (by repeat (first | exact Built.nil | apply Built.one rfl rfl (by repeat constructor) | apply Built.agg rfl rfl (by repeat constructor))) rfl ?_
            refine WL.step ?_
            refine WL.storeN F.agg43 rfl rfl rfl (by simp [Value.oneCell']) (by repeat (first | exact Upd.here | apply Upd.there)) (by repeat constructor) ?_
            refine WL.step ?_
            refine WL.assign rfl rfl ?_
            refine WL.nil ?_
            refine WQ.then_normal ?_
            refine WC.ret ?_
            refine WQ.then_ret ?_
            refine WQ.block_ret ?_
            refine WQ.then_ret ?_
            refine WQ.block_ret ?_
            refine WQ.scope_ret ?_
            refine WQ.ret (rs := [.cell 4 43, .tmp 5]) rfl (.cellN F.agg43 rfl (by repeat (first | exact List.Mem.head _ | apply List.Mem.tail)) rfl (.tmp rfl .nil)) (fun w hS => .inr ⟨hme, (none, 0), [], [], ?_, ?_⟩)
            · rw [← sol]; rfl
            · rw [← sol]; exact (((hS.sublist (List.nil_sublist _)).stepsNil).rowNil 54 1)
        · skip
          have hok : ok = false := h45
          subst hok
          simp only at sol
          refine WC.skip ?_
          refine WQ.then_normal ?_
          refine WC.block ?_
          obtain ⟨fo, hfo0⟩ : ∃ fo, fo = f := ⟨_, rfl⟩
          refine WC.chunks (C' := [pt b4 [.bool false, .int .u32 0, .slice none 0 0] 43, rowc (.slice aa (ls ++ ss).length ca) (ls ++ ss).length 54 1 hs, rowc (.slice pa nP pc) nP 54 1 vs, rowc (.slice ta nT tc) nT 3 1 ps, stepsC Fb vs ss]) (fun w hS => ((St.pick (St.pick (St.pick (St.pick (St.pick hS (c := stepsC Fb vs ss) (by repeat (first | exact Rem.here | apply Rem.there))) (c := rowc (.slice ta nT tc) nT 3 1 ps) (by repeat (first | exact Rem.here | apply Rem.there))) (c := rowc (.slice pa nP pc) nP 54 1 vs) (by repeat (first | exact Rem.here | apply Rem.there))) (c := rowc (.slice aa (ls ++ ss).length ca) (ls ++ ss).length 54 1 hs) (by repeat (first | exact Rem.here | apply Rem.there))) (c := pt b4 [.bool false, .int .u32 0, .slice none 0 0] 43) (by repeat (first | exact Rem.here | apply Rem.there)))).sublist (List.Sublist.cons_cons _ (List.Sublist.cons_cons _ (List.Sublist.cons_cons _ (List.Sublist.cons_cons _ (List.Sublist.cons_cons _ (List.nil_sublist _))))))) ?_
          refine WC.loop (α := SG) (fun g => SInv n ls us r true g ∧ g.f ≤ fo) (fun g => [(0, .int .i64 (n : Int)), (4, pp b4), (7, .slice g.aa g.nA g.ca), (8, .slice g.ta g.nT g.tc), (9, .slice g.pa g.nP g.pc)]) (fun g => [pt b4 [.bool false, .int .u32 0, .slice none 0 0] 43, rowc (.slice g.aa g.nA g.ca) g.nA 54 1 g.hs, rowc (.slice g.pa g.nP g.pc) g.nP 54 1 g.vs, rowc (.slice g.ta g.nT g.tc) g.nT 3 1 g.ps, stepsC g.F g.vs g.ss]) (fun g => g.f) (⟨f, path, ss, vs, hs, ps, Fb, aa, pa, ta, ca, pc, tc, (ls ++ ss).length, nP, nT⟩) ?_ ?_ ?_ ?_
          · exact ⟨⟨sol, hhs, hps, by show (ls ++ ss).length = _; rw [List.length_append], hP, hT, hlit, hslit, hslen, by show path.length + f ≤ _; omega, by show ss.length + f ≤ _; omega⟩, by show f ≤ fo; omega⟩
          · exact ⟨rfl, rfl, rfl, rfl, rfl, trivial⟩
          · rfl
          rintro ⟨f, path, ss, vs, hs, ps, Fb, aa, pa, ta, ca, pc, tc, nA, nP, nT⟩ ⟨hI, hfo⟩
          dsimp only at hfo
          obtain ⟨sol, hhs, hps, hA, hP, hT, hlit, hslit, hslen, hbp, hbs⟩ := hI
          dsimp only at sol hhs hps hA hP hT hlit hslit hslen hbp hbs
          obtain ⟨f, rfl⟩ : ∃ f2, f = f2 + 1 := by cases f with | zero => simp [Fm.solveF] at sol | succ f => exact ⟨f, rfl⟩
          show WC _ _ _ _ _ _ _ [(0, .int .i64 (n : Int)), (4, pp b4), (7, .slice aa nA ca), (8, .slice ta nT tc), (9, .slice pa nP pc)] [pt b4 [.bool false, .int .u32 0, .slice none 0 0] 43, rowc (.slice aa nA ca) nA 54 1 hs, rowc (.slice pa nP pc) nP 54 1 vs, rowc (.slice ta nT tc) nT 3 1 ps, stepsC Fb vs ss]
          rw [solveF_true] at sol
          refine WC.block ?_
          refine WC.seq ?_
          refine WC.region ?_
          refine WL.step ?_
          refine WL.move rfl rfl ?_
          refine WL.step ?_
          refine WL.lenSl F.und54 rfl rfl ?_
          refine WL.step ?_
          refine WL.makeSlice F.und54 F.info3 rfl rfl rfl rfl (by omega) (by omega) (fun b72 => ?_)
          rw [← stepAt_zero hT]
          refine WL.step ?_
          refine WL.assign rfl rfl ?_
          refine WL.nil ?_
          refine WQ.then_normal ?_
          refine WC.seq ?_
          refine WC.seq ?_
          refine WC.region ?_
          refine WL.step ?_
          refine WL.move rfl rfl ?_
          refine WL.step ?_
          refine WL.lenSl F.und54 rfl rfl ?_
          refine WL.step ?_
          refine WL.move rfl rfl ?_
          refine WL.nil ?_
          refine WQ.then_normal ?_
          refine WC.block ?_
          refine WC.loop (α := Nat) (fun i => i ≤ nT) (fun i => [(0, .int .i64 (n : Int)), (4, pp b4), (7, .slice aa nA ca), (8, .slice ta nT tc), (9, .slice pa nP pc), (15, .slice (some ⟨b72, 0, none⟩) nT nT), (73, .slice ta nT tc), (74, .int .i64 (nT : Int)), (75, .int .i64 (i : Int))]) (fun i => [pt b72 (stepAt path i) 3, pt b4 [.bool false, .int .u32 0, .slice none 0 0] 43, rowc (.slice aa nA ca) nA 54 1 hs, rowc (.slice pa nP pc) nP 54 1 vs, rowc (.slice ta nT tc) nT 3 1 ps, stepsC Fb vs ss]) (fun i => nT - i) (0) ?_ ?_ ?_ ?_
          · exact Nat.zero_le _
          · exact ⟨rfl, rfl, rfl, rfl, rfl, rfl, rfl, rfl, rfl, trivial⟩
          · rfl
          rintro i hi
          refine WC.seq ?_
          refine WC.region ?_
          refine WL.step ?_
          refine WL.ltI rfl rfl rfl ?_
          refine WL.nil ?_
          refine WQ.then_normal ?_
          refine WC.seq ?_
          refine WC.cond rfl (fun h76 => ?_) (fun h76 => ?_)
          · skip
            have hlt : i < nT := by simpa using h76
            obtain ⟨x, hx⟩ : ∃ x, path[i]? = some x := ⟨_, List.getElem?_eq_getElem (by omega)⟩
            have hxl := hlit x (List.mem_of_getElem? hx)
            refine WC.know (φ := ∃ g, ta = some ⟨g, 0, none⟩ ∧ nT = nT ∧ nT ≤ tc) (fun w hS => rowc_addr (hS.ok (rowc (.slice ta nT tc) nT 3 1 ps) (by repeat (first | exact List.Mem.head _ | apply List.Mem.tail))) (by omega)) (fun ⟨g, hta, _, _⟩ => ?_)
            subst hta
            refine WC.skip ?_
            refine WQ.then_normal ?_
            refine WC.seq ?_
            refine WC.block ?_
            refine WC.seq ?_
            refine WC.region ?_
            refine WL.step ?_
            refine WL.move rfl rfl ?_
            refine WL.step ?_
            refine WL.indexAddr F.sl54 rfl rfl rfl hlt ?_
            refine WL.step ?_
            refine WL.load1 F.one3 rfl rfl (v := .int .i64 x) (fun w hS => by simpa using rowc_cell (hS.ok (rowc (.slice (some ⟨g, 0, none⟩) nT tc) nT 3 1 ps) (by repeat (first | exact List.Mem.head _ | apply List.Mem.tail))) (u := .int .i64 x) (by rw [hps]; simp [hx])) ?_
            refine WL.step ?_
            refine WL.assign rfl rfl ?_
            refine WL.step ?_
            refine WL.assign rfl rfl ?_
            refine WL.nil ?_
            refine WQ.then_normal ?_
            refine WC.region ?_
            refine WL.step ?_
            refine WL.move rfl rfl ?_
            refine WL.step ?_
            refine WL.move rfl rfl ?_
            refine WL.step ?_
            refine WL.move rfl rfl ?_
            refine WL.step ?_
            refine WL.negI rfl rfl (by omega) ?_
            refine WL.step ?_
            refine WL.indexAddr F.sl54 rfl rfl rfl hlt ?_
            refine WL.step ?_
            refine WL.store1 (cs := stepAt path i) (cs' := stepAt path (i + 1)) F.one3 rfl rfl rfl (by repeat (first | exact Upd.here | apply Upd.there)) (by have h9 := setN_set (stepAt path i) i (.int .i64 (-x)) (by rw [stepAt_len (by omega)]; omega); rw [stepAt_set hx] at h9; simpa using h9) ?_
            refine WL.nil ?_
            refine WQ.block_normal ?_
            refine WQ.then_normal ?_
            refine WC.region ?_
            refine WL.step ?_
            refine WL.add rfl rfl rfl ⟨by omega, by omega⟩ ?_
            refine WL.step ?_
            refine WL.move rfl rfl ?_
            refine WL.nil ?_
            refine WQ.back (i + 1) ?_ ?_ ?_ ?_
            · exact by omega
            · omega
            · exact ⟨rfl, rfl, rfl, rfl, rfl, rfl, rfl, rfl, rfl, trivial⟩
            · rfl
          · skip
            have hie : i = nT := by simp at h76; omega
            subst hie
            have hse : stepAt path i = (path.map (fun x => -x)).map (Value.int .i64) := by rw [hT]; exact stepAt_end
            have hcl : (path.map (fun x => -x)).length = i := by simp [hT]
            refine WC.exit ?_
            refine WQ.then_exit ?_
            refine WQ.then_exit ?_
            refine WQ.block_exit ?_
            refine WQ.then_normal ?_
            refine WC.seq ?_
            refine WC.region ?_
            refine WL.step ?_
            refine WL.move rfl rfl ?_
            refine WL.step ?_
            refine WL.move rfl rfl ?_
            refine WL.step ?_
            refine WL.buildSlice F.sl38 F.ez38 rfl rfl rfl rfl (by repeat (first | exact Built.nil | apply Built.one rfl rfl (by repeat constructor) | apply Built.agg rfl rfl (by repeat constructor))) rfl (fun b88 => ?_)
            refine WL.step ?_
            refine WL.appendE (news := [Value.slice (some ⟨b72, 0, none⟩) i i]) F.el38 rfl rfl rfl (by repeat (first | exact Rem.here | apply Rem.there)) (fun w hS j u hu => by rw [Nat.zero_add]; exact hS.cell (cs := [Value.slice (some ⟨b72, 0, none⟩) i i]) (by repeat (first | exact List.Mem.head _ | apply List.Mem.tail)) hu) rfl (by simp [Value.oneCell']) (Nat.le_trans (m := 1099511627776) (by omega) (by decide)) (by omega) (fun a4 c4 => ?_)
            refine WL.step ?_
            refine WL.assign rfl rfl ?_
            refine WL.nil ?_
            refine WQ.then_normal ?_
            refine WC.seq ?_
            refine WC.region ?_
            refine WL.step ?_
            refine WL.move rfl rfl ?_
            refine WL.step ?_
            refine WL.move rfl rfl ?_
            refine WL.step ?_
            refine WL.buildSlice F.sl38 F.ez38 rfl rfl rfl rfl (by repeat (first | exact Built.nil | apply Built.one rfl rfl (by repeat constructor) | apply Built.agg rfl rfl (by repeat constructor))) rfl (fun b92 => ?_)
            refine WL.step ?_
            refine WL.appendE (news := [Value.slice (some ⟨b72, 0, none⟩) i i]) F.el38 rfl rfl rfl (by repeat (first | exact Rem.here | apply Rem.there)) (fun w hS j u hu => by rw [Nat.zero_add]; exact hS.cell (cs := [Value.slice (some ⟨b72, 0, none⟩) i i]) (by repeat (first | exact List.Mem.head _ | apply List.Mem.tail)) hu) rfl (by simp [Value.oneCell']) (Nat.le_trans (m := 1099511627776) (by omega) (by decide)) (by omega) (fun a5 c5 => ?_)
            refine WL.step ?_
            refine WL.assign rfl rfl ?_
            refine WA.chunks (C' := [pt b4 [.bool false, .int .u32 0, .slice none 0 0] 43, rowc (.slice a5 (nA + 1) c5) (nA + 1) 54 1 (hs ++ [Value.slice (some ⟨b72, 0, none⟩) i i]), rowc (.slice a4 (nP + 1) c4) (nP + 1) 54 1 (vs ++ [Value.slice (some ⟨b72, 0, none⟩) i i]), rowc (.slice ta i tc) i 3 1 ps, stepsC (b72 :: Fb) (vs ++ [Value.slice (some ⟨b72, 0, none⟩) i i]) (ss ++ [(path.map (fun x => -x))])]) (fun w hS => ?_) ?_
            · rw [hse] at hS
              have h9 := St.stepsSnoc (St.pick (St.pick hS (c := pt b72 ((path.map (fun x => -x)).map (Value.int .i64)) 3) (by repeat (first | exact Rem.here | apply Rem.there))) (c := stepsC Fb vs ss) (by repeat (first | exact Rem.here | apply Rem.there)))
              rw [hcl] at h9
              exact ((St.pick (St.pick (St.pick (St.pick (St.pick h9 (c := stepsC (b72 :: Fb) (vs ++ [Value.slice (some ⟨b72, 0, none⟩) i i]) (ss ++ [(path.map (fun x => -x))])) (by repeat (first | exact Rem.here | apply Rem.there))) (c := rowc (.slice ta i tc) i 3 1 ps) (by repeat (first | exact Rem.here | apply Rem.there))) (c := rowc (.slice a4 (nP + 1) c4) (nP + 1) 54 1 (vs ++ [Value.slice (some ⟨b72, 0, none⟩) i i])) (by repeat (first | exact Rem.here | apply Rem.there))) (c := rowc (.slice a5 (nA + 1) c5) (nA + 1) 54 1 (hs ++ [Value.slice (some ⟨b72, 0, none⟩) i i])) (by repeat (first | exact Rem.here | apply Rem.there))) (c := pt b4 [.bool false, .int .u32 0, .slice none 0 0] 43) (by repeat (first | exact Rem.here | apply Rem.there)))).sublist (List.Sublist.cons_cons _ (List.Sublist.cons_cons _ (List.Sublist.cons_cons _ (List.Sublist.cons_cons _ (List.Sublist.cons_cons _ (List.nil_sublist _))))))
            refine WL.nil ?_
            refine WQ.then_normal ?_
            refine WC.seq ?_
            refine WC.seq ?_
            refine WC.region ?_
            refine WL.step ?_
            refine WL.move rfl rfl ?_
            refine WL.step ?_
            refine WL.lenSl F.und54 rfl rfl ?_
            refine WL.step ?_
            refine WL.eqI rfl rfl rfl ?_
            refine WL.nil ?_
            refine WQ.then_normal ?_
            refine WC.cond rfl (fun h96 => ?_) (fun h96 => ?_)
            · skip
              have hp0 : path = [] := List.eq_nil_of_length_eq_zero (by simp at h96; omega)
              subst hp0
              simp only [List.getLast?_nil] at sol
              injection sol with sol
              refine WC.seq ?_
              refine WC.region ?_
              refine WL.step ?_
              refine WL.move rfl rfl ?_
              refine WL.step ?_
              refine WL.build F.stT43 rfl (by repeat (first | exact Built.nil | apply Built.one rfl rfl (by repeat constructor) | apply Built.agg rfl rfl (by repeat constructor))) rfl ?_
              refine WL.step ?_
              refine WL.storeN F.agg43 rfl rfl rfl (by simp [Value.oneCell']) (by repeat (first | exact Upd.here | apply Upd.there)) (by repeat constructor) ?_
              refine WL.step ?_
              refine WL.assign rfl rfl ?_
              refine WL.nil ?_
              refine WQ.then_normal ?_
              refine WC.ret ?_
              refine WQ.then_ret ?_
              refine WQ.block_ret ?_
              refine WQ.then_ret ?_
              refine WQ.block_ret ?_
              refine WQ.block_ret ?_
              refine WQ.then_ret ?_
              refine WQ.block_ret ?_
              refine WQ.scope_ret ?_
              refine WQ.ret (rs := [.cell 4 43, .tmp 5]) rfl (.cellN F.agg43 rfl (by repeat (first | exact List.Mem.head _ | apply List.Mem.tail)) rfl (.tmp rfl .nil)) (fun w hS => .inr ⟨hme, (a4, c4), b72 :: Fb, vs ++ [Value.slice (some ⟨b72, 0, none⟩) i i], ?_, ?_⟩)
              · have hpl : nP + 1 = r.proof.length := by rw [← sol, hP]; simp
                rw [← hpl, ← sol]; rfl
              · have hpl : nP + 1 = r.proof.length := by rw [← sol, hP]; simp
                have h9 := ((St.pick (St.pick hS (c := stepsC (b72 :: Fb) (vs ++ [Value.slice (some ⟨b72, 0, none⟩) i i]) (ss ++ [([] : List Int).map (fun x => -x)])) (by repeat (first | exact Rem.here | apply Rem.there))) (c := rowc (.slice a4 (nP + 1) c4) (nP + 1) 54 1 (vs ++ [Value.slice (some ⟨b72, 0, none⟩) i i])) (by repeat (first | exact Rem.here | apply Rem.there)))).two2
                rw [← hpl, ← sol]; exact h9
            · skip
              have hp0 : path ≠ [] := by (intro h0; rw [h0] at hT; simp at h96 hT; omega)
              obtain ⟨last, hlast⟩ : ∃ x, path.getLast? = some x := ⟨_, List.getLast?_eq_some_getLast hp0⟩
              rw [hlast] at sol
              simp only at sol
              obtain ⟨hli, hpos⟩ := last_at hT hlast
              have hll := hlit last (List.mem_of_getLast? hlast)
              refine WC.know (φ := ∃ g, ta = some ⟨g, 0, none⟩ ∧ i = i ∧ i ≤ tc) (fun w hS => rowc_addr (hS.ok (rowc (.slice ta i tc) i 3 1 ps) (by repeat (first | exact List.Mem.head _ | apply List.Mem.tail))) hpos) (fun ⟨g, hta, _, htc⟩ => ?_)
              subst hta
              have htk : ps.take (i - 1) = path.dropLast.map (Value.int .i64) := by rw [hps, ← List.map_take, List.dropLast_eq_take, hT]
              have hslit5 : ∀ c ∈ ss ++ [(path.map (fun x => -x))], ∀ x ∈ c, Lit x := by
                intro c hc x hx
                rcases List.mem_append.1 hc with hc | hc
                · exact hslit c hc x hx
                · simp only [List.mem_singleton] at hc
                  subst hc
                  obtain ⟨y, hy, hyx⟩ := List.mem_map.1 hx
                  rw [← hyx]; exact Lit.neg (hlit y hy)
              have hslen5 : ∀ c ∈ ss ++ [(path.map (fun x => -x))], c.length ≤ 1099511627776 := by
                intro c hc
                rcases List.mem_append.1 hc with hc | hc
                · exact hslen c hc
                · simp only [List.mem_singleton] at hc
                  subst hc
                  simp; omega
              have hbs5 : (ss ++ [(path.map (fun x => -x))]).length + f ≤ 1073741824 := by simp; omega
              have hdl : path.dropLast.length = i - 1 := by simp [hT]
              refine WC.skip ?_
              refine WQ.then_normal ?_
              refine WC.seq ?_
              refine WC.region ?_
              refine WL.step ?_
              refine WL.move rfl rfl ?_
              refine WL.step ?_
              refine WL.move rfl rfl ?_
              refine WL.step ?_
              refine WL.lenSl F.und54 rfl rfl ?_
              refine WL.step ?_
              refine WL.sub rfl rfl rfl ⟨by omega, by omega⟩ ?_
              refine WA.say 102 (.int .i64 ((i - 1 : Nat) : Int)) (congrArg (fun z => some (Value.int .i64 z)) (show (i : Int) - 1 = ((i - 1 : Nat) : Int) by omega)) ?_
              refine WL.step ?_
              refine WL.indexAddr F.sl54 rfl rfl rfl (i := i - 1) (by omega) ?_
              refine WL.step ?_
              refine WL.load1 F.one3 rfl rfl (v := .int .i64 last) (fun w hS => by simpa using rowc_cell (hS.ok (rowc (.slice (some ⟨g, 0, none⟩) i tc) i 3 1 ps) (by repeat (first | exact List.Mem.head _ | apply List.Mem.tail))) (u := .int .i64 last) (by rw [hps]; simp [hli])) ?_
              refine WL.step ?_
              refine WL.assign rfl rfl ?_
              refine WL.nil ?_
              refine WQ.then_normal ?_
              refine WC.seq ?_
              refine WC.region ?_
              refine WL.step ?_
              refine WL.move rfl rfl ?_
              refine WL.step ?_
              refine WL.move rfl rfl ?_
              refine WL.step ?_
              refine WL.lenSl F.und54 rfl rfl ?_
              refine WL.step ?_
              refine WL.sub rfl rfl rfl ⟨by omega, by omega⟩ ?_
              refine WA.say 108 (.int .i64 ((i - 1 : Nat) : Int)) (congrArg (fun z => some (Value.int .i64 z)) (show (i : Int) - 1 = ((i - 1 : Nat) : Int) by omega)) ?_
              refine WL.step ?_
              refine WL.y (F := fun _ => True) (Yl.sliceSlTo (n := i - 1) F.sl54 rfl rfl (by omega)) rfl (fun _ _ => trivial) ?_
              refine WL.step ?_
              refine WL.assign rfl rfl ?_
              refine WA.chunks (fun w hS => (St.rowTake (St.pick hS (c := rowc (.slice (some ⟨g, 0, none⟩) i tc) i 3 1 ps) (by repeat (first | exact Rem.here | apply Rem.there))) hpos (k := i - 1) (by omega))) ?_
              refine WL.nil ?_
              refine WQ.then_normal ?_
              refine WC.seq ?_
              refine WC.region ?_
              refine WL.step ?_
              refine WL.move rfl rfl ?_
              refine WL.step ?_
              refine WL.ltI rfl rfl rfl ?_
              refine WL.nil ?_
              refine WQ.then_normal ?_
              refine WC.cond rfl (fun h111 => ?_) (fun h111 => ?_)
              · skip
                have hneg : last < 0 := by simpa using h111
                rw [if_pos hneg, List.append_assoc] at sol
                refine WC.seq ?_
                refine WC.region ?_
                refine WL.step ?_
                refine WL.move rfl rfl ?_
                refine WL.step ?_
                refine WL.move rfl rfl ?_
                refine WL.step ?_
                refine WL.negI rfl rfl (by omega) ?_
                refine WL.step ?_
                refine WL.buildSlice F.sl54 F.ez54 rfl rfl rfl rfl (by repeat (first | exact Built.nil | apply Built.one rfl rfl (by repeat constructor) | apply Built.agg rfl rfl (by repeat constructor))) rfl (fun b115 => ?_)
                refine WL.step ?_
                refine WL.appendE (news := [.int .i64 (-last)]) F.el54 rfl rfl rfl (by repeat (first | exact Rem.here | apply Rem.there)) (fun w hS j u hu => by rw [Nat.zero_add]; exact hS.cell (cs := [.int .i64 (-last)]) (by repeat (first | exact List.Mem.head _ | apply List.Mem.tail)) hu) rfl (by simp [Value.oneCell']) (Nat.le_trans (m := 1099511627776) (by omega) (by decide)) (by omega) (fun a6 c6 => ?_)
                refine WL.step ?_
                refine WL.assign rfl rfl ?_
                refine WL.nil ?_
                refine WQ.then_normal ?_
                refine WC.exit ?_
                refine WQ.block_other rfl ?_
                refine WQ.then_exit ?_
                refine WQ.block_other rfl ?_
                refine WQ.block_exit ?_
                refine WQ.chunks (C' := [pt b4 [.bool false, .int .u32 0, .slice none 0 0] 43, rowc (.slice a5 (nA + 1) c5) (nA + 1) 54 1 (hs ++ [Value.slice (some ⟨b72, 0, none⟩) i i]), rowc (.slice a4 (nP + 1) c4) (nP + 1) 54 1 (vs ++ [Value.slice (some ⟨b72, 0, none⟩) i i]), rowc (.slice a6 (i - 1 + 1) c6) (i - 1 + 1) 3 1 (ps.take (i - 1) ++ [.int .i64 (-last)]), stepsC (b72 :: Fb) (vs ++ [Value.slice (some ⟨b72, 0, none⟩) i i]) (ss ++ [(path.map (fun x => -x))])]) (fun w hS => ((St.pick (St.pick (St.pick (St.pick (St.pick hS (c := stepsC (b72 :: Fb) (vs ++ [Value.slice (some ⟨b72, 0, none⟩) i i]) (ss ++ [(path.map (fun x => -x))])) (by repeat (first | exact Rem.here | apply Rem.there))) (c := rowc (.slice a6 (i - 1 + 1) c6) (i - 1 + 1) 3 1 (ps.take (i - 1) ++ [.int .i64 (-last)])) (by repeat (first | exact Rem.here | apply Rem.there))) (c := rowc (.slice a4 (nP + 1) c4) (nP + 1) 54 1 (vs ++ [Value.slice (some ⟨b72, 0, none⟩) i i])) (by repeat (first | exact Rem.here | apply Rem.there))) (c := rowc (.slice a5 (nA + 1) c5) (nA + 1) 54 1 (hs ++ [Value.slice (some ⟨b72, 0, none⟩) i i])) (by repeat (first | exact Rem.here | apply Rem.there))) (c := pt b4 [.bool false, .int .u32 0, .slice none 0 0] 43) (by repeat (first | exact Rem.here | apply Rem.there)))).sublist (List.Sublist.cons_cons _ (List.Sublist.cons_cons _ (List.Sublist.cons_cons _ (List.Sublist.cons_cons _ (List.Sublist.cons_cons _ (List.nil_sublist _))))))) ?_
                refine WQ.back (⟨f, path.dropLast ++ [-last], ss ++ [(path.map (fun x => -x))], vs ++ [Value.slice (some ⟨b72, 0, none⟩) i i], hs ++ [Value.slice (some ⟨b72, 0, none⟩) i i], ps.take (i - 1) ++ [.int .i64 (-last)], b72 :: Fb, a5, a4, a6, c5, c4, c6, nA + 1, nP + 1, i - 1 + 1⟩) ?_ ?_ ?_ ?_
                · exact ⟨sol, by show hs ++ _ = us ++ (vs ++ _); rw [hhs, List.append_assoc], by show ps.take (i - 1) ++ _ = (path.dropLast ++ _).map _; rw [htk]; simp, by show nA + 1 = ls.length + (ss ++ [_]).length; rw [hA]; simp; omega, by show nP + 1 = (ss ++ [_]).length; rw [hP]; simp, by show i - 1 + 1 = (path.dropLast ++ [_]).length; simp; omega, by intro x hx; rcases List.mem_append.1 hx with hx | hx; exact hlit x ((List.dropLast_sublist path).subset hx); simp at hx; subst hx; exact ⟨by omega, by omega, by omega⟩, hslit5, hslen5, by show (path.dropLast ++ [_]).length + f ≤ _; simp; omega, hbs5⟩
                · dsimp only; omega
                · exact ⟨rfl, rfl, rfl, rfl, rfl, trivial⟩
                · rfl
              · skip
                have hneg : ¬ last < 0 := by simpa using h111
                rw [if_neg hneg, List.append_assoc] at sol
                refine WC.skip ?_
                refine WQ.block_normal ?_
                refine WQ.chunks (C' := [pt b4 [.bool false, .int .u32 0, .slice none 0 0] 43, rowc (.slice a5 (nA + 1) c5) (nA + 1) 54 1 (hs ++ [Value.slice (some ⟨b72, 0, none⟩) i i]), rowc (.slice a4 (nP + 1) c4) (nP + 1) 54 1 (vs ++ [Value.slice (some ⟨b72, 0, none⟩) i i]), rowc (.slice (some ⟨g, 0, none⟩) (i - 1) tc) (i - 1) 3 1 (ps.take (i - 1)), stepsC (b72 :: Fb) (vs ++ [Value.slice (some ⟨b72, 0, none⟩) i i]) (ss ++ [(path.map (fun x => -x))])]) (fun w hS => ((St.pick (St.pick (St.pick (St.pick (St.pick hS (c := stepsC (b72 :: Fb) (vs ++ [Value.slice (some ⟨b72, 0, none⟩) i i]) (ss ++ [(path.map (fun x => -x))])) (by repeat (first | exact Rem.here | apply Rem.there))) (c := rowc (.slice (some ⟨g, 0, none⟩) (i - 1) tc) (i - 1) 3 1 (ps.take (i - 1))) (by repeat (first | exact Rem.here | apply Rem.there))) (c := rowc (.slice a4 (nP + 1) c4) (nP + 1) 54 1 (vs ++ [Value.slice (some ⟨b72, 0, none⟩) i i])) (by repeat (first | exact Rem.here | apply Rem.there))) (c := rowc (.slice a5 (nA + 1) c5) (nA + 1) 54 1 (hs ++ [Value.slice (some ⟨b72, 0, none⟩) i i])) (by repeat (first | exact Rem.here | apply Rem.there))) (c := pt b4 [.bool false, .int .u32 0, .slice none 0 0] 43) (by repeat (first | exact Rem.here | apply Rem.there)))).sublist (List.Sublist.cons_cons _ (List.Sublist.cons_cons _ (List.Sublist.cons_cons _ (List.Sublist.cons_cons _ (List.Sublist.cons_cons _ (List.nil_sublist _))))))) ?_
                refine WQ.back (⟨f, path.dropLast, ss ++ [(path.map (fun x => -x))], vs ++ [Value.slice (some ⟨b72, 0, none⟩) i i], hs ++ [Value.slice (some ⟨b72, 0, none⟩) i i], ps.take (i - 1), b72 :: Fb, a5, a4, some ⟨g, 0, none⟩, c5, c4, tc, nA + 1, nP + 1, i - 1⟩) ?_ ?_ ?_ ?_
                · exact ⟨⟨sol, by show hs ++ _ = us ++ (vs ++ _); rw [hhs, List.append_assoc], by show ps.take (i - 1) = path.dropLast.map _; exact htk, by show nA + 1 = ls.length + (ss ++ [_]).length; rw [hA]; simp; omega, by show nP + 1 = (ss ++ [_]).length; rw [hP]; simp, by show i - 1 = path.dropLast.length; simp; omega, fun x hx => hlit x ((List.dropLast_sublist path).subset hx), hslit5, hslen5, by show path.dropLast.length + f ≤ _; simp; omega, hbs5⟩, by show f ≤ fo; omega⟩
                · exact Nat.lt_succ_self f
                · exact ⟨rfl, rfl, rfl, rfl, rfl, trivial⟩
                · rfl

end Go.Proofs.Ytbippghgkbapnaa

namespace Go.Eng
open Go Go.RowKit
section
variable {P : Program} {w0 : World} {O : List Nat} {ops : Array Oper} {Q : Exit → Act → World → Prop} {N : Nat} {D : List Deferred} {L : FL} {C : List Chunk} {K : Act → World → Prop}
variable {d : Nat} {ty : TypeId} {pos : String} {af : Array Edge}
theorem run_append_zero {t e : TypeId} {sz : Nat} (ht : P.underlying t = some (.slice e)) (hs : sizeB P e = some sz) {a0 a1 : Option Addr} {n cap c : Nat} (hn : n ≤ cap) (w : World) :
    (Builtin.append_ #[t, t] ty #[.slice a1 n cap, .slice a0 0 c]).run P w = .ok (.slice a1 n cap) w := by
  have hf : ∀ a : Option Addr, (Builtin.firstCells sz 0 (.slice a 0 c)).run P w = .ok #[] w := fun a => by
    cases a with
    | none => simp [Builtin.firstCells]
    | some a => simp [Builtin.firstCells, loadCells, loadCellsFrom]
  cases a1 with
  | none => simp [Builtin.append_, run_underlying ht, run_sizeOf hs, Builtin.lenOf, hn, hf]
  | some a1 => simp [Builtin.append_, run_underlying ht, run_sizeOf hs, Builtin.lenOf, hn, hf, storeCells]
/-- append of a slice, wherever it lies; of one of nothing, too. -/
theorem WL.appendC {s x : Operand} {t e : TypeId} {sz bytes : Nat} {v : Value} {n m c : Nat} {a0 : Option Addr} {xs news : List Value} {C1 : List Chunk} (hE : ElT P t e sz bytes) (hd : Nat.blt d N = true)
    (hs : ev L s = some v) (hx : ev L x = some (.slice a0 m c)) (hr : Rem (rowc v n e sz xs) C C1)
    (hnews : ∀ w, St w0 O C w → m ≠ 0 → ∃ bx ox, a0 = some ⟨bx, ox, none⟩ ∧ ∀ j u, news[j]? = some u → w.cell? ⟨bx, ox + j, none⟩ = some u) (hl : news.length = m * sz) (h1 : ∀ u ∈ news, u.oneCell' = true)
    (h63 : n + m ≤ maxLen) (hbytes : (n + m) * bytes ≤ 140737488355328)
    (h : ∀ a cap, WA w0 O K N D ((d, .slice a (n + m) cap) :: L) (rowc (.slice a (n + m) cap) (n + m) e sz (xs ++ news) :: C1)) :
    WK P w0 O ops Q ⟨some d, .call { callee := .builtin .append, args := #[s, x], argTypes := #[t, t] }, ty, pos, af, none⟩ K N D L C := by
  by_cases hm : m = 0
  · subst hm
    have hn0 : news = [] := List.eq_nil_of_length_eq_zero (by simpa using hl)
    subst hn0
    intro a w hF hS
    have hS1 := hS.perm hr.perm
    have hown : w.ownsRow 0 e sz v n xs := hS1.ok _ (List.mem_cons_self ..)
    obtain ⟨a', cap', rfl⟩ := ownsRow_slice hown
    have hle : n ≤ cap' := by
      rcases hown.2 with ⟨hv, h0⟩ | ⟨g, cp, cur, hv, _, _, hle, _⟩
      · injection hv with _ _ h2; omega
      · injection hv with _ _ h2; omega
    obtain ⟨i, z, h1', h2, h3, h4, h5⟩ := hE.row
    have hrun := run_append_zero (P := P) (ty := ty) (sz := sz) hE.und (by unfold sizeB; rw [h1']; simp [h3]) (a0 := a0) (a1 := a') (c := c) hle w
    have h' := h a' cap'
    simp only [Nat.add_zero, List.append_nil] at h'
    refine wpo_val rfl ?_ (h' _ w (hF.put d _ hd) hS1)
    simp only [execOp, resolve, invoke, builtin, Sem.run_bind, Sem.run_pure, Result.andThen_ok, List.map_toArray, List.map_cons, List.map_nil, hF.ev hs, hF.ev hx, hrun]
  · intro a w hF hS
    obtain ⟨bx, ox, rfl, _⟩ := hnews w hS hm
    exact WL.appendE hE hd hs hx hr (fun w hS => by
      obtain ⟨bx', ox', he, hc⟩ := hnews w hS hm
      injection he with he
      injection he with e1 e2
      subst e1; subst e2
      exact hc) hl h1 h63 hbytes h a w hF hS
/-- Rows of numbers of the holder's own: one row more, however it was made. -/
theorem St.stepsSnocR {w : World} {F : List Nat} {vs : List Value} {ss : List (List Int)} {a : Option Addr} {n cap : Nat} {c : List Int} {e : TypeId} (hn : n = c.length) (h : St w0 O (stepsC F vs ss :: rowc (.slice a n cap) n e 1 (c.map (Value.int .i64)) :: C) w) :
    ∃ F', St w0 O (stepsC F' (vs ++ [.slice a n cap]) (ss ++ [c]) :: C) w := by
  have hok : w.ownsRow 0 e 1 (.slice a n cap) n (c.map (Value.int .i64)) := h.ok (rowc (.slice a n cap) n e 1 (c.map (Value.int .i64))) (by simp)
  have hob : ∃ G : List Nat, (∀ k ∈ G, (rowc (.slice a n cap) n e 1 (c.map (Value.int .i64))).fp k) ∧ ∀ (j : Nat) (x : Int), c[j]? = some x → ∃ b, a = some ⟨b, 0, none⟩ ∧ b ∈ G ∧ w.cell? ⟨b, j, none⟩ = some (.int .i64 x) := by
    by_cases h0 : n = 0
    · refine ⟨[], by simp, fun j x hx => ?_⟩
      have := (List.getElem?_eq_some_iff.1 hx).1
      omega
    · obtain ⟨g, hg, _, _⟩ := rowc_addr (show (rowc (.slice a n cap) n e 1 (c.map (Value.int .i64))).ok w from hok) (by omega)
      subst hg
      exact ⟨[g], fun k hk => by simp at hk; subst hk; rfl, fun j x hx => ⟨g, rfl, by simp, rowc_cell hok (by simp [hx])⟩⟩
  obtain ⟨G, hG1, hG2⟩ := hob
  refine ⟨F ++ G, h.join (fun k hk => ?_) (fun hc hd _ => ?_)⟩
  · rcases List.mem_append.1 hk with hk | hk
    · exact .inl hk
    · exact .inr (hG1 k hk)
  · obtain ⟨h1, h2⟩ := hc
    refine ⟨by simp [h1], fun i c' u hc' hu => ?_⟩
    by_cases hi : i < ss.length
    · rw [List.getElem?_append_left hi] at hc'
      rw [List.getElem?_append_left (by omega)] at hu
      obtain ⟨a1, cap1, h3, h4⟩ := h2 i c' u hc' hu
      refine ⟨a1, cap1, h3, fun j x hx => ?_⟩
      obtain ⟨b, hb1, hb2, hb3⟩ := h4 j x hx
      exact ⟨b, hb1, List.mem_append_left _ hb2, hb3⟩
    · rw [List.getElem?_append_right (by omega)] at hc'
      rw [List.getElem?_append_right (by omega)] at hu
      have h0 : i - ss.length = 0 := by
        have := (List.getElem?_eq_some_iff.1 hc').1
        simp at this; omega
      rw [h0] at hc'
      rw [h1, h0] at hu
      simp at hc' hu
      subst hc'; subst hu
      refine ⟨a, cap, by rw [hn], fun j x hx => ?_⟩
      obtain ⟨b, hb1, hb2, hb3⟩ := hG2 j x hx
      exact ⟨b, hb1, List.mem_append_right _ hb2, hb3⟩
end
end Go.Eng
namespace Go.Proofs.Ytbippghgkbapnaa
open Go Go.Eng Go.Proofs
theorem RdC.of_row {w : World} {c : List Int} {a : Option Addr} {n cap : Nat} {e : TypeId} (hn : n = c.length) (h : (rowc (.slice a n cap) n e 1 (c.map (Value.int .i64))).ok w) : RdC w c a := fun j x hx => by
  have hlt := (List.getElem?_eq_some_iff.1 hx).1
  obtain ⟨g, hg, _, _⟩ := rowc_addr h (by omega)
  subst hg
  exact ⟨g, 0, rfl, by rw [Nat.zero_add]; exact rowc_cell h (by simp [hx])⟩
theorem RdC.news {w : World} {c : List Int} {a : Option Addr} (h : RdC w c a) (hc : c.length ≠ 0) : ∃ bx ox, a = some ⟨bx, ox, none⟩ ∧ ∀ j u, (c.map (Value.int .i64))[j]? = some u → w.cell? ⟨bx, ox + j, none⟩ = some u := by
  obtain ⟨x, hx⟩ : ∃ x, c[0]? = some x := ⟨c[0]'(by omega), List.getElem?_eq_getElem _⟩
  obtain ⟨b, off, ha, _⟩ := h 0 x hx
  refine ⟨b, off, ha, fun j u hu => ?_⟩
  rw [List.getElem?_map] at hu
  cases hj : c[j]? with
  | none => rw [hj] at hu; simp at hu
  | some y =>
    rw [hj] at hu; simp at hu; subst hu
    obtain ⟨b', off', ha', hc'⟩ := h j y hj
    rw [ha] at ha'
    injection ha' with ha'
    injection ha' with e1 e2
    subst e1; subst e2
    exact hc'
theorem ints_one (c : List Int) : ∀ u ∈ c.map (Value.int .i64), u.oneCell' = true := by
  intro u hu
  obtain ⟨x, _, rfl⟩ := List.mem_map.1 hu
  rfl
/-- The headers of clauses, as what is appended. -/
theorem RdLL.news {w : World} {ls : List (List Int)} {a : Option Addr} {us : List Value} (h : RdLL w ls a us) (hc : ls.length ≠ 0) : ∃ bx ox, a = some ⟨bx, ox, none⟩ ∧ ∀ j u, us[j]? = some u → w.cell? ⟨bx, ox + j, none⟩ = some u := by
  have hl := h.len
  obtain ⟨b, off, ha, _⟩ := h.hd 0 (us[0]'(by omega)) (List.getElem?_eq_getElem _)
  refine ⟨b, off, ha, fun j u hu => ?_⟩
  obtain ⟨b', off', ha', hc'⟩ := h.hd j u hu
  rw [ha] at ha'
  injection ha' with ha'
  injection ha' with e1 e2
  subst e1; subst e2
  exact hc'
theorem RdLL.one {w : World} {ls : List (List Int)} {a : Option Addr} {us : List Value} (h : RdLL w ls a us) : ∀ u ∈ us, u.oneCell' = true := by
  intro u hu
  obtain ⟨i, hi, he⟩ := List.getElem_of_mem hu
  have h1 : us[i]? = some u := by rw [List.getElem?_eq_getElem hi, he]
  have h2 : ls[i]? = some (ls[i]'(by rw [← h.len]; exact hi)) := List.getElem?_eq_getElem _
  obtain ⟨a1, c1, h3, _⟩ := h.rd i _ u h2 h1
  subst h3; rfl
/-- A row of headers, each of them readable. -/
theorem RdLL.of_row {w : World} {ls : List (List Int)} {aa : Option Addr} {hs : List Value} {n cap : Nat} (hn : n = ls.length) (hl : hs.length = ls.length) (h : (rowc (.slice aa n cap) n 54 1 hs).ok w)
    (hr : ∀ (i : Nat) (c : List Int) (u : Value), ls[i]? = some c → hs[i]? = some u → ∃ (a1 : Option Addr) (cap : Nat), u = Value.slice a1 c.length cap ∧ RdC w c a1) : RdLL w ls aa hs := by
  refine ⟨hl, fun i u hu => ?_, hr⟩
  have hlt := (List.getElem?_eq_some_iff.1 hu).1
  obtain ⟨g, hg, _, _⟩ := rowc_addr h (by omega)
  subst hg
  exact ⟨g, 0, rfl, by rw [Nat.zero_add]; exact rowc_cell h hu⟩
/-- Rows that the holder made. -/
theorem RdLL.made {w : World} {ls : List (List Int)} {aa : Option Addr} {vs : List Value} {F : List Nat} {n cap : Nat} (hn : n = ls.length) (h1 : (rowc (.slice aa n cap) n 54 1 vs).ok w) (h2 : (stepsC F vs ls).ok w) : RdLL w ls aa vs := by
  obtain ⟨hv1, hv2⟩ := (show vs.length = ls.length ∧ _ from h2)
  refine RdLL.of_row hn hv1 h1 fun i c u hc hu => ?_
  obtain ⟨a1, cap1, h3, h4⟩ := hv2 i c u hc hu
  refine ⟨a1, cap1, h3, fun j x hx => ?_⟩
  obtain ⟨b, hb1, _, hb3⟩ := h4 j x hx
  exact ⟨b, 0, hb1, by rw [Nat.zero_add]; exact hb3⟩
/-- Some clauses of two readers behind one another in a row. -/
theorem RdLL.both {w : World} {ls ps : List (List Int)} {a a2 aa : Option Addr} {us vs hs : List Value} {n cap i : Nat} (h : RdLL w ls a us) (h' : RdLL w ps a2 vs) (hhs : hs = us ++ vs.take i) (hn : n = (ls ++ ps.take i).length) (hr : (rowc (.slice aa n cap) n 54 1 hs).ok w) : RdLL w (ls ++ ps.take i) aa hs := by
  subst hhs
  refine RdLL.of_row hn (by simp [h.len, h'.len]) hr fun j c u hc hu => ?_
  by_cases hj : j < ls.length
  · rw [List.getElem?_append_left hj] at hc
    rw [List.getElem?_append_left (by rw [h.len]; exact hj)] at hu
    exact h.rd j c u hc hu
  · rw [List.getElem?_append_right (by omega)] at hc
    rw [List.getElem?_append_right (by rw [h.len]; omega), h.len] at hu
    rw [List.getElem?_take] at hc hu
    split at hc
    · rename_i hlt
      rw [if_pos hlt] at hu
      exact h'.rd _ c u hc hu
    · cases hc
end Go.Proofs.Ytbippghgkbapnaa

namespace Go.Eng
open Go Go.RowKit
section
variable {P : Program} {w0 : World} {O : List Nat} {ops : Array Oper} {Q : Exit → Act → World → Prop} {N : Nat} {D : List Deferred} {L : FL} {C : List Chunk} {K : Act → World → Prop}
variable {d : Nat} {ty : TypeId} {pos : String} {af : Array Edge}
end
end Go.Eng

namespace Go.Eng
open Go Go.RowKit
section
variable {P : Program}
theorem run_shl1U {k : Nat} (hk : k < 32) (t : TypeId) (x y : Operand) (w : World) :
    (do eqGuard .shl t x y (.int .u32 1) (.int .u64 (k : Int)); binOp .shl t (.int .u32 1) (.int .u64 (k : Int)) : Sem Value).run P w = .ok (.int .u32 ((2 ^ k : Nat) : Int)) w := by
  have h1 : ¬ (k : Int) < 0 := by omega
  have h2 : min (k : Int).toNat 32 = k := by omega
  have h3 : 2 ^ k < 4294967296 := Nat.lt_of_lt_of_le (Nat.pow_lt_pow_right (by decide) hk) (by decide)
  have h4 := wrap_u32 h3
  simp only [eqGuard, binOp, Op.shift, IntKind.bits, h1, if_false, h2]
  simp only [Int.natCast_pow] at h4
  simp at h4
  simp [h4]
theorem run_shrU {a k : Nat} (hk : k < 32) (t : TypeId) (x y : Operand) (w : World) :
    (do eqGuard .shr t x y (.int .u32 (a : Int)) (.int .u64 (k : Int)); binOp .shr t (.int .u32 (a : Int)) (.int .u64 (k : Int)) : Sem Value).run P w = .ok (.int .u32 ((a >>> k : Nat) : Int)) w := by
  have h1 : ¬ (k : Int) < 0 := by omega
  have h2 : min (k : Int).toNat 32 = k := by omega
  simp only [eqGuard, binOp, Op.shift, IntKind.bits, h1, if_false, h2]
  have h5 : (a : Int).fdiv (2 ^ k) = ((a >>> k : Nat) : Int) := by
    rw [Nat.shiftRight_eq_div_pow, show ((2 : Int) ^ k) = ((2 ^ k : Nat) : Int) by simp, Int.fdiv_eq_ediv_of_nonneg _ (Int.natCast_nonneg _), Int.natCast_ediv]
  simp [h5]
theorem run_rem2 {a : Nat} (t : TypeId) (x y : Operand) (w : World) :
    (do eqGuard .rem t x y (.int .u32 (a : Int)) (.int .u32 2); binOp .rem t (.int .u32 (a : Int)) (.int .u32 2) : Sem Value).run P w = .ok (.int .u32 ((a % 2 : Nat) : Int)) w := by
  have h1 : (a : Int).tmod 2 = ((a % 2 : Nat) : Int) := by
    rw [Int.tmod_eq_emod_of_nonneg (Int.natCast_nonneg _)]; simp
  simp [eqGuard, binOp, Op.intDiv, h1]
theorem run_inc32 {a : Nat} (ha : a + 1 < 4294967296) (t : TypeId) (x y : Operand) (w : World) :
    (do eqGuard .add t x y (.int .u32 (a : Int)) (.int .u32 1); binOp .add t (.int .u32 (a : Int)) (.int .u32 1) : Sem Value).run P w = .ok (.int .u32 ((a + 1 : Nat) : Int)) w := by
  have h1 := wrap_u32 ha
  simp only [Int.natCast_add] at h1
  simp at h1
  simp [eqGuard, binOp, Op.intArith, h1]
end
end Go.Eng

namespace Fm
open Go Go.Eng
/-! ### consequences -/
/-- What follows from clauses and literals. -/
inductive Der (ls : List (List Int)) (fixed : List Int) : Int → Prop
  | fix {x : Int} (h : x ∈ fixed) : Der ls fixed x
  | unit {c : List Int} {x : Int} (hc : c ∈ ls) (hx : x ∈ c) (h : ∀ m ∈ c, m ≠ x → Der ls fixed (-m)) : Der ls fixed x
/-- There is a conflict. -/
def Conf (ls : List (List Int)) (fixed : List Int) : Prop := [] ∈ ls ∨ ∃ x, Der ls fixed x ∧ Der ls fixed (-x)

/-! the program's sets of literals -/
theorem hasK_with {k : Kn} {l z : Int} (hl : l ≠ 0) (hz : z ≠ 0) : hasK (withK k l) z = (decide (z = l) || hasK k z) := by
  unfold hasK withK
  by_cases h1 : 0 < l
  · rw [if_pos h1]
    by_cases h2 : 0 < z
    · rw [if_pos h2, if_pos h2]
      simp only [Nat.testBit_or, Nat.testBit_two_pow]
      rw [Bool.or_comm]
      congr 1
      rw [Bool.eq_iff_iff]; simp; omega
    · rw [if_neg h2, if_neg h2]
      have : ¬ z = l := by omega
      simp [this]
  · rw [if_neg h1]
    by_cases h2 : 0 < z
    · rw [if_pos h2, if_pos h2]
      have : ¬ z = l := by omega
      simp [this]
    · rw [if_neg h2, if_neg h2]
      simp only [Nat.testBit_or, Nat.testBit_two_pow]
      rw [Bool.or_comm]
      congr 1
      rw [Bool.eq_iff_iff]; simp; omega
theorem hasK_zero {z : Int} : hasK (0, 0) z = false := by unfold hasK; split <;> simp
theorem hasK_fold {z : Int} (hz : z ≠ 0) : ∀ {l : List Int} {k : Kn}, (∀ x ∈ l, x ≠ 0) → hasK (l.foldl withK k) z = (decide (z ∈ l) || hasK k z)
  | [], k, _ => by simp
  | x :: r, k, h => by
    rw [List.foldl_cons, hasK_fold hz (fun y hy => h y (List.mem_cons_of_mem _ hy)), hasK_with (h x (List.mem_cons_self ..)) hz]
    rw [Bool.eq_iff_iff]; simp; constructor
    · rintro (h1 | h1 | h1)
      · exact .inl (.inr h1)
      · exact .inl (.inl h1)
      · exact .inr h1
    · rintro ((h1 | h1) | h1)
      · exact .inr (.inl h1)
      · exact .inl h1
      · exact .inr (.inr h1)
theorem clash_iff {k : Kn} : clash k = true ↔ ∃ z : Int, 0 < z ∧ hasK k z = true ∧ hasK k (-z) = true := by
  unfold clash
  constructor
  · intro h
    have h1 : k.1 &&& k.2 ≠ 0 := by simpa using h
    obtain ⟨j, hj⟩ := Nat.exists_testBit_of_ne_zero h1
    rw [Nat.testBit_and, Bool.and_eq_true] at hj
    refine ⟨(j : Int) + 1, by omega, ?_, ?_⟩
    · unfold hasK; rw [if_pos (by omega), show ((j : Int) + 1 - 1).toNat = j by omega]; exact hj.1
    · unfold hasK; rw [if_neg (by omega), show (-(-((j : Int) + 1)) - 1).toNat = j by omega]; exact hj.2
  · rintro ⟨z, hz, h1, h2⟩
    unfold hasK at h1 h2
    rw [if_pos hz] at h1
    rw [if_neg (by omega)] at h2
    rw [show (- -z - 1).toNat = (z - 1).toNat by omega] at h2
    have h3 : (k.1 &&& k.2).testBit (z - 1).toNat = true := by rw [Nat.testBit_and, h1, h2]; rfl
    have h4 : k.1 &&& k.2 ≠ 0 := by intro h0; rw [h0] at h3; simp at h3
    simpa using h4

/-- What unit says: a literal that is open, all the others being false; 0: all are. -/
theorem unitG_true {k : Kn} : ∀ {c : List Int} {op x : Int}, (∀ m ∈ c, m ≠ 0) → unitG k op c = (x, true) → (∀ m ∈ c, hasK k m = false ∧ (hasK k (-m) = true ∨ m = x)) ∧ (op ≠ 0 → x = op) ∧ (x ≠ 0 → x = op ∨ x ∈ c)
  | [], op, x, _, h => by
    simp only [unitG, Prod.mk.injEq, and_true] at h
    subst h
    exact ⟨fun m hm => (by cases hm), fun _ => rfl, fun _ => .inl rfl⟩
  | l :: ls, op, x, h0, h => by
    have hl := h0 l (List.mem_cons_self ..)
    have hls := fun m hm => h0 m (List.mem_cons_of_mem _ hm)
    simp only [unitG] at h
    split at h
    · simp at h
    rename_i h1
    split at h
    · rename_i h2
      obtain ⟨i1, i2, i3⟩ := unitG_true hls h
      refine ⟨fun m hm => ?_, i2, fun hx => ?_⟩
      · rcases List.mem_cons.1 hm with e | hm
        · subst e
          refine ⟨by simpa using h1, ?_⟩
          simp only [Bool.or_eq_true, beq_iff_eq] at h2
          rcases h2 with h2 | h2
          · exact .inl h2
          · exact .inr (by rw [h2, i2 (by rw [← h2]; exact hl)])
        · exact i1 m hm
      · rcases i3 hx with h3 | h3
        · exact .inl h3
        · exact .inr (List.mem_cons_of_mem _ h3)
    rename_i h2
    split at h
    · simp at h
    rename_i h3
    have h3' : op = 0 := by simpa using h3
    obtain ⟨i1, i2, i3⟩ := unitG_true hls h
    refine ⟨fun m hm => ?_, fun h0 => absurd h3' h0, fun hx => ?_⟩
    · rcases List.mem_cons.1 hm with e | hm
      · subst e
        exact ⟨by simpa using h1, .inr (i2 hl).symm⟩
      · exact i1 m hm
    · exact .inr (by rw [i2 hl]; exact List.mem_cons_self ..)
/-- What it says otherwise: a literal is true, or two are open. -/
theorem unitG_false {k : Kn} : ∀ {c : List Int} {op x : Int}, (∀ m ∈ c, m ≠ 0) → unitG k op c = (x, false) → (∃ m ∈ c, hasK k m = true) ∨ (∃ m ∈ c, hasK k (-m) = false ∧ op ≠ 0 ∧ m ≠ op) ∨ (∃ m ∈ c, ∃ m' ∈ c, m ≠ m' ∧ hasK k (-m) = false ∧ hasK k (-m') = false)
  | [], op, x, _, h => by simp [unitG] at h
  | l :: ls, op, x, h0, h => by
    have hl := h0 l (List.mem_cons_self ..)
    have hls := fun m hm => h0 m (List.mem_cons_of_mem _ hm)
    simp only [unitG] at h
    split at h
    · rename_i h1
      exact .inl ⟨l, List.mem_cons_self .., h1⟩
    split at h
    · rcases unitG_false hls h with ⟨m, h1, h2⟩ | ⟨m, h1, h2⟩ | ⟨m, h1, m', h2, h3⟩
      · exact .inl ⟨m, List.mem_cons_of_mem _ h1, h2⟩
      · exact .inr (.inl ⟨m, List.mem_cons_of_mem _ h1, h2⟩)
      · exact .inr (.inr ⟨m, List.mem_cons_of_mem _ h1, m', List.mem_cons_of_mem _ h2, h3⟩)
    rename_i h2
    simp only [Bool.or_eq_true, beq_iff_eq, not_or, Bool.not_eq_true] at h2
    split at h
    · rename_i h3
      have h3' : op ≠ 0 := by simpa using h3
      exact .inr (.inl ⟨l, List.mem_cons_self .., h2.1, h3', h2.2⟩)
    · rcases unitG_false hls h with ⟨m, h1, h4⟩ | ⟨m, h1, h4, h5, h6⟩ | ⟨m, h1, m', h4, h5⟩
      · exact .inl ⟨m, List.mem_cons_of_mem _ h1, h4⟩
      · exact .inr (.inr ⟨m, List.mem_cons_of_mem _ h1, l, List.mem_cons_self .., h6, h4, h2.1⟩)
      · exact .inr (.inr ⟨m, List.mem_cons_of_mem _ h1, m', List.mem_cons_of_mem _ h4, h5⟩)
/-- Whatever the set has follows. -/
def SoundK (ls : List (List Int)) (fixed : List Int) (k : Kn) : Prop := ∀ z : Int, z ≠ 0 → hasK k z = true → Der ls fixed z
theorem SoundK.unit {ls : List (List Int)} {fixed : List Int} {k : Kn} {c : List Int} (h : SoundK ls fixed k) (hc : c ∈ ls) (hn : ∀ m ∈ c, m ≠ 0) {x : Int} (hu : unitK k c = (x, true)) : (x ≠ 0 → SoundK ls fixed (withK k x)) ∧ (x = 0 → Conf ls fixed) := by
  obtain ⟨i1, i2, i3⟩ := unitG_true hn hu
  refine ⟨fun hx z hz hh => ?_, fun hx => ?_⟩
  · rw [hasK_with hx hz] at hh
    simp only [Bool.or_eq_true, decide_eq_true_eq] at hh
    rcases hh with hh | hh
    · subst hh
      rcases i3 hx with h3 | h3
      · exact absurd h3 hx
      · exact .unit hc h3 (fun m hm hne => by
          rcases (i1 m hm).2 with h4 | h4
          · exact h _ (by have := hn m hm; omega) h4
          · exact absurd h4 hne)
    · exact h z hz hh
  · cases c with
    | nil => exact .inl hc
    | cons y r =>
      have hf : ∀ m ∈ y :: r, hasK k (-m) = true := fun m hm => by
        rcases (i1 m hm).2 with h4 | h4
        · exact h4
        · exact absurd (h4.trans hx) (hn m hm)
      have hy := List.mem_cons_self (a := y) (l := r)
      refine .inr ⟨y, .unit hc hy (fun m hm _ => h _ (by have := hn m hm; omega) (hf m hm)), h _ (by have := hn y hy; omega) (hf y hy)⟩
theorem SoundK.clash {ls : List (List Int)} {fixed : List Int} {k : Kn} (h : SoundK ls fixed k) (hc : clash k = true) : Conf ls fixed := by
  obtain ⟨z, hz, h1, h2⟩ := clash_iff.1 hc
  exact .inr ⟨z, h z (by omega) h1, h (-z) (by omega) h2⟩
theorem pass_sound {ls0 : List (List Int)} {fixed : List Int} : ∀ {ls : List (List Int)} {k : Kn} {ag : Bool}, (∀ c ∈ ls, c ∈ ls0) → (∀ c ∈ ls, ∀ m ∈ c, m ≠ 0) → SoundK ls0 fixed k →
    (∀ k', passK ls k ag = .inl k' → Conf ls0 fixed) ∧ (∀ k' b, passK ls k ag = .inr (k', b) → SoundK ls0 fixed k')
  | [], k, ag, _, _, hs => ⟨fun k' h => by simp [passK] at h, fun k' b h => by simp only [passK, Sum.inr.injEq, Prod.mk.injEq] at h; rw [← h.1]; exact hs⟩
  | c :: cs, k, ag, hl, hn, hs => by
    have hc := hl c (List.mem_cons_self ..)
    have hnc := hn c (List.mem_cons_self ..)
    have hl' := fun c' h => hl c' (List.mem_cons_of_mem _ h)
    have hn' := fun c' h => hn c' (List.mem_cons_of_mem _ h)
    simp only [passK]
    split
    · rename_i h1
      exact ⟨fun k' h => hs.clash h1, fun k' b h => by cases h⟩
    split
    · rename_i h1
      simp only [Bool.and_eq_true, beq_iff_eq] at h1
      exact ⟨fun k' h => (hs.unit hc hnc (x := 0) (by rw [← h1.2, ← h1.1])).2 rfl, fun k' b h => by cases h⟩
    split
    · rename_i h1 h2
      refine pass_sound hl' hn' ((hs.unit hc hnc (x := (unitK k c).1) (by rw [← h2])).1 ?_)
      intro h0; apply h1; rw [h2, h0]; rfl
    · exact pass_sound hl' hn' hs
/-- Nothing more is found. -/
theorem pass_done : ∀ {ls : List (List Int)} {k k' : Kn} {ag : Bool}, passK ls k ag = .inr (k', false) → ag = false ∧ k' = k ∧ ∀ c ∈ ls, (unitK k c).2 = false
  | [], k, k', ag, h => by
    simp only [passK, Sum.inr.injEq, Prod.mk.injEq] at h
    exact ⟨h.2, h.1.symm, fun c hc => by cases hc⟩
  | c :: cs, k, k', ag, h => by
    simp only [passK] at h
    split at h
    · cases h
    split at h
    · cases h
    split at h
    · have := (pass_done h).1; cases this
    · rename_i h3
      obtain ⟨h4, h5, h6⟩ := pass_done h
      refine ⟨h4, h5, fun c' hc' => ?_⟩
      rcases List.mem_cons.1 hc' with e | hc'
      · rw [e]; simpa using h3
      · exact h6 c' hc'
theorem pass_keeps : ∀ {ls : List (List Int)} {k k' : Kn} {ag b : Bool} {z : Int}, (∀ c ∈ ls, ∀ m ∈ c, m ≠ 0) → passK ls k ag = .inr (k', b) → z ≠ 0 → hasK k z = true → hasK k' z = true
  | [], k, k', ag, b, z, _, h, _, hk => by
    simp only [passK, Sum.inr.injEq, Prod.mk.injEq] at h
    rw [← h.1]; exact hk
  | c :: cs, k, k', ag, b, z, hn, h, hz, hk => by
    have hn' := fun c' h => hn c' (List.mem_cons_of_mem _ h)
    simp only [passK] at h
    split at h
    · cases h
    split at h
    · cases h
    split at h
    · rename_i h1 h2
      refine pass_keeps hn' h hz ?_
      rw [hasK_with (fun h0 => h1 (by rw [h2, h0]; rfl)) hz, hk, Bool.or_true]
    · exact pass_keeps hn' h hz hk
theorem closed_says {ls : List (List Int)} {fixed : List Int} (hn : ∀ c ∈ ls, ∀ m ∈ c, m ≠ 0) (hf : ∀ x ∈ fixed, x ≠ 0) : ∀ {f : Nat} {k k' : Kn} {ok : Bool}, (∀ x ∈ fixed, hasK k x = true) → SoundK ls fixed k → closedF f ls k = some (k', ok) →
    (ok = false → Conf ls fixed) ∧ (ok = true → ¬ Conf ls fixed ∧ ∀ z : Int, z ≠ 0 → (hasK k' z = true ↔ Der ls fixed z))
  | 0, k, k', ok, _, _, h => by simp [closedF] at h
  | f + 1, k, k', ok, hk, hs, h => by
    have hps := pass_sound (ag := false) (fun c h => h) hn hs
    simp only [closedF] at h
    split at h
    · rename_i k2 h2
      simp only [Option.some.injEq, Prod.mk.injEq] at h
      exact ⟨fun _ => hps.1 _ h2, fun h0 => by rw [← h.2] at h0; cases h0⟩
    · rename_i k2 ag h2
      have hs2 := hps.2 _ _ h2
      split at h
      · refine closed_says hn hf (fun x hx => ?_) hs2 h
        exact pass_keeps hn h2 (hf x hx) (hk x hx)
      · rename_i hag
        have hag' : ag = false := by simpa using hag
        subst hag'
        simp only [Option.some.injEq, Prod.mk.injEq] at h
        obtain ⟨h3, h4⟩ := h
        subst h3
        obtain ⟨_, e, hd⟩ := pass_done h2
        subst e
        refine ⟨fun h0 => hs2.clash (by rw [← h4] at h0; simpa using h0), fun h0 => ?_⟩
        have hncl : clash k2 = false := by rw [← h4] at h0; simpa using h0
        have hcl : ∀ z : Int, z ≠ 0 → hasK k2 z = true → hasK k2 (-z) = true → False := fun z hz h5 h6 => by
          have : clash k2 = true := by
            rw [clash_iff]
            by_cases hz0 : 0 < z
            · exact ⟨z, hz0, h5, h6⟩
            · exact ⟨-z, by omega, h6, by rw [Int.neg_neg]; exact h5⟩
          rw [this] at hncl; cases hncl
        have hder : ∀ z, Der ls fixed z → z ≠ 0 → hasK k2 z = true := by
          intro z hz
          induction hz with
          | fix h => intro _; exact hk _ h
          | @unit c x hc hx _ ih =>
            intro _
            have hothers : ∀ m ∈ c, m ≠ x → hasK k2 (-m) = true := fun m hm hne => ih m hm hne (by have := hn c hc m hm; omega)
            obtain ⟨y, hy⟩ : ∃ y, unitK k2 c = (y, false) := ⟨(unitK k2 c).1, by rw [← hd c hc]⟩
            rcases unitG_false (hn c hc) hy with ⟨m, h5, h6⟩ | ⟨m, _, _, h6, _⟩ | ⟨m, h5, m', h6, h7, h8, h9⟩
            · by_cases hm : m = x
              · rw [← hm]; exact h6
              · exact (hcl m (hn c hc m h5) h6 (hothers m h5 hm)).elim
            · exact absurd rfl h6
            · by_cases hm : m = x
              · have := hothers m' h6 (fun e => h7 (by rw [hm, e]))
                rw [this] at h9; cases h9
              · have := hothers m h5 hm
                rw [this] at h8; cases h8
        refine ⟨fun hconf => ?_, fun z hz => ⟨hs2 z hz, fun h => hder z h hz⟩⟩
        rcases hconf with h5 | ⟨x, h5, h6⟩
        · have := hd [] h5
          simp [unitK, unitG] at this
        · by_cases hx : x = 0
          · subst hx
            have hz : ∀ z, Der ls fixed z → z ≠ 0 := fun z hz => by
              cases hz with
              | fix h => exact hf _ h
              | unit hc hx _ => exact hn _ hc _ hx
            exact hz 0 h5 rfl
          · exact hcl x hx (hder x h5 hx) (hder (-x) h6 (by omega))
end Fm

namespace Fm
open Go Go.Eng
/-! ### the reference's consequences -/
def aloneB (c out : List Int) (x : Int) : Bool := !out.contains x && c.all (fun m => m == x || out.contains (-m))
def stepL (c out : List Int) (x : Int) : List Int := if aloneB c out x then out ++ [x] else out
def passC (out c : List Int) : List Int := c.foldl (stepL c) out
def consPass (ls : List (List Int)) (out : List Int) : List Int := ls.foldl passC out
def consF : Nat → List (List Int) → List Int → Option (List Int)
  | 0, _, _ => none
  | n + 1, ls, out => if (consPass ls out).length = out.length then some (consPass ls out) else consF n ls (consPass ls out)
theorem step_pre {c out : List Int} {x : Int} : ∃ r, stepL c out x = out ++ r := by
  unfold stepL; split
  · exact ⟨[x], rfl⟩
  · exact ⟨[], by simp⟩
theorem fold_pre {c : List Int} : ∀ {xs out : List Int}, ∃ r, xs.foldl (stepL c) out = out ++ r
  | [], out => ⟨[], by simp⟩
  | x :: xs, out => by
    obtain ⟨r, hr⟩ := step_pre (c := c) (out := out) (x := x)
    obtain ⟨r2, hr2⟩ := fold_pre (c := c) (xs := xs) (out := stepL c out x)
    exact ⟨r ++ r2, by rw [List.foldl_cons, hr2, hr, List.append_assoc]⟩
theorem pass_pre : ∀ {ls : List (List Int)} {out : List Int}, ∃ r, consPass ls out = out ++ r
  | [], out => ⟨[], by simp [consPass]⟩
  | c :: cs, out => by
    obtain ⟨r, hr⟩ := fold_pre (c := c) (xs := c) (out := out)
    obtain ⟨r2, hr2⟩ := pass_pre (ls := cs) (out := passC out c)
    refine ⟨r ++ r2, ?_⟩
    rw [consPass, List.foldl_cons]
    show consPass cs (passC out c) = _
    rw [hr2]
    show (c.foldl (stepL c) out) ++ r2 = _
    rw [hr, List.append_assoc]
theorem fold_keeps {c : List Int} : ∀ {xs out : List Int}, (xs.foldl (stepL c) out).length = out.length → ∀ x ∈ xs, aloneB c out x = false
  | [], out, _, x, hx => by cases hx
  | y :: xs, out, h, x, hx => by
    rw [List.foldl_cons] at h
    obtain ⟨r2, hr2⟩ := fold_pre (c := c) (xs := xs) (out := stepL c out y)
    have hy : aloneB c out y = false := by
      cases hh : aloneB c out y with
      | false => rfl
      | true =>
        have : stepL c out y = out ++ [y] := by unfold stepL; rw [if_pos hh]
        rw [hr2, this] at h
        simp at h
    have he : stepL c out y = out := by unfold stepL; rw [hy]; rfl
    rw [he] at h
    rcases List.mem_cons.1 hx with e | hx
    · rw [e]; exact hy
    · exact fold_keeps h x hx
theorem pass_keep : ∀ {ls : List (List Int)} {out : List Int}, (consPass ls out).length = out.length → ∀ c ∈ ls, ∀ x ∈ c, aloneB c out x = false
  | [], out, _, c, hc => by cases hc
  | d :: cs, out, h, c, hc => by
    have h' : (consPass cs (passC out d)).length = out.length := h
    obtain ⟨r, hr⟩ := fold_pre (c := d) (xs := d) (out := out)
    obtain ⟨r2, hr2⟩ := pass_pre (ls := cs) (out := passC out d)
    have hr' : passC out d = out ++ r := hr
    have hl : (passC out d).length = out.length := by
      rw [hr2, List.length_append] at h'
      rw [hr', List.length_append] at h' ⊢
      omega
    have he : passC out d = out := by
      rw [hr', List.length_append] at hl
      have : r = [] := List.eq_nil_of_length_eq_zero (by omega)
      rw [hr', this, List.append_nil]
    rw [he] at h'
    rcases List.mem_cons.1 hc with e | hc
    · rw [e]; exact fold_keeps hl
    · exact pass_keep h' c hc
theorem fold_sound {ls : List (List Int)} {fixed c : List Int} (hc : c ∈ ls) : ∀ {xs out : List Int}, (∀ x ∈ xs, x ∈ c) → (∀ z ∈ out, Der ls fixed z) → ∀ z ∈ xs.foldl (stepL c) out, Der ls fixed z
  | [], out, _, h => h
  | x :: xs, out, hx, h => by
    rw [List.foldl_cons]
    refine fold_sound hc (fun y hy => hx y (List.mem_cons_of_mem _ hy)) ?_
    unfold stepL
    split
    · rename_i ha
      intro z hz
      rcases List.mem_append.1 hz with hz | hz
      · exact h z hz
      · simp only [List.mem_singleton] at hz
        subst hz
        simp only [aloneB, Bool.and_eq_true, List.all_eq_true, Bool.or_eq_true, beq_iff_eq, List.contains_iff_mem] at ha
        exact .unit hc (hx z (List.mem_cons_self ..)) (fun m hm hne => by
          rcases ha.2 m hm with h4 | h4
          · exact absurd h4 hne
          · exact h _ h4)
    · exact h
theorem pass_soundL {ls0 : List (List Int)} {fixed : List Int} : ∀ {ls : List (List Int)} {out : List Int}, (∀ c ∈ ls, c ∈ ls0) → (∀ z ∈ out, Der ls0 fixed z) → ∀ z ∈ consPass ls out, Der ls0 fixed z
  | [], out, _, h => h
  | c :: cs, out, hl, h => pass_soundL (ls := cs) (out := passC out c) (fun c' h' => hl c' (List.mem_cons_of_mem _ h')) (fold_sound (hl c (List.mem_cons_self ..)) (fun x hx => hx) h)
theorem cons_says {ls : List (List Int)} {fixed : List Int} : ∀ {n : Nat} {out o : List Int}, (∀ x ∈ fixed, x ∈ out) → (∀ z ∈ out, Der ls fixed z) → consF n ls out = some o → ∀ z, z ∈ o ↔ Der ls fixed z
  | 0, _, _, _, _, h => by simp [consF] at h
  | n + 1, out, o, hf, hs, h => by
    simp only [consF] at h
    have hs2 := pass_soundL (ls := ls) (fun c h => h) hs
    obtain ⟨r, hr⟩ := pass_pre (ls := ls) (out := out)
    split at h
    · rename_i hl
      injection h with h
      have hk := pass_keep hl
      have he : consPass ls out = out := by
        rw [hr, List.length_append] at hl
        have : r = [] := List.eq_nil_of_length_eq_zero (by omega)
        rw [hr, this, List.append_nil]
      rw [he] at h
      subst h
      intro z
      refine ⟨hs z, fun hz => ?_⟩
      induction hz with
      | fix h => exact hf _ h
      | @unit c x hc hx _ ih =>
        have := hk c hc x hx
        simp only [aloneB, Bool.and_eq_false_iff, Bool.not_eq_false', List.contains_iff_mem] at this
        rcases this with h1 | h1
        · exact h1
        · exfalso
          rw [List.all_eq_false] at h1
          obtain ⟨m, hm, h2⟩ := h1
          simp only [Bool.or_eq_true, beq_iff_eq, List.contains_iff_mem, not_or] at h2
          exact h2.2 (ih m hm h2.1)
    · exact cons_says (fun x hx => by rw [hr]; exact List.mem_append_left _ (hf x hx)) hs2 h
/-- The reference's conflict. -/
def conflictB (ls : List (List Int)) (out : List Int) : Bool := ls.any (·.isEmpty) || out.any (fun x => out.contains (-x))
theorem conflict_says {ls : List (List Int)} {fixed out : List Int} (h : ∀ z, z ∈ out ↔ Der ls fixed z) : conflictB ls out = true ↔ Conf ls fixed := by
  unfold conflictB Conf
  simp only [Bool.or_eq_true, List.any_eq_true, List.contains_iff_mem, List.isEmpty_iff]
  constructor
  · rintro (⟨c, h1, h2⟩ | ⟨x, h1, h2⟩)
    · subst h2; exact .inl h1
    · exact .inr ⟨x, (h x).1 h1, (h (-x)).1 h2⟩
  · rintro (h1 | ⟨x, h1, h2⟩)
    · exact .inl ⟨[], h1, rfl⟩
    · exact .inr ⟨x, (h x).2 h1, (h (-x)).2 h2⟩

/-! ### that they end -/
def Rg : List Int := (List.range 65).map fun (i : Nat) => (i : Int) - 32
theorem mem_Rg {x : Int} : x ∈ Rg ↔ -32 ≤ x ∧ x ≤ 32 := by
  unfold Rg
  simp only [List.mem_map, List.mem_range]
  constructor
  · rintro ⟨i, h1, h2⟩; omega
  · intro h; exact ⟨(x + 32).toNat, by omega, by omega⟩
def openC (p : Int → Bool) : Nat := (Rg.filter p).length
theorem filter_le {p q : Int → Bool} (h : ∀ z, q z = true → p z = true) (l : List Int) : (l.filter q).length ≤ (l.filter p).length := by
  induction l with
  | nil => simp
  | cons a l ih =>
    by_cases hq : q a = true
    · simp [List.filter_cons, hq, h a hq]; exact ih
    · by_cases hp : p a = true
      · simp [List.filter_cons, hq, hp]; omega
      · simp [List.filter_cons, hq, hp]; exact ih
theorem filter_lt {p q : Int → Bool} (h : ∀ z, q z = true → p z = true) {x : Int} (hp : p x = true) (hq : q x = false) : ∀ {l : List Int}, x ∈ l → (l.filter q).length < (l.filter p).length
  | a :: l, hx => by
    rcases List.mem_cons.1 hx with e | hx
    · subst e
      have := filter_le h l
      simp [List.filter_cons, hp, hq]; omega
    · have ih := filter_lt h hp hq hx
      by_cases hqa : q a = true
      · simp [List.filter_cons, hqa, h a hqa]; exact ih
      · by_cases hpa : p a = true
        · simp [List.filter_cons, hqa, hpa]; omega
        · simp [List.filter_cons, hqa, hpa]; exact ih
theorem openC_le (p : Int → Bool) : openC p ≤ 65 := by
  unfold openC
  exact Nat.le_trans (List.length_filter_le _ _) (by simp [Rg])
def openL (out : List Int) : Nat := openC fun z => !out.contains z
theorem openL_app {out r : List Int} : openL (out ++ r) ≤ openL out := filter_le (fun z h => by simp at h ⊢; exact h.1) _
theorem openL_fold {c : List Int} : ∀ {xs out : List Int}, (∀ x ∈ xs, -32 ≤ x ∧ x ≤ 32) → (xs.foldl (stepL c) out).length ≠ out.length → openL (xs.foldl (stepL c) out) < openL out
  | [], out, _, h => absurd rfl h
  | x :: xs, out, hx, h => by
    rw [List.foldl_cons] at h ⊢
    by_cases ha : aloneB c out x = true
    · have he : stepL c out x = out ++ [x] := by unfold stepL; rw [if_pos ha]
      obtain ⟨r, hr⟩ := fold_pre (c := c) (xs := xs) (out := stepL c out x)
      rw [hr]
      refine Nat.lt_of_le_of_lt openL_app ?_
      rw [he]
      have hxo : out.contains x = false := by
        simp only [aloneB, Bool.and_eq_true, Bool.not_eq_true'] at ha
        exact ha.1
      exact filter_lt (fun z h => by simp at h ⊢; exact h.1) (x := x) (by simpa using hxo) (by simp) (mem_Rg.2 (hx x (List.mem_cons_self ..)))
    · have he : stepL c out x = out := by unfold stepL; rw [if_neg ha]
      rw [he] at h ⊢
      exact openL_fold (fun y hy => hx y (List.mem_cons_of_mem _ hy)) h
theorem openL_pass : ∀ {ls : List (List Int)} {out : List Int}, (∀ c ∈ ls, ∀ x ∈ c, -32 ≤ x ∧ x ≤ 32) → (consPass ls out).length ≠ out.length → openL (consPass ls out) < openL out
  | [], out, _, h => absurd rfl h
  | c :: cs, out, hl, h => by
    have e : consPass (c :: cs) out = consPass cs (passC out c) := rfl
    rw [e] at h ⊢
    obtain ⟨r, hr⟩ := pass_pre (ls := cs) (out := passC out c)
    by_cases h1 : (passC out c).length = out.length
    · obtain ⟨r2, hr2⟩ := fold_pre (c := c) (xs := c) (out := out)
      have hr2' : passC out c = out ++ r2 := hr2
      have : passC out c = out := by
        rw [hr2', List.length_append] at h1
        have : r2 = [] := List.eq_nil_of_length_eq_zero (by omega)
        rw [hr2', this, List.append_nil]
      rw [this] at h ⊢
      exact openL_pass (fun c' h' => hl c' (List.mem_cons_of_mem _ h')) h
    · rw [hr]
      exact Nat.lt_of_le_of_lt openL_app (openL_fold (hl c (List.mem_cons_self ..)) h1)
theorem cons_total {ls : List (List Int)} (hl : ∀ c ∈ ls, ∀ x ∈ c, -32 ≤ x ∧ x ≤ 32) : ∀ (n : Nat) (out : List Int), openL out < n → ∃ o, consF n ls out = some o
  | 0, out, h => by omega
  | n + 1, out, h => by
    simp only [consF]
    split
    · exact ⟨_, rfl⟩
    · rename_i hne
      exact cons_total hl n _ (by have := openL_pass hl hne; omega)
theorem cons_ends {ls : List (List Int)} (hl : ∀ c ∈ ls, ∀ x ∈ c, -32 ≤ x ∧ x ≤ 32) (out : List Int) : ∃ o, consF 66 ls out = some o := cons_total hl 66 out (by have := openC_le (fun z => !out.contains z); unfold openL; omega)
def openKn (k : Kn) : Nat := openC fun z => z != 0 && !hasK k z
theorem unit_open {k : Kn} {c : List Int} (hn : ∀ m ∈ c, m ≠ 0) {x : Int} (h : unitK k c = (x, true)) (hx : x ≠ 0) : x ∈ c ∧ hasK k x = false := by
  obtain ⟨i1, i2, i3⟩ := unitG_true hn h
  have hm : x ∈ c := by
    rcases i3 hx with h3 | h3
    · exact absurd h3 hx
    · exact h3
  exact ⟨hm, (i1 x hm).1⟩
theorem openKn_with {k : Kn} {x : Int} (hx : x ≠ 0) (hr : -32 ≤ x ∧ x ≤ 32) (hk : hasK k x = false) : openKn (withK k x) < openKn k := by
  unfold openKn openC
  refine filter_lt (x := x) (fun z h => ?_) ?_ ?_ (mem_Rg.2 hr)
  · simp only [Bool.and_eq_true, bne_iff_ne, Bool.not_eq_true'] at h ⊢
    rw [hasK_with hx h.1] at h
    simp at h
    exact ⟨h.1, h.2.2⟩
  · simp [hx, hk]
  · rw [hasK_with hx hx]; simp
theorem openKn_pass : ∀ {ls : List (List Int)} {k k' : Kn} {ag b : Bool}, (∀ c ∈ ls, ∀ x ∈ c, x ≠ 0 ∧ -32 ≤ x ∧ x ≤ 32) → passK ls k ag = .inr (k', b) → openKn k' ≤ openKn k ∧ (b = true → ag = true ∨ openKn k' < openKn k)
  | [], k, k', ag, b, _, h => by
    simp only [passK, Sum.inr.injEq, Prod.mk.injEq] at h
    rw [← h.1, ← h.2]; exact ⟨Nat.le_refl _, fun h => .inl h⟩
  | c :: cs, k, k', ag, b, hl, h => by
    have hl' := fun c' h' => hl c' (List.mem_cons_of_mem _ h')
    simp only [passK] at h
    split at h
    · cases h
    split at h
    · cases h
    split at h
    · rename_i h1 h2
      have hx0 : (unitK k c).1 ≠ 0 := fun h0 => h1 (by rw [h2, h0]; rfl)
      obtain ⟨hm, hk⟩ := unit_open (fun m hm => (hl c (List.mem_cons_self ..) m hm).1) (x := (unitK k c).1) (by rw [← h2]) hx0
      have h3 := openKn_with hx0 (hl c (List.mem_cons_self ..) _ hm).2 hk
      have h4 := (openKn_pass hl' h).1
      exact ⟨by omega, fun _ => .inr (by omega)⟩
    · exact openKn_pass hl' h
theorem closed_total {ls : List (List Int)} (hl : ∀ c ∈ ls, ∀ x ∈ c, x ≠ 0 ∧ -32 ≤ x ∧ x ≤ 32) : ∀ (n : Nat) (k : Kn), openKn k < n → ∃ r, closedF n ls k = some r
  | 0, k, h => by omega
  | n + 1, k, h => by
    simp only [closedF]
    split
    · exact ⟨_, rfl⟩
    · rename_i k' ag h1
      split
      · rename_i hag
        have := (openKn_pass hl h1).2 hag
        refine closed_total hl n k' ?_
        rcases this with h2 | h2
        · cases h2
        · omega
      · exact ⟨_, rfl⟩
theorem openKn_le (k : Kn) : openKn k ≤ 64 := by
  unfold openKn openC
  have h1 : (Rg.filter fun z => z != 0 && !hasK k z).length ≤ (Rg.filter fun z => z != 0).length := filter_le (fun z h => by simp at h ⊢; exact h.1) _
  have h2 : (Rg.filter fun z => z != 0).length = 64 := by decide
  omega
theorem closed_ends {ls : List (List Int)} (hl : ∀ c ∈ ls, ∀ x ∈ c, x ≠ 0 ∧ -32 ≤ x ∧ x ≤ 32) (k : Kn) : ∃ r, closedF 65 ls k = some r := closed_total hl 65 k (by have := openKn_le k; omega)
end Fm

namespace Go.Proofs.Ytbippghgkbapnaa
open Go Go.Eng Go.Proofs
theorem name_c (s : List UInt8) (w : World) : Pure Try.prog 44 [.string (str s)] w (.agg [Value.int .u8 3, .string (str s), .slice none 0 0].toArray) := by
  refine enter Try.func44 rfl Try.ntmps44 rfl (St.init _) ?_
  refine WC.seq ?_
  refine WC.region ?_
  refine WL.step ?_
  refine WL.alloc F.zero25 rfl (fun b2 => ?_)
  refine WL.nil ?_
  refine WQ.then_normal ?_
  refine WC.seq ?_
  refine WC.region ?_
  refine WL.step ?_
  refine WL.move rfl rfl ?_
  refine WL.step ?_
  refine WL.build F.stT25 rfl (by repeat (first | exact Built.nil | apply Built.one rfl rfl (by repeat constructor) | apply Built.agg rfl rfl (by repeat constructor))) rfl ?_
  refine WL.step ?_
  refine WL.storeN F.agg25 rfl rfl rfl (by simp [Value.oneCell']) (by repeat (first | exact Upd.here | apply Upd.there)) (by repeat constructor) ?_
  refine WL.nil ?_
  refine WQ.then_normal ?_
  refine WC.ret ?_
  refine WQ.ret (rs := [.cell 2 25]) rfl (.cellN F.agg25 rfl (by repeat (first | exact List.Mem.head _ | apply List.Mem.tail)) rfl .nil) (fun w hS => ⟨rfl, hS.drop⟩)

def T1 : Tree := .mk 5 [] [.mk 3 [97] [], .mk 3 [98] [], .mk 5 [] [.mk 3 [99] [], .mk 3 [100] []]]
def T2 : Tree := .mk 5 [] [.mk 6 [] [.mk 3 [97] [], .mk 3 [98] []], .mk 4 [] [.mk 3 [99] []]]
theorem top1 : Fm.top [97, 32, 38, 32, 98, 32, 38, 32, 40, 99, 32, 38, 32, 100, 41] = (T1, 0, 0) := by kernel_rfl
theorem top2 : Fm.top [97, 32, 60, 61, 62, 32, 98, 32, 60, 61, 62, 32, 99] = (Fm.zeroTree, 8, 4) := by kernel_rfl
theorem print1 : printS T2 = [40, 97, 32, 124, 32, 98, 41, 32, 38, 32, 33, 99] := by kernel_rfl
theorem valid1 : Fm.validB T2 = true := by kernel_rfl
theorem sol1 : Fm.solveF 2 20 false [[1, 2], [-1]] [] [] = some ⟨true, 2, []⟩ := by kernel_rfl
theorem sol2 : Fm.solveF 1 20 false [[1], [-1]] [] [] = some ⟨false, 0, [[]]⟩ := by kernel_rfl
theorem may1 : Fm.mayE 2 [[1, 2], [-1]] = 0 := by kernel_rfl
theorem may2 : Fm.mayE 1 [[1], [-1]] = 0 := by kernel_rfl
/-- Two clauses that the caller laid. -/
theorem RdLL.two {w0 w : World} {O : List Nat} {C : List Chunk} {b1 b2 b3 : Nat} {c1 c2 : List Int} (hS : St w0 O C w) (h1 : pt b1 (c1.map (Value.int .i64)) 3 ∈ C) (h2 : pt b2 (c2.map (Value.int .i64)) 3 ∈ C)
    (h3 : pt b3 [.slice (some ⟨b1, 0, none⟩) c1.length c1.length, .slice (some ⟨b2, 0, none⟩) c2.length c2.length] 54 ∈ C) :
    RdLL w [c1, c2] (some ⟨b3, 0, none⟩) [.slice (some ⟨b1, 0, none⟩) c1.length c1.length, .slice (some ⟨b2, 0, none⟩) c2.length c2.length] := by
  refine ⟨rfl, fun i u hu => ⟨b3, 0, rfl, by rw [Nat.zero_add]; exact hS.cell h3 hu⟩, fun i c u hc hu => ?_⟩
  match i, hc, hu with
  | 0, hc, hu =>
    simp at hc hu
    subst hc; subst hu
    exact ⟨_, _, rfl, fun j x hx => ⟨b1, 0, rfl, by rw [Nat.zero_add]; exact hS.cell h1 (by simp [hx])⟩⟩
  | 1, hc, hu =>
    simp at hc hu
    subst hc; subst hu
    exact ⟨_, _, rfl, fun j x hx => ⟨b2, 0, rfl, by rw [Nat.zero_add]; exact hS.cell h2 (by simp [hx])⟩⟩
  | i + 2, hc, hu => simp at hc

theorem wakes_c (w : World) : Pure Try.prog 13 [] w (.bool true) := by
  refine enter Try.func13 rfl Try.ntmps13 rfl (St.init _) ?_
  refine WC.seq ?_
  refine WC.region ?_
  refine WL.step ?_
  refine WL.assign rfl rfl ?_
  refine WL.nil ?_
  refine WQ.then_normal ?_
  refine WC.seq ?_
  refine WC.region ?_
  refine WL.step ?_
  refine WL.callC (β := List Nat × Option Addr × Nat) (res := fun y => .tuple #[tv T1 y.2.1 y.2.2, .int .i64 0, .int .i64 0]) (cs := fun y => [own y.1 T1 (tv T1 y.2.1 y.2.2)]) (Cs := []) (O' := []) F.fun14 (fun d h => by cases h; rfl) rfl (List.Perm.refl _) (by simp) (by simp) (fun w hS _ => (Parse_c [97, 32, 38, 32, 98, 32, 38, 32, 40, 99, 32, 38, 32, 100, 41] w).mono (fun e w2 h => ?_)) (fun y14 => ?_)
  · rw [top1] at h
    exact h
  refine WL.step ?_
  refine WL.move rfl rfl ?_
  refine WL.step ?_
  refine WL.extract rfl rfl rfl ?_
  refine WL.step ?_
  refine WL.extract rfl rfl rfl ?_
  refine WL.step ?_
  refine WL.extract rfl rfl rfl ?_
  refine WL.step ?_
  refine WL.alloc F.zero25 rfl (fun b1 => ?_)
  refine WL.step ?_
  refine WL.storeN F.agg25 rfl rfl rfl (by simp [Value.oneCell']) (by repeat (first | exact Upd.here | apply Upd.there)) (by repeat constructor) ?_
  refine WL.step ?_
  refine WL.assign rfl rfl ?_
  refine WL.step ?_
  refine WL.assign rfl rfl ?_
  refine WL.nil ?_
  refine WQ.then_normal ?_
  refine WC.seq ?_
  refine WC.region ?_
  refine WL.step ?_
  refine WL.callV F.fun44 rfl rfl (fun w _ => name_c [97] w) ?_
  refine WL.step ?_
  refine WL.callV F.fun44 rfl rfl (fun w _ => name_c [98] w) ?_
  refine WL.step ?_
  refine WL.buildSlice F.sl23 F.ez23 rfl rfl rfl rfl (by repeat (first | exact Built.nil | apply Built.one rfl rfl (by repeat constructor) | apply Built.agg rfl rfl (by repeat constructor))) rfl (fun b21 => ?_)
  refine WL.step ?_
  refine WL.build F.stT25 rfl (by repeat (first | exact Built.nil | apply Built.one rfl rfl (by repeat constructor) | apply Built.agg rfl rfl (by repeat constructor))) rfl ?_
  refine WL.step ?_
  refine WL.callV F.fun44 rfl rfl (fun w _ => name_c [99] w) ?_
  refine WL.step ?_
  refine WL.buildSlice F.sl23 F.ez23 rfl rfl rfl rfl (by repeat (first | exact Built.nil | apply Built.one rfl rfl (by repeat constructor) | apply Built.agg rfl rfl (by repeat constructor))) rfl (fun b24 => ?_)
  refine WL.step ?_
  refine WL.build F.stT25 rfl (by repeat (first | exact Built.nil | apply Built.one rfl rfl (by repeat constructor) | apply Built.agg rfl rfl (by repeat constructor))) rfl ?_
  refine WL.step ?_
  refine WL.buildSlice F.sl23 F.ez23 rfl rfl rfl rfl (by repeat (first | exact Built.nil | apply Built.one rfl rfl (by repeat constructor) | apply Built.agg rfl rfl (by repeat constructor))) rfl (fun b26 => ?_)
  refine WL.step ?_
  refine WL.build F.stT25 rfl (by repeat (first | exact Built.nil | apply Built.one rfl rfl (by repeat constructor) | apply Built.agg rfl rfl (by repeat constructor))) rfl ?_
  refine WA.chunksE (C' := fun x : List Nat => [own x T2 (.agg #[.int .u8 5, .string (str []), .slice (some ⟨b26, 0, none⟩) 2 2]), pt b1 [.int .u8 T1.op, .string (str T1.name), .slice y14.2.1 T1.kids.length y14.2.2] 25]) (fun w hS => ?_) (fun G => ?_)
  · have a1 := St.node0 3 [98] (St.node0 3 [97] hS)
    have a2 := St.pick a1 (c := own [] (Tree.mk 3 [97] []) (.agg #[.int .u8 3, .string (str [97]), .slice none 0 0])) (by repeat (first | exact Rem.here | apply Rem.there))
    obtain ⟨F1, a3⟩ := St.node2 6 (t1 := Tree.mk 3 [97] []) (t2 := Tree.mk 3 [98] []) (a1 := none) (a2 := none) (c1 := 0) (c2 := 0) (St.pick a2 (c := pt b21 [.int .u8 3, .string (str [97]), .slice none 0 0, .int .u8 3, .string (str [98]), .slice none 0 0] 25) (by repeat (first | exact Rem.here | apply Rem.there)))
    have a4 := St.node0 3 [99] a3
    obtain ⟨F2, a5⟩ := St.node1 4 (t1 := Tree.mk 3 [99] []) (a1 := none) (c1 := 0) (St.pick a4 (c := pt b24 [.int .u8 3, .string (str [99]), .slice none 0 0] 25) (by repeat (first | exact Rem.here | apply Rem.there)))
    have a6 := St.pick a5 (c := own F1 (.mk 6 [] [Tree.mk 3 [97] [], Tree.mk 3 [98] []]) (.agg #[.int .u8 6, .string (str []), .slice (some ⟨b21, 0, none⟩) 2 2])) (by repeat (first | exact Rem.here | apply Rem.there))
    obtain ⟨F3, a7⟩ := St.node2 5 (t1 := .mk 6 [] [Tree.mk 3 [97] [], Tree.mk 3 [98] []]) (t2 := .mk 4 [] [Tree.mk 3 [99] []]) (a1 := some ⟨b21, 0, none⟩) (a2 := some ⟨b24, 0, none⟩) (c1 := 2) (c2 := 1) (St.pick a6 (c := pt b26 [.int .u8 6, .string (str []), .slice (some ⟨b21, 0, none⟩) 2 2, .int .u8 4, .string (str []), .slice (some ⟨b24, 0, none⟩) 1 1] 25) (by repeat (first | exact Rem.here | apply Rem.there)))
    exact ⟨F3, ((St.pick (St.pick a7 (c := pt b1 [.int .u8 T1.op, .string (str T1.name), .slice y14.2.1 T1.kids.length y14.2.2] 25) (by repeat (first | exact Rem.here | apply Rem.there))) (c := own F3 T2 (.agg #[.int .u8 5, .string (str []), .slice (some ⟨b26, 0, none⟩) 2 2])) (by repeat (first | exact Rem.here | apply Rem.there)))).two2⟩
  refine WL.step ?_
  refine WL.callV (v := .tuple #[.string (str [40, 97, 32, 124, 32, 98, 41, 32, 38, 32, 33, 99]), .int .i64 0]) F.fun19 rfl rfl (fun w hS => by have h9 := Print_c T2 G (some ⟨b26, 0, none⟩) 2 w (hS.ok _ (List.Mem.head _)).2; rw [print1, valid1] at h9; exact h9) ?_
  refine WL.step ?_
  refine WL.move rfl rfl ?_
  refine WL.step ?_
  refine WL.extract rfl rfl rfl ?_
  refine WL.step ?_
  refine WL.extract rfl rfl rfl ?_
  refine WL.step ?_
  refine WL.assign rfl rfl ?_
  refine WL.step ?_
  refine WL.assign rfl rfl ?_
  refine WL.nil ?_
  refine WQ.then_normal ?_
  refine WC.seq ?_
  refine WC.region ?_
  refine WL.step ?_
  refine WL.callC (β := List Nat × Option Addr × Nat) (res := fun y => .tuple #[tv Fm.zeroTree y.2.1 y.2.2, .int .i64 8, .int .i64 4]) (cs := fun y => [own y.1 Fm.zeroTree (tv Fm.zeroTree y.2.1 y.2.2)]) (Cs := []) (O' := []) F.fun14 (fun d h => by cases h; rfl) rfl (List.Perm.refl _) (by simp) (by simp) (fun w hS _ => (Parse_c [97, 32, 60, 61, 62, 32, 98, 32, 60, 61, 62, 32, 99] w).mono (fun e w2 h => ?_)) (fun y32 => ?_)
  · rw [top2] at h
    exact h
  refine WL.step ?_
  refine WL.move rfl rfl ?_
  refine WL.step ?_
  refine WL.extract rfl rfl rfl ?_
  refine WL.step ?_
  refine WL.extract rfl rfl rfl ?_
  refine WL.step ?_
  refine WL.extract rfl rfl rfl ?_
  refine WL.step ?_
  refine WL.alloc F.zero25 rfl (fun b6 => ?_)
  refine WL.step ?_
  refine WL.storeN F.agg25 rfl rfl rfl (by simp [Value.oneCell']) (by repeat (first | exact Upd.here | apply Upd.there)) (by repeat constructor) ?_
  refine WL.step ?_
  refine WL.assign rfl rfl ?_
  refine WL.step ?_
  refine WL.assign rfl rfl ?_
  refine WL.nil ?_
  refine WQ.then_normal ?_
  refine WC.seq ?_
  refine WC.region ?_
  refine WL.step ?_
  refine WL.buildSlice F.sl54 F.ez54 rfl rfl rfl rfl (by repeat (first | exact Built.nil | apply Built.one rfl rfl (by repeat constructor) | apply Built.agg rfl rfl (by repeat constructor))) rfl (fun b37 => ?_)
  refine WL.step ?_
  refine WL.buildSlice F.sl54 F.ez54 rfl rfl rfl rfl (by repeat (first | exact Built.nil | apply Built.one rfl rfl (by repeat constructor) | apply Built.agg rfl rfl (by repeat constructor))) rfl (fun b38 => ?_)
  refine WL.step ?_
  refine WL.buildSlice F.sl38 F.ez38 rfl rfl rfl rfl (by repeat (first | exact Built.nil | apply Built.one rfl rfl (by repeat constructor) | apply Built.agg rfl rfl (by repeat constructor))) rfl (fun b39 => ?_)
  refine WL.step ?_
  refine WL.callC (β := Option Addr × Nat) (res := fun x => .tuple #[.agg #[.bool true, .int .u32 2, .slice x.1 0 x.2], .int .i64 0]) (cs := fun _ => []) (Cs := []) (O' := []) F.fun24 (fun d h => by cases h; rfl) rfl (List.Perm.refl _) (by simp) (by simp) (fun w hS _ => (Solve_c 2 [[1, 2], [-1]] (some ⟨b39, 0, none⟩) 2 _ (.inr ⟨_, _, rfl⟩) w (RdLL.two (b1 := b37) (b2 := b38) (b3 := b39) (c1 := [1, 2]) (c2 := [-1]) hS (by repeat (first | exact List.Mem.head _ | apply List.Mem.tail)) (by repeat (first | exact List.Mem.head _ | apply List.Mem.tail)) (by repeat (first | exact List.Mem.head _ | apply List.Mem.tail))) 20 ⟨true, 2, []⟩ (by decide) (fun n hn _ => ?_)).mono (fun e w2 h => ?_)) (fun x40 => ?_)
  · have : n = 2 := by omega
    subst this
    exact sol1
  · rcases h with h | h
    · exact absurd may1 h.1
    · obtain ⟨_, x, F, vs, h1, h2⟩ := h
      exact ⟨x, h1, h2.sublist (List.nil_sublist _)⟩
  refine WL.step ?_
  refine WL.move rfl rfl ?_
  refine WL.step ?_
  refine WL.extract rfl rfl rfl ?_
  refine WL.step ?_
  refine WL.extract rfl rfl rfl ?_
  refine WL.step ?_
  refine WL.alloc F.zero43 rfl (fun b9 => ?_)
  refine WL.step ?_
  refine WL.storeN F.agg43 rfl rfl rfl (by simp [Value.oneCell']) (by repeat (first | exact Upd.here | apply Upd.there)) (by repeat constructor) ?_
  refine WL.step ?_
  refine WL.assign rfl rfl ?_
  refine WL.nil ?_
  refine WQ.then_normal ?_
  refine WC.seq ?_
  refine WC.region ?_
  refine WL.step ?_
  refine WL.buildSlice F.sl54 F.ez54 rfl rfl rfl rfl (by repeat (first | exact Built.nil | apply Built.one rfl rfl (by repeat constructor) | apply Built.agg rfl rfl (by repeat constructor))) rfl (fun b44 => ?_)
  refine WL.step ?_
  refine WL.buildSlice F.sl54 F.ez54 rfl rfl rfl rfl (by repeat (first | exact Built.nil | apply Built.one rfl rfl (by repeat constructor) | apply Built.agg rfl rfl (by repeat constructor))) rfl (fun b45 => ?_)
  refine WL.step ?_
  refine WL.buildSlice F.sl38 F.ez38 rfl rfl rfl rfl (by repeat (first | exact Built.nil | apply Built.one rfl rfl (by repeat constructor) | apply Built.agg rfl rfl (by repeat constructor))) rfl (fun b46 => ?_)
  refine WL.step ?_
  refine WL.callC (β := Option Addr × Nat) (res := fun x => .tuple #[.agg #[.bool false, .int .u32 0, .slice x.1 1 x.2], .int .i64 0]) (cs := fun _ => []) (Cs := []) (O' := []) F.fun24 (fun d h => by cases h; rfl) rfl (List.Perm.refl _) (by simp) (by simp) (fun w hS _ => (Solve_c 1 [[1], [-1]] (some ⟨b46, 0, none⟩) 2 _ (.inr ⟨_, _, rfl⟩) w (RdLL.two (b1 := b44) (b2 := b45) (b3 := b46) (c1 := [1]) (c2 := [-1]) hS (by repeat (first | exact List.Mem.head _ | apply List.Mem.tail)) (by repeat (first | exact List.Mem.head _ | apply List.Mem.tail)) (by repeat (first | exact List.Mem.head _ | apply List.Mem.tail))) 20 ⟨false, 0, [[]]⟩ (by decide) (fun n hn _ => ?_)).mono (fun e w2 h => ?_)) (fun x47 => ?_)
  · have : n = 1 := by omega
    subst this
    exact sol2
  · rcases h with h | h
    · exact absurd may2 h.1
    · obtain ⟨_, x, F, vs, h1, h2⟩ := h
      exact ⟨x, h1, h2.sublist (List.nil_sublist _)⟩
  refine WL.step ?_
  refine WL.move rfl rfl ?_
  refine WL.step ?_
  refine WL.extract rfl rfl rfl ?_
  refine WL.step ?_
  refine WL.extract rfl rfl rfl ?_
  refine WL.step ?_
  refine WL.alloc F.zero43 rfl (fun b11 => ?_)
  refine WL.step ?_
  refine WL.storeN F.agg43 rfl rfl rfl (by simp [Value.oneCell']) (by repeat (first | exact Upd.here | apply Upd.there)) (by repeat constructor) ?_
  refine WL.step ?_
  refine WL.assign rfl rfl ?_
  refine WL.nil ?_
  refine WQ.then_normal ?_
  refine WC.seq ?_
  refine WC.region ?_
  refine WL.step ?_
  refine WL.move rfl rfl ?_
  refine WL.step ?_
  refine WL.eqI rfl rfl rfl ?_
  refine WL.step ?_
  refine WL.move rfl rfl ?_
  refine WA.splitB (i := 52) rfl (fun g52 => ?_) (fun g52 => ?_)
  · skip
    refine WL.step (WL.guardT rfl rfl rfl ?_)
    refine WL.move rfl rfl ?_
    refine WL.step (WL.guardT rfl rfl rfl ?_)
    refine WL.eqI rfl rfl rfl ?_
    refine WL.step ?_
    refine WL.pickT rfl rfl rfl ?_
    refine WL.step ?_
    refine WL.move rfl rfl ?_
    refine WA.splitB (i := 56) rfl (fun g56 => ?_) (fun g56 => ?_)
    · skip
      refine WL.step (WL.guardT rfl rfl rfl ?_)
      refine WL.fieldAddr0 F.fld25_0 rfl rfl ?_
      refine WL.step (WL.guardT rfl rfl rfl ?_)
      refine WL.loadP F.one5 rfl rfl (by repeat (first | exact List.Mem.head _ | apply List.Mem.tail)) rfl ?_
      refine WL.step (WL.guardT rfl rfl rfl ?_)
      refine WL.eqI rfl rfl rfl ?_
      refine WL.step ?_
      refine WL.pickT rfl rfl rfl ?_
      refine WL.step ?_
      refine WL.move rfl rfl ?_
      refine WA.splitB (i := 61) rfl (fun g61 => ?_) (fun g61 => ?_)
      · skip
        refine WL.step (WL.guardT rfl rfl rfl ?_)
        refine WL.fieldAddr0 F.fld25_2 rfl rfl ?_
        refine WL.step (WL.guardT rfl rfl rfl ?_)
        refine WL.loadP F.one23 rfl rfl (by repeat (first | exact List.Mem.head _ | apply List.Mem.tail)) rfl ?_
        refine WL.step (WL.guardT rfl rfl rfl ?_)
        refine WL.lenSl F.und23 rfl rfl ?_
        refine WL.step (WL.guardT rfl rfl rfl ?_)
        refine WL.eqI rfl rfl rfl ?_
        refine WL.step ?_
        refine WL.pickT rfl rfl rfl ?_
        refine WL.step ?_
        refine WL.move rfl rfl ?_
        refine WA.splitB (i := 67) rfl (fun g67 => ?_) (fun g67 => ?_)
        · skip
          refine WL.step (WL.guardT rfl rfl rfl ?_)
          refine WL.move rfl rfl ?_
          refine WL.step (WL.guardT rfl rfl rfl ?_)
          refine WL.eqI rfl rfl rfl ?_
          refine WL.step ?_
          refine WL.pickT rfl rfl rfl ?_
          refine WL.step ?_
          refine WL.move rfl rfl ?_
          refine WA.splitB (i := 71) rfl (fun g71 => ?_) (fun g71 => ?_)
          · skip
            refine WL.step (WL.guardT rfl rfl rfl ?_)
            refine WL.move rfl rfl ?_
            refine WL.step (WL.guardT rfl rfl rfl ?_)
            refine WL.eqS rfl rfl rfl ?_
            refine WL.step ?_
            refine WL.pickT rfl rfl rfl ?_
            refine WL.step ?_
            refine WL.move rfl rfl ?_
            refine WA.splitB (i := 75) rfl (fun g75 => ?_) (fun g75 => ?_)
            · skip
              refine WL.step (WL.guardT rfl rfl rfl ?_)
              refine WL.move rfl rfl ?_
              refine WL.step (WL.guardT rfl rfl rfl ?_)
              refine WL.eqI rfl rfl rfl ?_
              refine WL.step ?_
              refine WL.pickT rfl rfl rfl ?_
              refine WL.step ?_
              refine WL.move rfl rfl ?_
              refine WA.splitB (i := 79) rfl (fun g79 => ?_) (fun g79 => ?_)
              · skip
                refine WL.step (WL.guardT rfl rfl rfl ?_)
                refine WL.move rfl rfl ?_
                refine WL.step (WL.guardT rfl rfl rfl ?_)
                refine WL.eqI rfl rfl rfl ?_
                refine WL.step ?_
                refine WL.pickT rfl rfl rfl ?_
                refine WL.step ?_
                refine WL.move rfl rfl ?_
                refine WA.splitB (i := 83) rfl (fun g83 => ?_) (fun g83 => ?_)
                · skip
                  refine WL.step (WL.guardT rfl rfl rfl ?_)
                  refine WL.move rfl rfl ?_
                  refine WL.step (WL.guardT rfl rfl rfl ?_)
                  refine WL.eqI rfl rfl rfl ?_
                  refine WL.step ?_
                  refine WL.pickT rfl rfl rfl ?_
                  refine WL.step ?_
                  refine WL.move rfl rfl ?_
                  refine WA.splitB (i := 87) rfl (fun g87 => ?_) (fun g87 => ?_)
                  · skip
                    refine WL.step (WL.guardT rfl rfl rfl ?_)
                    refine WL.fieldAddr0 F.fld43_0 rfl rfl ?_
                    refine WL.step (WL.guardT rfl rfl rfl ?_)
                    refine WL.loadP F.one4 rfl rfl (by repeat (first | exact List.Mem.head _ | apply List.Mem.tail)) rfl ?_
                    refine WL.step ?_
                    refine WL.pickT rfl rfl rfl ?_
                    refine WL.step ?_
                    refine WL.move rfl rfl ?_
                    refine WA.splitB (i := 91) rfl (fun g91 => ?_) (fun g91 => ?_)
                    · skip
                      refine WL.step (WL.guardT rfl rfl rfl ?_)
                      refine WL.fieldAddr0 F.fld43_1 rfl rfl ?_
                      refine WL.step (WL.guardT rfl rfl rfl ?_)
                      refine WL.loadP F.one41 rfl rfl (by repeat (first | exact List.Mem.head _ | apply List.Mem.tail)) rfl ?_
                      refine WL.step (WL.guardT rfl rfl rfl ?_)
                      refine WL.eqI rfl rfl rfl ?_
                      refine WL.step ?_
                      refine WL.pickT rfl rfl rfl ?_
                      refine WL.step ?_
                      refine WL.move rfl rfl ?_
                      refine WA.splitB (i := 96) rfl (fun g96 => ?_) (fun g96 => ?_)
                      · skip
                        refine WL.step (WL.guardT rfl rfl rfl ?_)
                        refine WL.move rfl rfl ?_
                        refine WL.step (WL.guardT rfl rfl rfl ?_)
                        refine WL.eqI rfl rfl rfl ?_
                        refine WL.step ?_
                        refine WL.pickT rfl rfl rfl ?_
                        refine WL.step ?_
                        refine WL.move rfl rfl ?_
                        refine WA.splitB (i := 100) rfl (fun g100 => ?_) (fun g100 => ?_)
                        · skip
                          refine WL.step (WL.guardT rfl rfl rfl ?_)
                          refine WL.fieldAddr0 F.fld43_0 rfl rfl ?_
                          refine WL.step (WL.guardT rfl rfl rfl ?_)
                          refine WL.loadP F.one4 rfl rfl (by repeat (first | exact List.Mem.head _ | apply List.Mem.tail)) rfl ?_
                          refine WL.step (WL.guardT rfl rfl rfl ?_)
                          refine WL.not rfl rfl ?_
                          refine WL.step ?_
                          refine WL.pickT rfl rfl rfl ?_
                          refine WL.step ?_
                          refine WL.move rfl rfl ?_
                          refine WA.splitB (i := 105) rfl (fun g105 => ?_) (fun g105 => ?_)
                          · skip
                            refine WL.step (WL.guardT rfl rfl rfl ?_)
                            refine WL.fieldAddr0 F.fld43_2 rfl rfl ?_
                            refine WL.step (WL.guardT rfl rfl rfl ?_)
                            refine WL.loadP F.one38 rfl rfl (by repeat (first | exact List.Mem.head _ | apply List.Mem.tail)) rfl ?_
                            refine WL.step (WL.guardT rfl rfl rfl ?_)
                            refine WL.lenSl F.und38 rfl rfl ?_
                            refine WL.step (WL.guardT rfl rfl rfl ?_)
                            refine WL.gtI rfl rfl rfl ?_
                            refine WL.step ?_
                            refine WL.pickT rfl rfl rfl ?_
                            refine WL.step ?_
                            refine WL.assign rfl rfl ?_
                            refine WL.nil ?_
                            refine WQ.then_normal ?_
                            refine WC.ret ?_
                            exact WQ.ret (rs := [.tmp 0]) rfl (.tmp rfl .nil) (fun w hS => ⟨rfl, hS.sublist (List.nil_sublist _)⟩)
                          · skip
                            exact absurd g105 (by decide)
                        · skip
                          exact absurd g100 (by decide)
                      · skip
                        exact absurd g96 (by decide)
                    · skip
                      exact absurd g91 (by decide)
                  · skip
                    exact absurd g87 (by decide)
                · skip
                  exact absurd g83 (by decide)
              · skip
                exact absurd g79 (by decide)
            · skip
              exact absurd g75 (by decide)
          · skip
            exact absurd g71 (by decide)
        · skip
          exact absurd g67 (by decide)
      · skip
        exact absurd g61 (by decide)
    · skip
      exact absurd g56 (by decide)
  · skip
    exact absurd g52 (by decide)

end Go.Proofs.Ytbippghgkbapnaa

namespace Go.Proofs.Ytbippghgkbapnaa
open Go Go.Eng Go.Proofs
theorem in_c (l : List Int) (x : Int) (a : Option Addr) (cap : Nat) (hlen : l.length ≤ 1099511627776) (w : World) (hr : RdC w l a) : Pure Try.prog 75 [.slice a l.length cap, .int .i64 x] w (.bool (l.contains x)) := by
  refine enter Try.func75 rfl Try.ntmps75 rfl (St.init _) ?_
  refine WC.seq ?_
  refine WC.region ?_
  refine WL.step ?_
  refine WL.assign rfl rfl ?_
  refine WL.nil ?_
  refine WQ.then_normal ?_
  refine WC.seq ?_
  refine WC.seq ?_
  refine WC.region ?_
  refine WL.step ?_
  refine WL.assign rfl rfl ?_
  refine WL.nil ?_
  refine WQ.then_normal ?_
  refine WC.block ?_
  refine WC.loop (α := Nat) (fun i => i ≤ l.length ∧ (l.take i).contains x = false) (fun i => [(0, .slice a l.length cap), (1, .int .i64 x), (5, .int .i64 (i : Int))]) (fun _ => []) (fun i => l.length - i) (0) ?_ ?_ ?_ ?_
  · exact ⟨Nat.zero_le _, rfl⟩
  · exact ⟨rfl, rfl, rfl, trivial⟩
  · rfl
  rintro i ⟨hi, hno⟩
  refine WC.seq ?_
  refine WC.seq ?_
  refine WC.region ?_
  refine WL.step ?_
  refine WL.move rfl rfl ?_
  refine WL.step ?_
  refine WL.move rfl rfl ?_
  refine WL.step ?_
  refine WL.lenSl F.und54 rfl rfl ?_
  refine WL.step ?_
  refine WL.ltI rfl rfl rfl ?_
  refine WL.nil ?_
  refine WQ.then_normal ?_
  refine WC.cond rfl (fun h9 => ?_) (fun h9 => ?_)
  · skip
    have hlt : i < l.length := by simpa using h9
    obtain ⟨y, hx⟩ : ∃ y, l[i]? = some y := ⟨_, List.getElem?_eq_getElem hlt⟩
    obtain ⟨b, off, rfl, hcell⟩ := hr i y hx
    refine WC.skip ?_
    refine WQ.then_normal ?_
    refine WC.seq ?_
    refine WC.block ?_
    refine WC.seq ?_
    refine WC.region ?_
    refine WL.step ?_
    refine WL.move rfl rfl ?_
    refine WL.step ?_
    refine WL.move rfl rfl ?_
    refine WL.step ?_
    refine WL.indexAddr F.sl54 rfl rfl rfl hlt ?_
    refine WL.step ?_
    refine WL.load1 F.one3 rfl rfl (v := .int .i64 y) (fun w hS => hS.oldc (by simpa using hcell) (by simp)) ?_
    refine WL.step ?_
    refine WL.move rfl rfl ?_
    refine WL.step ?_
    refine WL.eqI rfl rfl rfl ?_
    refine WL.nil ?_
    refine WQ.then_normal ?_
    refine WC.cond rfl (fun h17 => ?_) (fun h17 => ?_)
    · skip
      have hyx : y = x := by simpa using h17
      have hres : l.contains x = true := by rw [List.contains_iff_mem, ← hyx]; exact List.mem_of_getElem? hx
      refine WC.seq ?_
      refine WC.region ?_
      refine WL.step ?_
      refine WL.assign rfl rfl ?_
      refine WL.nil ?_
      refine WQ.then_normal ?_
      refine WC.ret ?_
      refine WQ.block_ret ?_
      refine WQ.then_ret ?_
      refine WQ.then_ret ?_
      refine WQ.block_ret ?_
      refine WQ.then_ret ?_
      exact WQ.ret (rs := [.tmp 4]) rfl (.tmp rfl .nil) (fun w hS => ⟨by rw [hres]; rfl, hS⟩)
    · skip
      refine WC.skip ?_
      refine WQ.block_normal ?_
      refine WQ.then_normal ?_
      refine WC.region ?_
      refine WL.step ?_
      refine WL.move rfl rfl ?_
      refine WL.step ?_
      refine WL.add rfl rfl rfl ⟨by omega, by omega⟩ ?_
      refine WL.step ?_
      refine WL.assign rfl rfl ?_
      refine WL.nil ?_
      refine WQ.back (i + 1) ?_ ?_ ?_ ?_
      · exact ⟨by omega, by rw [List.take_add_one, hx]; simp at hno h17 ⊢; exact ⟨hno, by omega⟩⟩
      · omega
      · exact ⟨rfl, rfl, rfl, trivial⟩
      · rfl
  · skip
    have hie : i = l.length := by simp at h9; omega
    subst hie
    rw [List.take_length] at hno
    refine WC.exit ?_
    refine WQ.then_exit ?_
    refine WQ.then_exit ?_
    refine WQ.block_exit ?_
    refine WQ.then_normal ?_
    refine WC.seq ?_
    refine WC.region ?_
    refine WL.step ?_
    refine WL.assign rfl rfl ?_
    refine WL.nil ?_
    refine WQ.then_normal ?_
    refine WC.ret ?_
    exact WQ.ret (rs := [.tmp 4]) rfl (.tmp rfl .nil) (fun w hS => ⟨by rw [hno]; rfl, hS⟩)

theorem rfits_c (n : Int) (l : List Int) (a : Option Addr) (cap : Nat) (hn : -1000 ≤ n ∧ n ≤ 1000) (hlen : l.length ≤ 1099511627776) (w : World) (hr : RdC w l a) : Pure Try.prog 66 [.int .i64 n, .slice a l.length cap] w (.bool (Fm.fitsB n l)) := by
  refine enter Try.func66 rfl Try.ntmps66 rfl (St.init _) ?_
  refine WC.seq ?_
  refine WC.region ?_
  refine WL.step ?_
  refine WL.assign rfl rfl ?_
  refine WL.nil ?_
  refine WQ.then_normal ?_
  refine WC.seq ?_
  refine WC.seq ?_
  refine WC.region ?_
  refine WL.step ?_
  refine WL.assign rfl rfl ?_
  refine WL.nil ?_
  refine WQ.then_normal ?_
  refine WC.block ?_
  refine WC.loop (α := Nat) (fun i => i ≤ l.length ∧ (l.take i).all (Fm.litB n) = true) (fun i => [(0, .int .i64 n), (1, .slice a l.length cap), (5, .int .i64 (i : Int))]) (fun _ => []) (fun i => l.length - i) (0) ?_ ?_ ?_ ?_
  · exact ⟨Nat.zero_le _, rfl⟩
  · exact ⟨rfl, rfl, rfl, trivial⟩
  · rfl
  rintro i ⟨hi, hal⟩
  refine WC.seq ?_
  refine WC.seq ?_
  refine WC.region ?_
  refine WL.step ?_
  refine WL.move rfl rfl ?_
  refine WL.step ?_
  refine WL.move rfl rfl ?_
  refine WL.step ?_
  refine WL.lenSl F.und54 rfl rfl ?_
  refine WL.step ?_
  refine WL.ltI rfl rfl rfl ?_
  refine WL.nil ?_
  refine WQ.then_normal ?_
  refine WC.cond rfl (fun h9 => ?_) (fun h9 => ?_)
  · skip
    have hlt : i < l.length := by simpa using h9
    obtain ⟨y, hx⟩ : ∃ y, l[i]? = some y := ⟨_, List.getElem?_eq_getElem hlt⟩
    obtain ⟨b, off, rfl, hcell⟩ := hr i y hx
    refine WC.skip ?_
    refine WQ.then_normal ?_
    refine WC.seq ?_
    refine WC.block ?_
    refine WC.seq ?_
    refine WC.cutF [(33, .bool (!Fm.litB n y)), (0, .int .i64 n), (1, .slice (some ⟨b, off, none⟩) l.length cap), (5, .int .i64 (i : Int))] (fun Q' hQ => ?_) ?_
    · skip
      refine WC.region ?_
      refine WL.step ?_
      refine WL.move rfl rfl ?_
      refine WL.step ?_
      refine WL.move rfl rfl ?_
      refine WL.step ?_
      refine WL.indexAddr F.sl54 rfl rfl rfl hlt ?_
      refine WL.step ?_
      refine WL.load1 F.one3 rfl rfl (v := .int .i64 y) (fun w hS => hS.oldc (by simpa using hcell) (by simp)) ?_
      refine WL.step ?_
      refine WL.eqI rfl rfl rfl ?_
      refine WL.step ?_
      refine WL.move rfl rfl ?_
      refine WA.splitB (i := 17) rfl (fun g17 => ?_) (fun g17 => ?_)
      · skip
        refine WL.step (WL.guardF rfl rfl rfl rfl rfl rfl ?_)
        refine WL.step (WL.guardF rfl rfl rfl rfl rfl rfl ?_)
        refine WL.step (WL.guardF rfl rfl rfl rfl rfl rfl ?_)
        refine WL.step (WL.guardF rfl rfl rfl rfl rfl rfl ?_)
        refine WL.step (WL.guardF rfl rfl rfl rfl rfl rfl ?_)
        refine WL.step (WL.guardF rfl rfl rfl rfl rfl rfl ?_)
        refine WL.step (WL.guardF rfl rfl rfl rfl rfl rfl ?_)
        refine WL.step ?_
        refine WL.pickT rfl rfl rfl ?_
        refine WL.step ?_
        refine WL.move rfl rfl ?_
        refine WL.step (WL.guardF rfl rfl rfl rfl rfl rfl ?_)
        refine WL.step (WL.guardF rfl rfl rfl rfl rfl rfl ?_)
        refine WL.step (WL.guardF rfl rfl rfl rfl rfl rfl ?_)
        refine WL.step (WL.guardF rfl rfl rfl rfl rfl rfl ?_)
        refine WL.step (WL.guardF rfl rfl rfl rfl rfl rfl ?_)
        refine WL.step (WL.guardF rfl rfl rfl rfl rfl rfl ?_)
        refine WL.step ?_
        refine WL.pickT rfl rfl rfl ?_
        refine WL.nil ?_
        refine WQ.byCut hQ (subF_bool ?_ ⟨rfl, rfl, rfl, trivial⟩ rfl)
        unfold Fm.litB
        first | (simp_all; done) | (rw [Bool.eq_iff_iff]; simp at *; omega) | (simp_all; omega)
      · skip
        refine WL.step (WL.guardT rfl rfl rfl ?_)
        refine WL.move rfl rfl ?_
        refine WL.step (WL.guardT rfl rfl rfl ?_)
        refine WL.move rfl rfl ?_
        refine WL.step (WL.guardT rfl rfl rfl ?_)
        refine WL.indexAddr F.sl54 rfl rfl rfl hlt ?_
        refine WL.step (WL.guardT rfl rfl rfl ?_)
        refine WL.load1 F.one3 rfl rfl (v := .int .i64 y) (fun w hS => hS.oldc (by simpa using hcell) (by simp)) ?_
        refine WL.step (WL.guardT rfl rfl rfl ?_)
        refine WL.move rfl rfl ?_
        refine WL.step (WL.guardT rfl rfl rfl ?_)
        refine WL.negI rfl rfl (by omega) ?_
        refine WL.step (WL.guardT rfl rfl rfl ?_)
        refine WL.ltI rfl rfl rfl ?_
        refine WL.step ?_
        refine WL.pickF rfl rfl rfl ?_
        refine WL.step ?_
        refine WL.move rfl rfl ?_
        refine WA.splitB (i := 26) rfl (fun g26 => ?_) (fun g26 => ?_)
        · skip
          refine WL.step (WL.guardF rfl rfl rfl rfl rfl rfl ?_)
          refine WL.step (WL.guardF rfl rfl rfl rfl rfl rfl ?_)
          refine WL.step (WL.guardF rfl rfl rfl rfl rfl rfl ?_)
          refine WL.step (WL.guardF rfl rfl rfl rfl rfl rfl ?_)
          refine WL.step (WL.guardF rfl rfl rfl rfl rfl rfl ?_)
          refine WL.step (WL.guardF rfl rfl rfl rfl rfl rfl ?_)
          refine WL.step ?_
          refine WL.pickT rfl rfl rfl ?_
          refine WL.nil ?_
          refine WQ.byCut hQ (subF_bool ?_ ⟨rfl, rfl, rfl, trivial⟩ rfl)
          unfold Fm.litB
          first | (simp_all; done) | (rw [Bool.eq_iff_iff]; simp at *; omega) | (simp_all; omega)
        · skip
          refine WL.step (WL.guardT rfl rfl rfl ?_)
          refine WL.move rfl rfl ?_
          refine WL.step (WL.guardT rfl rfl rfl ?_)
          refine WL.move rfl rfl ?_
          refine WL.step (WL.guardT rfl rfl rfl ?_)
          refine WL.indexAddr F.sl54 rfl rfl rfl hlt ?_
          refine WL.step (WL.guardT rfl rfl rfl ?_)
          refine WL.load1 F.one3 rfl rfl (v := .int .i64 y) (fun w hS => hS.oldc (by simpa using hcell) (by simp)) ?_
          refine WL.step (WL.guardT rfl rfl rfl ?_)
          refine WL.move rfl rfl ?_
          refine WL.step (WL.guardT rfl rfl rfl ?_)
          refine WL.gtI rfl rfl rfl ?_
          refine WL.step ?_
          refine WL.pickF rfl rfl rfl ?_
          refine WL.nil ?_
          refine WQ.byCut hQ (subF_bool ?_ ⟨rfl, rfl, rfl, trivial⟩ rfl)
          unfold Fm.litB
          first | (simp_all; done) | (rw [Bool.eq_iff_iff]; simp at *; omega) | (simp_all; omega)
    refine WQ.then_normal ?_
    refine WC.cond rfl (fun h33 => ?_) (fun h33 => ?_)
    · skip
      refine WC.seq ?_
      refine WC.region ?_
      refine WL.step ?_
      refine WL.assign rfl rfl ?_
      refine WL.nil ?_
      refine WQ.then_normal ?_
      refine WC.ret ?_
      refine WQ.block_ret ?_
      refine WQ.then_ret ?_
      refine WQ.then_ret ?_
      refine WQ.block_ret ?_
      refine WQ.then_ret ?_
      refine WQ.ret (rs := [.tmp 4]) rfl (.tmp rfl .nil) (fun w hS => ⟨?_, hS⟩)
      have h9 : l.all (Fm.litB n) = false := by rw [List.all_eq_false]; exact ⟨y, List.mem_of_getElem? hx, by simpa using h33⟩
      simp [tup, Fm.fitsB, h9]
    · skip
      refine WC.skip ?_
      refine WQ.block_normal ?_
      refine WQ.then_normal ?_
      refine WC.region ?_
      refine WL.step ?_
      refine WL.move rfl rfl ?_
      refine WL.step ?_
      refine WL.add rfl rfl rfl ⟨by omega, by omega⟩ ?_
      refine WL.step ?_
      refine WL.assign rfl rfl ?_
      refine WL.nil ?_
      refine WQ.back (i + 1) ?_ ?_ ?_ ?_
      · exact ⟨by omega, by rw [List.take_add_one, hx]; simp only [Option.toList, List.all_append, hal, List.all_cons, List.all_nil, Bool.true_and, Bool.and_true]; simpa using h33⟩
      · omega
      · exact ⟨rfl, rfl, rfl, trivial⟩
      · rfl
  · skip
    have hie : i = l.length := by simp at h9; omega
    subst hie
    rw [List.take_length] at hal
    refine WC.exit ?_
    refine WQ.then_exit ?_
    refine WQ.then_exit ?_
    refine WQ.block_exit ?_
    refine WQ.then_normal ?_
    refine WC.seq ?_
    refine WC.region ?_
    refine WL.step ?_
    refine WL.move rfl rfl ?_
    refine WL.step ?_
    refine WL.lenSl F.und54 rfl rfl ?_
    refine WL.step ?_
    refine WL.leI rfl rfl rfl ?_
    refine WL.step ?_
    refine WL.assign rfl rfl ?_
    refine WL.nil ?_
    refine WQ.then_normal ?_
    refine WC.ret ?_
    refine WQ.ret (rs := [.tmp 4]) rfl (.tmp rfl .nil) (fun w hS => ⟨?_, hS⟩)
    have h9 : decide ((l.length : Int) ≤ 64) = decide (l.length ≤ 64) := by rw [Bool.eq_iff_iff]; simp; omega
    simp [tup, Fm.fitsB, hal, h9]

theorem rclauses_c (n : Int) (ls : List (List Int)) (a : Option Addr) (cap : Nat) (us : List Value) (hll : ls.length ≤ 1099511627776) (hlens : ∀ c ∈ ls, c.length ≤ 1099511627776) (w : World) (hr : RdLL w ls a us) : Pure Try.prog 25 [.int .i64 n, .slice a ls.length cap] w (.int .i64 (Fm.mayE n ls)) := by
  refine enter Try.func25 rfl Try.ntmps25 rfl (St.init _) ?_
  refine WC.seq ?_
  refine WC.region ?_
  refine WL.step ?_
  refine WL.assign rfl rfl ?_
  refine WL.nil ?_
  refine WQ.then_normal ?_
  refine WC.seq ?_
  refine WC.seq ?_
  refine WC.region ?_
  refine WL.step ?_
  refine WL.move rfl rfl ?_
  refine WL.step ?_
  refine WL.ltI rfl rfl rfl ?_
  refine WL.step ?_
  refine WL.move rfl rfl ?_
  refine WA.splitB (i := 8) rfl (fun h8 => ?_) (fun h8 => ?_)
  · skip
    have hm : Fm.mayE n ls = 3 := by (unfold Fm.mayE; rw [if_pos]; left; simpa using h8)
    refine WL.step (WL.guardF rfl rfl rfl rfl rfl rfl ?_)
    refine WL.step (WL.guardF rfl rfl rfl rfl rfl rfl ?_)
    refine WL.step ?_
    refine WL.pickT rfl rfl rfl ?_
    refine WL.nil ?_
    refine WQ.then_normal ?_
    refine WC.condT rfl ?_
    refine WC.seq ?_
    refine WC.region ?_
    refine WL.step ?_
    refine WL.assign rfl rfl ?_
    refine WL.nil ?_
    refine WQ.then_normal ?_
    refine WC.ret ?_
    refine WQ.then_ret ?_
    exact WQ.ret (rs := [.tmp 4]) rfl (.tmp rfl .nil) (fun w hS => ⟨by rw [hm]; rfl, hS⟩)
  · skip
    refine WL.step (WL.guardT rfl rfl rfl ?_)
    refine WL.move rfl rfl ?_
    refine WL.step (WL.guardT rfl rfl rfl ?_)
    refine WL.gtI rfl rfl rfl ?_
    refine WL.step ?_
    refine WL.pickF rfl rfl rfl ?_
    refine WL.nil ?_
    refine WQ.then_normal ?_
    refine WC.cond rfl (fun h11 => ?_) (fun h11 => ?_)
    · skip
      have hm : Fm.mayE n ls = 3 := by (first | assumption | (unfold Fm.mayE; rw [if_pos]; right; simpa using h11))
      refine WC.seq ?_
      refine WC.region ?_
      refine WL.step ?_
      refine WL.assign rfl rfl ?_
      refine WL.nil ?_
      refine WQ.then_normal ?_
      refine WC.ret ?_
      refine WQ.then_ret ?_
      exact WQ.ret (rs := [.tmp 4]) rfl (.tmp rfl .nil) (fun w hS => ⟨by rw [hm]; rfl, hS⟩)
    · skip
      have hn0 : ¬ (n < 0 ∨ 24 < n) := by (simp at h8 h11; omega)
      have hnb : -1000 ≤ n ∧ n ≤ 1000 := by omega
      refine WC.skip ?_
      refine WQ.then_normal ?_
      refine WC.seq ?_
      refine WC.seq ?_
      refine WC.region ?_
      refine WL.step ?_
      refine WL.assign rfl rfl ?_
      refine WL.nil ?_
      refine WQ.then_normal ?_
      refine WC.block ?_
      refine WC.loop (α := Nat) (fun i => i ≤ ls.length ∧ (ls.take i).all (Fm.fitsB n) = true) (fun i => [(0, .int .i64 n), (1, .slice a ls.length cap), (5, .int .i64 (i : Int))]) (fun _ => []) (fun i => ls.length - i) (0) ?_ ?_ ?_ ?_
      · exact ⟨Nat.zero_le _, rfl⟩
      · exact ⟨rfl, rfl, rfl, trivial⟩
      · rfl
      rintro i ⟨hi, hno⟩
      refine WC.seq ?_
      refine WC.seq ?_
      refine WC.region ?_
      refine WL.step ?_
      refine WL.move rfl rfl ?_
      refine WL.step ?_
      refine WL.move rfl rfl ?_
      refine WL.step ?_
      refine WL.lenSl F.und38 rfl rfl ?_
      refine WL.step ?_
      refine WL.ltI rfl rfl rfl ?_
      refine WL.nil ?_
      refine WQ.then_normal ?_
      refine WC.cond rfl (fun h15 => ?_) (fun h15 => ?_)
      · skip
        have hlt : i < ls.length := by simpa using h15
        obtain ⟨c, b, off, a1, cap1, hc, rfl, hcell, hrc⟩ := hr.at hlt
        have hcl := hlens c (List.mem_of_getElem? hc)
        refine WC.skip ?_
        refine WQ.then_normal ?_
        refine WC.seq ?_
        refine WC.block ?_
        refine WC.seq ?_
        refine WC.region ?_
        refine WL.step ?_
        refine WL.move rfl rfl ?_
        refine WL.step ?_
        refine WL.move rfl rfl ?_
        refine WL.step ?_
        refine WL.move rfl rfl ?_
        refine WL.step ?_
        refine WL.indexAddr F.sl38 rfl rfl rfl hlt ?_
        refine WL.step ?_
        refine WL.load1 F.one54 rfl rfl (v := .slice a1 c.length cap1) (fun w hS => hS.oldc (by simpa using hcell) (by simp)) ?_
        refine WL.step ?_
        refine WL.callV F.fun66 rfl rfl (fun w hS => rfits_c n c a1 cap1 hnb hcl w (hrc.next hS)) ?_
        refine WL.step ?_
        refine WL.not rfl rfl ?_
        refine WL.nil ?_
        refine WQ.then_normal ?_
        refine WC.cond rfl (fun h24 => ?_) (fun h24 => ?_)
        · skip
          have hm : Fm.mayE n ls = 2 := by
            unfold Fm.mayE; rw [if_neg hn0]; split
            · rfl
            · rw [if_neg]
              rw [Bool.not_eq_true, List.all_eq_false]
              exact ⟨c, List.mem_of_getElem? hc, by simpa using h24⟩
          refine WC.seq ?_
          refine WC.region ?_
          refine WL.step ?_
          refine WL.assign rfl rfl ?_
          refine WL.nil ?_
          refine WQ.then_normal ?_
          refine WC.ret ?_
          refine WQ.block_ret ?_
          refine WQ.then_ret ?_
          refine WQ.then_ret ?_
          refine WQ.block_ret ?_
          refine WQ.then_ret ?_
          exact WQ.ret (rs := [.tmp 4]) rfl (.tmp rfl .nil) (fun w hS => ⟨by rw [hm]; rfl, hS⟩)
        · skip
          refine WC.skip ?_
          refine WQ.block_normal ?_
          refine WQ.then_normal ?_
          refine WC.region ?_
          refine WL.step ?_
          refine WL.move rfl rfl ?_
          refine WL.step ?_
          refine WL.add rfl rfl rfl ⟨by omega, by omega⟩ ?_
          refine WL.step ?_
          refine WL.assign rfl rfl ?_
          refine WL.nil ?_
          refine WQ.back (i + 1) ?_ ?_ ?_ ?_
          · exact ⟨by omega, by rw [List.take_add_one, hc]; simp only [Option.toList, List.all_append, hno, List.all_cons, List.all_nil]; simpa using h24⟩
          · omega
          · exact ⟨rfl, rfl, rfl, trivial⟩
          · rfl
      · skip
        have hie : i = ls.length := by simp at h15; omega
        subst hie
        rw [List.take_length] at hno
        refine WC.exit ?_
        refine WQ.then_exit ?_
        refine WQ.then_exit ?_
        refine WQ.block_exit ?_
        refine WQ.then_normal ?_
        refine WC.seq ?_
        refine WC.seq ?_
        refine WC.region ?_
        refine WL.step ?_
        refine WL.move rfl rfl ?_
        refine WL.step ?_
        refine WL.lenSl F.und38 rfl rfl ?_
        refine WL.step ?_
        refine WL.gtI rfl rfl rfl ?_
        refine WL.nil ?_
        refine WQ.then_normal ?_
        refine WC.cond rfl (fun h27 => ?_) (fun h27 => ?_)
        · skip
          have hm : Fm.mayE n ls = 2 := by (unfold Fm.mayE; rw [if_neg hn0, if_pos]; simp at h27; omega)
          refine WC.seq ?_
          refine WC.region ?_
          refine WL.step ?_
          refine WL.assign rfl rfl ?_
          refine WL.nil ?_
          refine WQ.then_normal ?_
          refine WC.ret ?_
          refine WQ.then_ret ?_
          exact WQ.ret (rs := [.tmp 4]) rfl (.tmp rfl .nil) (fun w hS => ⟨by rw [hm]; rfl, hS⟩)
        · skip
          have hm : Fm.mayE n ls = 0 := by (unfold Fm.mayE; rw [if_neg hn0, if_neg (by simp at h27; omega), if_pos hno])
          refine WC.skip ?_
          refine WQ.then_normal ?_
          refine WC.seq ?_
          refine WC.region ?_
          refine WL.step ?_
          refine WL.assign rfl rfl ?_
          refine WL.nil ?_
          refine WQ.then_normal ?_
          refine WC.ret ?_
          exact WQ.ret (rs := [.tmp 4]) rfl (.tmp rfl .nil) (fun w hS => ⟨by rw [hm]; rfl, hS⟩)

theorem neg_c (l : List Int) (a : Option Addr) (cap : Nat) (hlen : l.length ≤ 1099511627776) (hb : ∀ x ∈ l, -32 ≤ x ∧ x ≤ 32) (w : World) (hr : RdC w l a) :
    Calls Try.prog 69 [.slice a l.length cap].toArray w fun e w' => ∃ x : Option Addr × Nat, e = .returned (.slice x.1 l.length x.2) ∧ St w [] [rowc (.slice x.1 l.length x.2) l.length 3 1 ((List.map (fun x => -x) l).map (Value.int .i64))] w' := by
  refine enter Try.func69 rfl Try.ntmps69 rfl (St.init _) ?_
  refine WC.seq ?_
  refine WC.region ?_
  refine WL.step ?_
  refine WL.assign rfl rfl ?_
  refine WL.nil ?_
  refine WQ.then_normal ?_
  refine WC.seq ?_
  refine WC.region ?_
  refine WL.step ?_
  refine WL.assign rfl rfl ?_
  refine WL.nil ?_
  refine WQ.then_normal ?_
  refine WC.seq ?_
  refine WC.seq ?_
  refine WC.region ?_
  refine WL.step ?_
  refine WL.assign rfl rfl ?_
  refine WL.nil ?_
  refine WQ.then_normal ?_
  refine WC.block ?_
  refine WC.chunks (fun w hS => (hS.rowNil 3 1)) ?_
  refine WC.loop (α := Nat × Option Addr × Nat) (fun g => g.1 ≤ l.length) (fun g => [(0, .slice a l.length cap), (3, .slice g.2.1 g.1 g.2.2), (4, .int .i64 (g.1 : Int))]) (fun g => [rowc (.slice g.2.1 g.1 g.2.2) g.1 3 1 ((List.map (fun x => -x) (l.take g.1)).map (Value.int .i64))]) (fun g => l.length - g.1) ((0, none, 0)) ?_ ?_ ?_ ?_
  · exact Nat.zero_le _
  · exact ⟨rfl, rfl, rfl, trivial⟩
  · rfl
  rintro ⟨i, ad, ac⟩ hi
  dsimp only at hi
  show WC _ _ _ _ _ _ _ [(0, .slice a l.length cap), (3, .slice ad i ac), (4, .int .i64 (i : Int))] [rowc (.slice ad i ac) i 3 1 ((List.map (fun x => -x) (l.take i)).map (Value.int .i64))]
  refine WC.seq ?_
  refine WC.seq ?_
  refine WC.region ?_
  refine WL.step ?_
  refine WL.move rfl rfl ?_
  refine WL.step ?_
  refine WL.move rfl rfl ?_
  refine WL.step ?_
  refine WL.lenSl F.und54 rfl rfl ?_
  refine WL.step ?_
  refine WL.ltI rfl rfl rfl ?_
  refine WL.nil ?_
  refine WQ.then_normal ?_
  refine WC.cond rfl (fun h9 => ?_) (fun h9 => ?_)
  · skip
    have hlt : i < l.length := by simpa using h9
    obtain ⟨y, hx⟩ : ∃ y, l[i]? = some y := ⟨_, List.getElem?_eq_getElem hlt⟩
    obtain ⟨b, off, rfl, hcell⟩ := hr i y hx
    have hyb := hb y (List.mem_of_getElem? hx)
    refine WC.skip ?_
    refine WQ.then_normal ?_
    refine WC.seq ?_
    refine WC.block ?_
    refine WC.region ?_
    refine WL.step ?_
    refine WL.move rfl rfl ?_
    refine WL.step ?_
    refine WL.move rfl rfl ?_
    refine WL.step ?_
    refine WL.move rfl rfl ?_
    refine WL.step ?_
    refine WL.indexAddr F.sl54 rfl rfl rfl hlt ?_
    refine WL.step ?_
    refine WL.load1 F.one3 rfl rfl (v := .int .i64 y) (fun w hS => hS.oldc (by simpa using hcell) (by simp)) ?_
    refine WL.step ?_
    refine WL.negI rfl rfl (by omega) ?_
    refine WL.step ?_
    refine WL.buildSlice F.sl54 F.ez54 rfl rfl rfl rfl (by repeat (first | exact Built.nil | apply Built.one rfl rfl (by repeat constructor) | apply Built.agg rfl rfl (by repeat constructor))) rfl (fun b17 => ?_)
    refine WL.step ?_
    refine WL.appendE (news := [.int .i64 (-y)]) F.el54 rfl rfl rfl (by repeat (first | exact Rem.here | apply Rem.there)) (fun w hS j u hu => by rw [Nat.zero_add]; exact hS.cell (cs := [.int .i64 (-y)]) (by repeat (first | exact List.Mem.head _ | apply List.Mem.tail)) hu) rfl (by simp [Value.oneCell']) (Nat.le_trans (m := 2199023255552) (by omega) (by decide)) (by omega) (fun ad2 ac2 => ?_)
    refine WL.step ?_
    refine WL.assign rfl rfl ?_
    refine WL.nil ?_
    refine WQ.block_normal ?_
    refine WQ.then_normal ?_
    refine WC.region ?_
    refine WL.step ?_
    refine WL.move rfl rfl ?_
    refine WL.step ?_
    refine WL.add rfl rfl rfl ⟨by omega, by omega⟩ ?_
    refine WL.step ?_
    refine WL.assign rfl rfl ?_
    refine WL.nil ?_
    refine WQ.chunks (C' := [rowc (.slice ad2 (i + 1) ac2) (i + 1) 3 1 ((List.map (fun x => -x) (l.take (i + 1))).map (Value.int .i64))]) (fun w hS => ?_) ?_
    · have e : (List.map (fun x => -x) (l.take (i + 1))).map (Value.int .i64) = (List.map (fun x => -x) (l.take i)).map (Value.int .i64) ++ [.int .i64 (-y)] := by rw [List.take_add_one, hx]; simp
      rw [e]
      exact ((St.pick hS (c := rowc (.slice ad2 (i + 1) ac2) (i + 1) 3 1 ((List.map (fun x => -x) (l.take i)).map (Value.int .i64) ++ [.int .i64 (-y)])) (by repeat (first | exact Rem.here | apply Rem.there)))).sublist (List.Sublist.cons_cons _ (List.nil_sublist _))
    refine WQ.back ((i + 1, ad2, ac2)) ?_ ?_ ?_ ?_
    · exact (show i + 1 ≤ l.length by omega)
    · (show l.length - (i + 1) < l.length - i; omega)
    · exact ⟨rfl, rfl, rfl, trivial⟩
    · rfl
  · skip
    have hie : i = l.length := by simp at h9; omega
    subst hie
    rw [List.take_length]
    refine WC.exit ?_
    refine WQ.then_exit ?_
    refine WQ.then_exit ?_
    refine WQ.block_exit ?_
    refine WQ.then_normal ?_
    refine WC.seq ?_
    refine WC.region ?_
    refine WL.step ?_
    refine WL.move rfl rfl ?_
    refine WL.step ?_
    refine WL.assign rfl rfl ?_
    refine WL.nil ?_
    refine WQ.then_normal ?_
    refine WC.ret ?_
    exact WQ.ret (rs := [.tmp 2]) rfl (.tmp rfl .nil) (fun w hS => ⟨(ad, ac), rfl, hS⟩)

end Go.Proofs.Ytbippghgkbapnaa

namespace Go.Proofs.Ytbippghgkbapnaa
open Go Go.Eng Go.Proofs
theorem openL_step {c out : List Int} {x : Int} (hx : -32 ≤ x ∧ x ≤ 32) : (Fm.stepL c out x).length + Fm.openL (Fm.stepL c out x) ≤ out.length + Fm.openL out := by
  unfold Fm.stepL
  split
  · rename_i ha
    have hxo : out.contains x = false := by
      simp only [Fm.aloneB, Bool.and_eq_true, Bool.not_eq_true'] at ha
      exact ha.1
    have h1 : Fm.openL (out ++ [x]) < Fm.openL out := Fm.filter_lt (fun z h => by simp at h ⊢; exact h.1) (x := x) (by simpa using hxo) (by simp) (Fm.mem_Rg.2 hx)
    simp only [List.length_append, List.length_cons, List.length_nil]; omega
  · exact Nat.le_refl _
theorem foldl_drop {c out : List Int} {k : Nat} {x : Int} (h : c[k]? = some x) : (c.drop k).foldl (Fm.stepL c) out = (c.drop (k + 1)).foldl (Fm.stepL c) (Fm.stepL c out x) := by
  obtain ⟨hk, he⟩ := List.getElem?_eq_some_iff.1 h
  rw [List.drop_eq_getElem_cons hk, he, List.foldl_cons]
theorem pass_drop {ls : List (List Int)} {out c : List Int} {i : Nat} (h : ls[i]? = some c) : Fm.consPass (ls.drop i) out = Fm.consPass (ls.drop (i + 1)) (Fm.passC out c) := by
  obtain ⟨hk, he⟩ := List.getElem?_eq_some_iff.1 h
  rw [List.drop_eq_getElem_cons hk, he]; rfl
theorem all_drop {c : List Int} {q : Int → Bool} {m : Nat} {y : Int} (h : c[m]? = some y) : (c.drop m).all q = (q y && (c.drop (m + 1)).all q) := by
  obtain ⟨hk, he⟩ := List.getElem?_eq_some_iff.1 h
  rw [List.drop_eq_getElem_cons hk, he, List.all_cons]

structure C1 where
  f : Nat
  out : List Int
  ad : Option Addr
  ac : Nat
structure C2 where
  i : Nat
  out : List Int
  ad : Option Addr
  ac : Nat
structure C3 where
  k : Nat
  out : List Int
  ad : Option Addr
  ac : Nat

theorem cons_c (ls : List (List Int)) (fixed o : List Int) (a a2 : Option Addr) (cap cap2 : Nat) (us : List Value) (hll : ls.length ≤ 1099511627776) (hfl : fixed.length ≤ 1099511627000) (hlens : ∀ c ∈ ls, c.length ≤ 1099511627776) (hbd : ∀ c ∈ ls, ∀ x ∈ c, x ≠ 0 ∧ -32 ≤ x ∧ x ≤ 32)
    (f : Nat) (w : World) (hr : RdLL w ls a us) (hr2 : RdC w fixed a2) (h : Fm.consF f ls fixed = some o) :
    Calls Try.prog 74 [.slice a ls.length cap, .slice a2 fixed.length cap2].toArray w fun e w' => ∃ x : Option Addr × Nat, e = .returned (.slice x.1 o.length x.2) ∧ St w [] [rowc (.slice x.1 o.length x.2) o.length 3 1 (o.map (Value.int .i64))] w' := by
  refine enter Try.func74 rfl Try.ntmps74 rfl (St.init _) ?_
  refine WC.seq ?_
  refine WC.region ?_
  refine WL.step ?_
  refine WL.assign rfl rfl ?_
  refine WL.nil ?_
  refine WQ.then_normal ?_
  refine WC.seq ?_
  refine WC.region ?_
  refine WL.step ?_
  refine WL.move rfl rfl ?_
  refine WA.chunks (fun w hS => (hS.rowNil 3 1)) ?_
  refine WL.step ?_
  refine WL.appendC (n := 0) (v := .slice none 0 0) (xs := []) (news := fixed.map (Value.int .i64)) F.el54 rfl rfl rfl (by repeat (first | exact Rem.here | apply Rem.there)) (fun w hS hm => (hr2.next hS).news hm) (by simp) (ints_one _) (Nat.le_trans (m := 1099511627776) (by omega) (by decide)) (by omega) (fun ad0 ac0 => ?_)
  rw [Nat.zero_add, List.nil_append]
  refine WL.step ?_
  refine WL.assign rfl rfl ?_
  refine WL.nil ?_
  refine WQ.then_normal ?_
  refine WC.block ?_
  refine WC.loop (α := C1) (fun g => Fm.consF g.f ls g.out = some o ∧ g.out.length + Fm.openL g.out ≤ fixed.length + 65) (fun g => [(0, .slice a ls.length cap), (5, .slice g.ad g.out.length g.ac)]) (fun g => [rowc (.slice g.ad g.out.length g.ac) g.out.length 3 1 (g.out.map (Value.int .i64))]) (fun g => g.f) (⟨f, fixed, ad0, ac0⟩) ?_ ?_ ?_ ?_
  · exact ⟨h, by have := Fm.openC_le (fun z => !fixed.contains z); show fixed.length + Fm.openL fixed ≤ _; unfold Fm.openL; omega⟩
  · exact ⟨rfl, rfl, trivial⟩
  · rfl
  rintro ⟨f, out0, ad0, ac0⟩ ⟨hcf, hb0⟩
  dsimp only at hcf hb0
  show WC _ _ _ _ _ _ _ [(0, .slice a ls.length cap), (5, .slice ad0 out0.length ac0)] [rowc (.slice ad0 out0.length ac0) out0.length 3 1 (out0.map (Value.int .i64))]
  obtain ⟨f, rfl⟩ : ∃ f2, f = f2 + 1 := by cases f with | zero => simp [Fm.consF] at hcf | succ f => exact ⟨f, rfl⟩
  simp only [Fm.consF] at hcf
  refine WC.block ?_
  refine WC.seq ?_
  refine WC.region ?_
  refine WL.step ?_
  refine WL.move rfl rfl ?_
  refine WL.step ?_
  refine WL.lenSl F.und54 rfl rfl ?_
  refine WL.step ?_
  refine WL.assign rfl rfl ?_
  refine WL.nil ?_
  refine WQ.then_normal ?_
  refine WC.seq ?_
  refine WC.seq ?_
  refine WC.region ?_
  refine WL.step ?_
  refine WL.assign rfl rfl ?_
  refine WL.nil ?_
  refine WQ.then_normal ?_
  refine WC.block ?_
  refine WC.loop (α := C2) (fun g => g.i ≤ ls.length ∧ Fm.consPass (ls.drop g.i) g.out = Fm.consPass ls out0 ∧ g.out.length + Fm.openL g.out ≤ fixed.length + 65) (fun g => [(0, .slice a ls.length cap), (5, .slice g.ad g.out.length g.ac), (6, .int .i64 (out0.length : Int)), (7, .int .i64 (g.i : Int))]) (fun g => [rowc (.slice g.ad g.out.length g.ac) g.out.length 3 1 (g.out.map (Value.int .i64))]) (fun g => ls.length - g.i) (⟨0, out0, ad0, ac0⟩) ?_ ?_ ?_ ?_
  · exact ⟨Nat.zero_le _, rfl, hb0⟩
  · exact ⟨rfl, rfl, rfl, rfl, trivial⟩
  · rfl
  rintro ⟨i, out, ad, ac⟩ ⟨hi, hcp, hb1⟩
  dsimp only at hi hcp hb1
  show WC _ _ _ _ _ _ _ [(0, .slice a ls.length cap), (5, .slice ad out.length ac), (6, .int .i64 (out0.length : Int)), (7, .int .i64 (i : Int))] [rowc (.slice ad out.length ac) out.length 3 1 (out.map (Value.int .i64))]
  refine WC.seq ?_
  refine WC.seq ?_
  refine WC.region ?_
  refine WL.step ?_
  refine WL.move rfl rfl ?_
  refine WL.step ?_
  refine WL.move rfl rfl ?_
  refine WL.step ?_
  refine WL.lenSl F.und38 rfl rfl ?_
  refine WL.step ?_
  refine WL.ltI rfl rfl rfl ?_
  refine WL.nil ?_
  refine WQ.then_normal ?_
  refine WC.cond rfl (fun h19 => ?_) (fun h19 => ?_)
  · skip
    have hlt : i < ls.length := by simpa using h19
    obtain ⟨c, b, off, a1, cap1, hc, rfl, hcell, hrc⟩ := hr.at hlt
    have hcb := hbd c (List.mem_of_getElem? hc)
    have hcl := hlens c (List.mem_of_getElem? hc)
    refine WC.skip ?_
    refine WQ.then_normal ?_
    refine WC.seq ?_
    refine WC.block ?_
    refine WC.seq ?_
    refine WC.region ?_
    refine WL.step ?_
    refine WL.assign rfl rfl ?_
    refine WL.nil ?_
    refine WQ.then_normal ?_
    refine WC.block ?_
    obtain ⟨out1, hout1⟩ : ∃ z, z = out := ⟨_, rfl⟩
    have hcp : Fm.consPass (ls.drop i) out1 = Fm.consPass ls out0 := by rw [hout1]; exact hcp
    refine WC.loop (α := C3) (fun g => g.k ≤ c.length ∧ (c.drop g.k).foldl (Fm.stepL c) g.out = Fm.passC out1 c ∧ g.out.length + Fm.openL g.out ≤ fixed.length + 65) (fun g => [(0, .slice (some ⟨b, off, none⟩) ls.length cap), (5, .slice g.ad g.out.length g.ac), (6, .int .i64 (out0.length : Int)), (7, .int .i64 (i : Int)), (8, .int .i64 (g.k : Int))]) (fun g => [rowc (.slice g.ad g.out.length g.ac) g.out.length 3 1 (g.out.map (Value.int .i64))]) (fun g => c.length - g.k) (⟨0, out, ad, ac⟩) ?_ ?_ ?_ ?_
    · exact ⟨Nat.zero_le _, by rw [hout1]; rfl, hb1⟩
    · exact ⟨rfl, rfl, rfl, rfl, rfl, trivial⟩
    · rfl
    rintro ⟨k, out, ad, ac⟩ ⟨hk, hfo, hb2⟩
    dsimp only at hk hfo hb2
    show WC _ _ _ _ _ _ _ [(0, .slice (some ⟨b, off, none⟩) ls.length cap), (5, .slice ad out.length ac), (6, .int .i64 (out0.length : Int)), (7, .int .i64 (i : Int)), (8, .int .i64 (k : Int))] [rowc (.slice ad out.length ac) out.length 3 1 (out.map (Value.int .i64))]
    refine WC.seq ?_
    refine WC.seq ?_
    refine WC.region ?_
    refine WL.step ?_
    refine WL.move rfl rfl ?_
    refine WL.step ?_
    refine WL.move rfl rfl ?_
    refine WL.step ?_
    refine WL.move rfl rfl ?_
    refine WL.step ?_
    refine WL.indexAddr F.sl38 rfl rfl rfl hlt ?_
    refine WL.step ?_
    refine WL.load1 F.one54 rfl rfl (v := .slice a1 c.length cap1) (fun w hS => hS.oldc (by simpa using hcell) (by simp)) ?_
    refine WL.step ?_
    refine WL.lenSl F.und54 rfl rfl ?_
    refine WL.step ?_
    refine WL.ltI rfl rfl rfl ?_
    refine WL.nil ?_
    refine WQ.then_normal ?_
    refine WC.cond rfl (fun h28 => ?_) (fun h28 => ?_)
    · skip
      have hklt : k < c.length := by simpa using h28
      obtain ⟨x, hx⟩ : ∃ y, c[k]? = some y := ⟨_, List.getElem?_eq_getElem hklt⟩
      obtain ⟨b2, off2, ha1, hcell2⟩ := hrc k x hx
      refine WC.skip ?_
      refine WQ.then_normal ?_
      refine WC.seq ?_
      refine WC.block ?_
      refine WC.seq ?_
      refine WC.region ?_
      refine WL.step ?_
      refine WL.move rfl rfl ?_
      refine WL.step ?_
      refine WL.move rfl rfl ?_
      refine WL.step ?_
      refine WL.indexAddr F.sl38 rfl rfl rfl hlt ?_
      refine WL.step ?_
      refine WL.load1 F.one54 rfl rfl (v := .slice (some ⟨b2, off2, none⟩) c.length cap1) (fun w hS => by rw [← ha1]; exact hS.oldc (by simpa using hcell) (by simp)) ?_
      refine WL.step ?_
      refine WL.move rfl rfl ?_
      refine WL.step ?_
      refine WL.indexAddr F.sl54 rfl rfl rfl hklt ?_
      refine WL.step ?_
      refine WL.load1 F.one3 rfl rfl (v := .int .i64 x) (fun w hS => hS.oldc (by simpa using hcell2) (by simp)) ?_
      refine WL.step ?_
      refine WL.assign rfl rfl ?_
      refine WL.nil ?_
      refine WQ.then_normal ?_
      refine WC.seq ?_
      refine WC.region ?_
      refine WL.step ?_
      refine WL.move rfl rfl ?_
      refine WL.step ?_
      refine WL.move rfl rfl ?_
      refine WL.step ?_
      refine WL.callV F.fun75 rfl rfl (fun w hS => in_c out x ad ac (by omega) w (RdC.of_row rfl (hS.ok (rowc (.slice ad out.length ac) out.length 3 1 (out.map (Value.int .i64))) (by repeat (first | exact List.Mem.head _ | apply List.Mem.tail))))) ?_
      refine WL.step ?_
      refine WL.not rfl rfl ?_
      refine WL.step ?_
      refine WL.assign rfl rfl ?_
      refine WL.nil ?_
      refine WQ.then_normal ?_
      refine WC.seq ?_
      refine WC.seq ?_
      refine WC.region ?_
      refine WL.step ?_
      refine WL.assign rfl rfl ?_
      refine WL.nil ?_
      refine WQ.then_normal ?_
      refine WC.block ?_
      refine WC.loop (α := Nat × Bool) (fun g => g.1 ≤ c.length ∧ (g.2 && (c.drop g.1).all (fun m => m == x || out.contains (-m))) = Fm.aloneB c out x) (fun g => [(0, .slice (some ⟨b, off, none⟩) ls.length cap), (5, .slice ad out.length ac), (6, .int .i64 (out0.length : Int)), (7, .int .i64 (i : Int)), (8, .int .i64 (k : Int)), (9, .int .i64 x), (10, .bool g.2), (11, .int .i64 (g.1 : Int))]) (fun _ => [rowc (.slice ad out.length ac) out.length 3 1 (out.map (Value.int .i64))]) (fun g => c.length - g.1) ((0, !out.contains x)) ?_ ?_ ?_ ?_
      · exact ⟨Nat.zero_le _, rfl⟩
      · exact ⟨rfl, rfl, rfl, rfl, rfl, rfl, rfl, rfl, trivial⟩
      · rfl
      rintro ⟨m, al⟩ ⟨hm, hal⟩
      dsimp only at hm hal
      show WC _ _ _ _ _ _ _ [(0, .slice (some ⟨b, off, none⟩) ls.length cap), (5, .slice ad out.length ac), (6, .int .i64 (out0.length : Int)), (7, .int .i64 (i : Int)), (8, .int .i64 (k : Int)), (9, .int .i64 x), (10, .bool al), (11, .int .i64 (m : Int))] [rowc (.slice ad out.length ac) out.length 3 1 (out.map (Value.int .i64))]
      refine WC.seq ?_
      refine WC.seq ?_
      refine WC.cutF [(51, .bool (decide (m < c.length) && al)), (0, .slice (some ⟨b, off, none⟩) ls.length cap), (5, .slice ad out.length ac), (6, .int .i64 (out0.length : Int)), (7, .int .i64 (i : Int)), (8, .int .i64 (k : Int)), (9, .int .i64 x), (10, .bool al), (11, .int .i64 (m : Int))] (fun Q' hQ => ?_) ?_
      · skip
        refine WC.region ?_
        refine WL.step ?_
        refine WL.move rfl rfl ?_
        refine WL.step ?_
        refine WL.move rfl rfl ?_
        refine WL.step ?_
        refine WL.move rfl rfl ?_
        refine WL.step ?_
        refine WL.indexAddr F.sl38 rfl rfl rfl hlt ?_
        refine WL.step ?_
        refine WL.load1 F.one54 rfl rfl (v := .slice (some ⟨b2, off2, none⟩) c.length cap1) (fun w hS => by rw [← ha1]; exact hS.oldc (by simpa using hcell) (by simp)) ?_
        refine WL.step ?_
        refine WL.lenSl F.und54 rfl rfl ?_
        refine WL.step ?_
        refine WL.ltI rfl rfl rfl ?_
        refine WL.step ?_
        refine WL.move rfl rfl ?_
        refine WA.splitB (i := 49) rfl (fun g49 => ?_) (fun g49 => ?_)
        · skip
          refine WL.step (WL.guardT rfl rfl rfl ?_)
          refine WL.move rfl rfl ?_
          refine WL.step ?_
          refine WL.pickT rfl rfl rfl ?_
          refine WL.nil ?_
          refine WQ.byCut hQ (subF_bool ?_ ⟨rfl, rfl, rfl, rfl, rfl, rfl, rfl, rfl, trivial⟩ rfl)
          have e : decide ((m : Int) < (c.length : Int)) = decide (m < c.length) := by rw [Bool.eq_iff_iff]; simp
          first | (rw [← e, g49, Bool.true_and]) | (rw [← e, g49, Bool.false_and])
        · skip
          refine WL.step (WL.guardF rfl rfl rfl rfl rfl rfl ?_)
          refine WL.step ?_
          refine WL.pickF rfl rfl rfl ?_
          refine WL.nil ?_
          refine WQ.byCut hQ (subF_bool ?_ ⟨rfl, rfl, rfl, rfl, rfl, rfl, rfl, rfl, trivial⟩ rfl)
          have e : decide ((m : Int) < (c.length : Int)) = decide (m < c.length) := by rw [Bool.eq_iff_iff]; simp
          first | (rw [← e, g49, Bool.true_and]) | (rw [← e, g49, Bool.false_and])
      refine WQ.then_normal ?_
      refine WC.cond rfl (fun h51 => ?_) (fun h51 => ?_)
      · skip
        have hmt : m < c.length ∧ al = true := by simpa using h51
        obtain ⟨y, hy⟩ : ∃ y, c[m]? = some y := ⟨_, List.getElem?_eq_getElem hmt.1⟩
        obtain ⟨b3, off3, ha3, hcell3⟩ := hrc m y hy
        rw [ha1] at ha3
        injection ha3 with ha3
        injection ha3 with e1 e2
        subst e1; subst e2
        have hyb := (hcb y (List.mem_of_getElem? hy)).2
        refine WC.skip ?_
        refine WQ.then_normal ?_
        refine WC.seq ?_
        refine WC.block ?_
        refine WC.cutF [(10, .bool (y == x || out.contains (-y))), (0, .slice (some ⟨b, off, none⟩) ls.length cap), (5, .slice ad out.length ac), (6, .int .i64 (out0.length : Int)), (7, .int .i64 (i : Int)), (8, .int .i64 (k : Int)), (9, .int .i64 x), (11, .int .i64 (m : Int))] (fun Q' hQ => ?_) ?_
        · skip
          refine WC.region ?_
          refine WL.step ?_
          refine WL.move rfl rfl ?_
          refine WL.step ?_
          refine WL.move rfl rfl ?_
          refine WL.step ?_
          refine WL.indexAddr F.sl38 rfl rfl rfl hlt ?_
          refine WL.step ?_
          refine WL.load1 F.one54 rfl rfl (v := .slice (some ⟨b2, off2, none⟩) c.length cap1) (fun w hS => by rw [← ha1]; exact hS.oldc (by simpa using hcell) (by simp)) ?_
          refine WL.step ?_
          refine WL.move rfl rfl ?_
          refine WL.step ?_
          refine WL.indexAddr F.sl54 rfl rfl rfl hmt.1 ?_
          refine WL.step ?_
          refine WL.load1 F.one3 rfl rfl (v := .int .i64 y) (fun w hS => hS.oldc (by simpa using hcell3) (by simp)) ?_
          refine WL.step ?_
          refine WL.move rfl rfl ?_
          refine WL.step ?_
          refine WL.eqI rfl rfl rfl ?_
          refine WL.step ?_
          refine WL.move rfl rfl ?_
          refine WA.splitB (i := 63) rfl (fun g63 => ?_) (fun g63 => ?_)
          · skip
            refine WL.step (WL.guardF rfl rfl rfl rfl rfl rfl ?_)
            refine WL.step (WL.guardF rfl rfl rfl rfl rfl rfl ?_)
            refine WL.step (WL.guardF rfl rfl rfl rfl rfl rfl ?_)
            refine WL.step (WL.guardF rfl rfl rfl rfl rfl rfl ?_)
            refine WL.step (WL.guardF rfl rfl rfl rfl rfl rfl ?_)
            refine WL.step (WL.guardF rfl rfl rfl rfl rfl rfl ?_)
            refine WL.step (WL.guardF rfl rfl rfl rfl rfl rfl ?_)
            refine WL.step (WL.guardF rfl rfl rfl rfl rfl rfl ?_)
            refine WL.step (WL.guardF rfl rfl rfl rfl rfl rfl ?_)
            refine WL.step (WL.guardF rfl rfl rfl rfl rfl rfl ?_)
            refine WL.step ?_
            refine WL.pickT rfl rfl rfl ?_
            refine WL.step ?_
            refine WL.assign rfl rfl ?_
            refine WL.nil ?_
            refine WQ.byCut hQ (subF_bool ?_ ⟨rfl, rfl, rfl, rfl, rfl, rfl, rfl, trivial⟩ rfl)
            first | (rw [g63, Bool.true_or]) | (rw [g63, Bool.false_or])
          · skip
            refine WL.step (WL.guardT rfl rfl rfl ?_)
            refine WL.move rfl rfl ?_
            refine WL.step (WL.guardT rfl rfl rfl ?_)
            refine WL.move rfl rfl ?_
            refine WL.step (WL.guardT rfl rfl rfl ?_)
            refine WL.move rfl rfl ?_
            refine WL.step (WL.guardT rfl rfl rfl ?_)
            refine WL.indexAddr F.sl38 rfl rfl rfl hlt ?_
            refine WL.step (WL.guardT rfl rfl rfl ?_)
            refine WL.load1 F.one54 rfl rfl (v := .slice (some ⟨b2, off2, none⟩) c.length cap1) (fun w hS => by rw [← ha1]; exact hS.oldc (by simpa using hcell) (by simp)) ?_
            refine WL.step (WL.guardT rfl rfl rfl ?_)
            refine WL.move rfl rfl ?_
            refine WL.step (WL.guardT rfl rfl rfl ?_)
            refine WL.indexAddr F.sl54 rfl rfl rfl hmt.1 ?_
            refine WL.step (WL.guardT rfl rfl rfl ?_)
            refine WL.load1 F.one3 rfl rfl (v := .int .i64 y) (fun w hS => hS.oldc (by simpa using hcell3) (by simp)) ?_
            refine WL.step (WL.guardT rfl rfl rfl ?_)
            refine WL.negI rfl rfl (by omega) ?_
            refine WL.step (WL.guardT rfl rfl rfl ?_)
            refine WL.callV F.fun75 rfl rfl (fun w hS => in_c out (-y) ad ac (by omega) w (RdC.of_row rfl (hS.ok (rowc (.slice ad out.length ac) out.length 3 1 (out.map (Value.int .i64))) (by repeat (first | exact List.Mem.head _ | apply List.Mem.tail))))) ?_
            refine WL.step ?_
            refine WL.pickF rfl rfl rfl ?_
            refine WL.step ?_
            refine WL.assign rfl rfl ?_
            refine WL.nil ?_
            refine WQ.byCut hQ (subF_bool ?_ ⟨rfl, rfl, rfl, rfl, rfl, rfl, rfl, trivial⟩ rfl)
            first | (rw [g63, Bool.true_or]) | (rw [g63, Bool.false_or])
        refine WQ.block_normal ?_
        refine WQ.then_normal ?_
        refine WC.region ?_
        refine WL.step ?_
        refine WL.move rfl rfl ?_
        refine WL.step ?_
        refine WL.add rfl rfl rfl ⟨by omega, by omega⟩ ?_
        refine WL.step ?_
        refine WL.assign rfl rfl ?_
        refine WL.nil ?_
        refine WQ.back ((m + 1, (y == x || out.contains (-y)))) ?_ ?_ ?_ ?_
        · exact ⟨by show m + 1 ≤ _; omega, by rw [← hal, all_drop hy, hmt.2, Bool.true_and]⟩
        · (show c.length - (m + 1) < c.length - m; omega)
        · exact ⟨rfl, rfl, rfl, rfl, rfl, rfl, rfl, rfl, trivial⟩
        · rfl
      · skip
        have hale : al = Fm.aloneB c out x := by
          rw [← hal]
          by_cases hme : m < c.length
          · have h9 : al = false := by simpa [hme] using h51
            rw [h9]; rfl
          · rw [show m = c.length by omega, List.drop_length]; simp
        subst hale
        refine WC.exit ?_
        refine WQ.then_exit ?_
        refine WQ.then_exit ?_
        refine WQ.block_exit ?_
        refine WQ.then_normal ?_
        refine WC.seq ?_
        refine WC.region ?_
        refine WL.step ?_
        refine WL.move rfl rfl ?_
        refine WL.nil ?_
        refine WQ.then_normal ?_
        refine WC.cond rfl (fun h75 => ?_) (fun h75 => ?_)
        · skip
          have hst : Fm.stepL c out x = out ++ [x] := by unfold Fm.stepL; rw [if_pos h75]
          refine WC.region ?_
          refine WL.step ?_
          refine WL.move rfl rfl ?_
          refine WL.step ?_
          refine WL.move rfl rfl ?_
          refine WL.step ?_
          refine WL.buildSlice F.sl54 F.ez54 rfl rfl rfl rfl (by repeat (first | exact Built.nil | apply Built.one rfl rfl (by repeat constructor) | apply Built.agg rfl rfl (by repeat constructor))) rfl (fun b78 => ?_)
          refine WL.step ?_
          refine WL.appendE (news := [.int .i64 x]) F.el54 rfl rfl rfl (by repeat (first | exact Rem.here | apply Rem.there)) (fun w hS j u hu => by rw [Nat.zero_add]; exact hS.cell (cs := [.int .i64 x]) (by repeat (first | exact List.Mem.head _ | apply List.Mem.tail)) hu) rfl (by simp [Value.oneCell']) (Nat.le_trans (m := 2199023255552) (by omega) (by decide)) (by omega) (fun ad3 ac3 => ?_)
          refine WL.step ?_
          refine WL.assign rfl rfl ?_
          refine WL.nil ?_
          refine WQ.block_normal ?_
          refine WQ.then_normal ?_
          refine WC.region ?_
          refine WL.step ?_
          refine WL.move rfl rfl ?_
          refine WL.step ?_
          refine WL.add rfl rfl rfl ⟨by omega, by omega⟩ ?_
          refine WL.step ?_
          refine WL.assign rfl rfl ?_
          refine WL.nil ?_
          have hol : (out ++ [x]).length = out.length + 1 := by simp
          refine WQ.say 5 (.slice ad3 (out ++ [x]).length ac3) (by rw [hol]; rfl) ?_
          refine WQ.chunks (C' := [rowc (.slice ad3 (out ++ [x]).length ac3) (out ++ [x]).length 3 1 ((out ++ [x]).map (Value.int .i64))]) (fun w hS => ?_) ?_
          · rw [hol, List.map_append]
            exact ((St.pick hS (c := rowc (.slice ad3 (out.length + 1) ac3) (out.length + 1) 3 1 (out.map (Value.int .i64) ++ [.int .i64 x])) (by repeat (first | exact Rem.here | apply Rem.there)))).sublist (List.Sublist.cons_cons _ (List.nil_sublist _))
          refine WQ.back (⟨k + 1, out ++ [x], ad3, ac3⟩) ?_ ?_ ?_ ?_
          · exact ⟨by show k + 1 ≤ _; omega, by rw [← hfo, foldl_drop hx, hst], by have h9 := openL_step (c := c) (out := out) (hcb x (List.mem_of_getElem? hx)).2; rw [hst] at h9; show (out ++ [x]).length + Fm.openL (out ++ [x]) ≤ _; omega⟩
          · (show c.length - (k + 1) < c.length - k; omega)
          · exact ⟨rfl, rfl, rfl, rfl, rfl, trivial⟩
          · rfl
        · skip
          have hst : Fm.stepL c out x = out := by unfold Fm.stepL; rw [if_neg (by rw [h75]; decide)]
          refine WC.skip ?_
          refine WQ.block_normal ?_
          refine WQ.then_normal ?_
          refine WC.region ?_
          refine WL.step ?_
          refine WL.move rfl rfl ?_
          refine WL.step ?_
          refine WL.add rfl rfl rfl ⟨by omega, by omega⟩ ?_
          refine WL.step ?_
          refine WL.assign rfl rfl ?_
          refine WL.nil ?_
          refine WQ.back (⟨k + 1, out, ad, ac⟩) ?_ ?_ ?_ ?_
          · exact ⟨by show k + 1 ≤ _; omega, by rw [← hfo, foldl_drop hx, hst], by have h9 := openL_step (c := c) (out := out) (hcb x (List.mem_of_getElem? hx)).2; rw [hst] at h9; show (out).length + Fm.openL (out) ≤ _; omega⟩
          · (show c.length - (k + 1) < c.length - k; omega)
          · exact ⟨rfl, rfl, rfl, rfl, rfl, trivial⟩
          · rfl
    · skip
      have hke : k = c.length := by simp at h28; omega
      subst hke
      rw [List.drop_length] at hfo
      have hfo : out = Fm.passC out1 c := hfo
      refine WC.exit ?_
      refine WQ.then_exit ?_
      refine WQ.then_exit ?_
      refine WQ.block_exit ?_
      refine WQ.block_normal ?_
      refine WQ.then_normal ?_
      refine WC.region ?_
      refine WL.step ?_
      refine WL.move rfl rfl ?_
      refine WL.step ?_
      refine WL.add rfl rfl rfl ⟨by omega, by omega⟩ ?_
      refine WL.step ?_
      refine WL.assign rfl rfl ?_
      refine WL.nil ?_
      refine WQ.back (⟨i + 1, out, ad, ac⟩) ?_ ?_ ?_ ?_
      · exact ⟨by show i + 1 ≤ _; omega, by rw [← hcp, hfo]; exact (pass_drop hc).symm, hb2⟩
      · (show ls.length - (i + 1) < ls.length - i; omega)
      · exact ⟨rfl, rfl, rfl, rfl, trivial⟩
      · rfl
  · skip
    have hie : i = ls.length := by simp at h19; omega
    subst hie
    rw [List.drop_length] at hcp
    have hcp : out = Fm.consPass ls out0 := hcp
    refine WC.exit ?_
    refine WQ.then_exit ?_
    refine WQ.then_exit ?_
    refine WQ.block_exit ?_
    refine WQ.then_normal ?_
    refine WC.seq ?_
    refine WC.region ?_
    refine WL.step ?_
    refine WL.move rfl rfl ?_
    refine WL.step ?_
    refine WL.lenSl F.und54 rfl rfl ?_
    refine WL.step ?_
    refine WL.move rfl rfl ?_
    refine WL.step ?_
    refine WL.eqI rfl rfl rfl ?_
    refine WL.nil ?_
    refine WQ.then_normal ?_
    refine WC.cond rfl (fun h83 => ?_) (fun h83 => ?_)
    · skip
      have hle : (Fm.consPass ls out0).length = out0.length := by rw [← hcp]; simp at h83; omega
      rw [if_pos hle, ← hcp] at hcf
      injection hcf with hcf
      refine WC.seq ?_
      refine WC.region ?_
      refine WL.step ?_
      refine WL.move rfl rfl ?_
      refine WL.step ?_
      refine WL.assign rfl rfl ?_
      refine WL.nil ?_
      refine WQ.then_normal ?_
      refine WC.ret ?_
      refine WQ.block_ret ?_
      refine WQ.then_ret ?_
      refine WQ.block_ret ?_
      exact WQ.ret (rs := [.tmp 4]) rfl (.tmp rfl .nil) (fun w hS => ⟨(ad, ac), by rw [← hcf]; rfl, by rw [← hcf]; exact hS⟩)
    · skip
      have hne : ¬ (Fm.consPass ls out0).length = out0.length := by rw [← hcp]; intro h0; rw [h0] at h83; simp at h83
      refine WC.skip ?_
      refine WQ.block_normal ?_
      refine WQ.back (⟨f, out, ad, ac⟩) ?_ ?_ ?_ ?_
      · exact ⟨by rw [if_neg hne, ← hcp] at hcf; exact hcf, hb1⟩
      · exact Nat.lt_succ_self f
      · exact ⟨rfl, rfl, trivial⟩
      · rfl

end Go.Proofs.Ytbippghgkbapnaa

namespace Go.Proofs.Ytbippghgkbapnaa
open Go Go.Eng Go.Proofs
theorem stepL_mem {c out : List Int} {x z : Int} (h : z ∈ Fm.stepL c out x) : z ∈ out ∨ z = x := by
  unfold Fm.stepL at h
  split at h
  · rcases List.mem_append.1 h with h | h
    · exact .inl h
    · exact .inr (by simpa using h)
  · exact .inl h
theorem foldL_mem {c : List Int} {z : Int} : ∀ {xs out : List Int}, z ∈ xs.foldl (Fm.stepL c) out → z ∈ out ∨ z ∈ xs
  | [], _, h => .inl h
  | x :: xs, out, h => by
    rcases foldL_mem (xs := xs) h with h | h
    · rcases stepL_mem h with h | h
      · exact .inl h
      · exact .inr (by simp [h])
    · exact .inr (by simp [h])
theorem pass_mem {z : Int} : ∀ {ls : List (List Int)} {out : List Int}, z ∈ Fm.consPass ls out → z ∈ out ∨ ∃ c ∈ ls, z ∈ c
  | [], _, h => .inl h
  | c :: ls, out, h => by
    rcases pass_mem (ls := ls) (out := Fm.passC out c) h with h | ⟨d, h1, h2⟩
    · rcases foldL_mem h with h | h
      · exact .inl h
      · exact .inr ⟨c, by simp, h⟩
    · exact .inr ⟨d, by simp [h1], h2⟩
theorem cons_mem {ls : List (List Int)} {z : Int} : ∀ {f : Nat} {out o : List Int}, Fm.consF f ls out = some o → z ∈ o → z ∈ out ∨ ∃ c ∈ ls, z ∈ c
  | 0, _, _, h, _ => by simp [Fm.consF] at h
  | f + 1, out, o, h, hz => by
    simp only [Fm.consF] at h
    split at h
    · injection h with h; subst h
      exact pass_mem hz
    · rcases cons_mem h hz with h | h
      · exact pass_mem h
      · exact .inr h
theorem fold_len {c : List Int} : ∀ {xs out : List Int}, (∀ x ∈ xs, -32 ≤ x ∧ x ≤ 32) → (xs.foldl (Fm.stepL c) out).length + Fm.openL (xs.foldl (Fm.stepL c) out) ≤ out.length + Fm.openL out
  | [], _, _ => Nat.le_refl _
  | x :: xs, out, h => Nat.le_trans (fold_len (xs := xs) (fun y hy => h y (by simp [hy]))) (openL_step (h x (by simp)))
theorem pass_len : ∀ {ls : List (List Int)} {out : List Int}, (∀ c ∈ ls, ∀ x ∈ c, -32 ≤ x ∧ x ≤ 32) → (Fm.consPass ls out).length + Fm.openL (Fm.consPass ls out) ≤ out.length + Fm.openL out
  | [], _, _ => Nat.le_refl _
  | c :: ls, out, h => Nat.le_trans (pass_len (ls := ls) (out := Fm.passC out c) (fun d hd => h d (by simp [hd]))) (fold_len (h c (by simp)))
theorem cons_len {ls : List (List Int)} (hl : ∀ c ∈ ls, ∀ x ∈ c, -32 ≤ x ∧ x ≤ 32) : ∀ {f : Nat} {out o : List Int}, Fm.consF f ls out = some o → o.length + Fm.openL o ≤ out.length + Fm.openL out
  | 0, _, _, h => by simp [Fm.consF] at h
  | f + 1, out, o, h => by
    simp only [Fm.consF] at h
    split at h
    · injection h with h; subst h
      exact pass_len hl
    · exact Nat.le_trans (cons_len hl h) (pass_len hl)
theorem cons_le {ls : List (List Int)} (hl : ∀ c ∈ ls, ∀ x ∈ c, -32 ≤ x ∧ x ≤ 32) {f : Nat} {out o : List Int} (h : Fm.consF f ls out = some o) : o.length ≤ out.length + 65 := by
  have h1 := cons_len hl h
  have h2 : Fm.openL out ≤ 65 := Fm.openC_le (fun z => !out.contains z)
  omega
def refuted (ls : List (List Int)) (c : List Int) : Bool := match Fm.consF 66 ls (c.map (fun x => -x)) with | some o => Fm.conflictB ls o | none => false
def verF : List (List Int) → List (List Int) → Nat → Int
  | _, [], i => i
  | ls, c :: ps, i => if refuted ls c then (if c.isEmpty then -1 else verF (ls ++ [c]) ps (i + 1)) else i
def verE (n : Int) (ls ps : List (List Int)) : Int × Int := if Fm.mayE n ls = 0 then (if ps.all (Fm.fitsB n) then (verF ls ps 0, 0) else (0, 2)) else (0, Fm.mayE n ls)
theorem any_take {α : Type} {p : α → Bool} {l : List α} {i : Nat} {x : α} (hx : l[i]? = some x) (h : (l.take i).any p = false) (hp : p x = false) : (l.take (i + 1)).any p = false := by
  rw [List.take_add_one, hx, List.any_append, h, Bool.false_or]
  simp [hp]
theorem all_takeB {α : Type} {p : α → Bool} {l : List α} {i : Nat} {x : α} (hx : l[i]? = some x) (h : (l.take i).all p = true) (hp : p x = true) : (l.take (i + 1)).all p = true := by
  rw [List.take_add_one, hx, List.all_append, h, Bool.true_and]
  simp [hp]
theorem any_at {α : Type} {p : α → Bool} {l : List α} {i : Nat} {x : α} (hx : l[i]? = some x) (hp : p x = true) : l.any p = true := List.any_eq_true.2 ⟨x, List.mem_of_getElem? hx, hp⟩
theorem all_at {α : Type} {p : α → Bool} {l : List α} {i : Nat} {x : α} (hx : l[i]? = some x) (hp : p x = false) : l.all p = false := List.all_eq_false.2 ⟨x, List.mem_of_getElem? hx, by rw [hp]; decide⟩

theorem conf_c (ls : List (List Int)) (fixed o : List Int) (a a2 : Option Addr) (cap cap2 : Nat) (us : List Value) (hll : ls.length ≤ 1099511627776) (hfl : fixed.length ≤ 1099511627000) (hlens : ∀ c ∈ ls, c.length ≤ 1099511627776) (hbd : ∀ c ∈ ls, ∀ x ∈ c, x ≠ 0 ∧ -32 ≤ x ∧ x ≤ 32) (hfb : ∀ x ∈ fixed, -32 ≤ x ∧ x ≤ 32)
    (f : Nat) (w : World) (hr : RdLL w ls a us) (hr2 : RdC w fixed a2) (h : Fm.consF f ls fixed = some o) :
    Pure Try.prog 68 [.slice a ls.length cap, .slice a2 fixed.length cap2] w (.bool (Fm.conflictB ls o)) := by
  have hob : ∀ x ∈ o, -32 ≤ x ∧ x ≤ 32 := fun x hx => by
    rcases cons_mem h hx with h9 | ⟨d, h8, h9⟩
    · exact hfb x h9
    · exact (hbd d h8 x h9).2
  have hol := cons_le (fun c hc x hx => (hbd c hc x hx).2) h
  refine enter Try.func68 rfl Try.ntmps68 rfl (St.init _) ?_
  refine WC.seq ?_
  refine WC.region ?_
  refine WL.step ?_
  refine WL.assign rfl rfl ?_
  refine WL.nil ?_
  refine WQ.then_normal ?_
  refine WC.seq ?_
  refine WC.seq ?_
  refine WC.region ?_
  refine WL.step ?_
  refine WL.assign rfl rfl ?_
  refine WL.nil ?_
  refine WQ.then_normal ?_
  refine WC.block ?_
  refine WC.loop (α := Nat) (fun i => i ≤ ls.length ∧ (ls.take i).any (·.isEmpty) = false) (fun i => [(0, .slice a ls.length cap), (1, .slice a2 fixed.length cap2), (5, .int .i64 (i : Int))]) (fun _ => []) (fun i => ls.length - i) (0) ?_ ?_ ?_ ?_
  · exact ⟨Nat.zero_le _, rfl⟩
  · exact ⟨rfl, rfl, rfl, trivial⟩
  · rfl
  rintro i ⟨hi, hno⟩
  refine WC.seq ?_
  refine WC.seq ?_
  refine WC.region ?_
  refine WL.step ?_
  refine WL.move rfl rfl ?_
  refine WL.step ?_
  refine WL.move rfl rfl ?_
  refine WL.step ?_
  refine WL.lenSl F.und38 rfl rfl ?_
  refine WL.step ?_
  refine WL.ltI rfl rfl rfl ?_
  refine WL.nil ?_
  refine WQ.then_normal ?_
  refine WC.cond rfl (fun h11 => ?_) (fun h11 => ?_)
  · skip
    have hlt : i < ls.length := by simpa using h11
    obtain ⟨c, b, off, a1, cap1, hc, rfl, hcell, hrc⟩ := hr.at hlt
    have hcl := hlens c (List.mem_of_getElem? hc)
    refine WC.skip ?_
    refine WQ.then_normal ?_
    refine WC.seq ?_
    refine WC.block ?_
    refine WC.seq ?_
    refine WC.region ?_
    refine WL.step ?_
    refine WL.move rfl rfl ?_
    refine WL.step ?_
    refine WL.move rfl rfl ?_
    refine WL.step ?_
    refine WL.indexAddr F.sl38 rfl rfl rfl hlt ?_
    refine WL.step ?_
    refine WL.load1 F.one54 rfl rfl (v := .slice a1 c.length cap1) (fun w hS => hS.oldc (by simpa using hcell) (by simp)) ?_
    refine WL.step ?_
    refine WL.lenSl F.und54 rfl rfl ?_
    refine WL.step ?_
    refine WL.eqI rfl rfl rfl ?_
    refine WL.nil ?_
    refine WQ.then_normal ?_
    refine WC.cond rfl (fun h19 => ?_) (fun h19 => ?_)
    · skip
      have hres : Fm.conflictB ls o = true := by
        have h9 : ls.any (·.isEmpty) = true := any_at hc (by simpa using h19)
        unfold Fm.conflictB; rw [h9]; rfl
      refine WC.seq ?_
      refine WC.region ?_
      refine WL.step ?_
      refine WL.assign rfl rfl ?_
      refine WL.nil ?_
      refine WQ.then_normal ?_
      refine WC.ret ?_
      refine WQ.block_ret ?_
      refine WQ.then_ret ?_
      refine WQ.then_ret ?_
      refine WQ.block_ret ?_
      refine WQ.then_ret ?_
      exact WQ.ret (rs := [.tmp 4]) rfl (.tmp rfl .nil) (fun w hS => ⟨by rw [hres]; rfl, hS.sublist (List.nil_sublist _)⟩)
    · skip
      have hce : c.isEmpty = false := by simpa using h19
      refine WC.skip ?_
      refine WQ.block_normal ?_
      refine WQ.then_normal ?_
      refine WC.region ?_
      refine WL.step ?_
      refine WL.move rfl rfl ?_
      refine WL.step ?_
      refine WL.add rfl rfl rfl ⟨by omega, by omega⟩ ?_
      refine WL.step ?_
      refine WL.assign rfl rfl ?_
      refine WL.nil ?_
      refine WQ.back (i + 1) ?_ ?_ ?_ ?_
      · exact ⟨by omega, any_take hc hno hce⟩
      · omega
      · exact ⟨rfl, rfl, rfl, trivial⟩
      · rfl
  · skip
    have hie : i = ls.length := by simp at h11; omega
    subst hie
    rw [List.take_length] at hno
    refine WC.exit ?_
    refine WQ.then_exit ?_
    refine WQ.then_exit ?_
    refine WQ.block_exit ?_
    refine WQ.then_normal ?_
    refine WC.seq ?_
    refine WC.region ?_
    refine WL.step ?_
    refine WL.move rfl rfl ?_
    refine WL.step ?_
    refine WL.move rfl rfl ?_
    refine WL.step ?_
    refine WL.callC (β := Option Addr × Nat) (res := fun y => .slice y.1 o.length y.2) (cs := fun y => [rowc (.slice y.1 o.length y.2) o.length 3 1 (o.map (Value.int .i64))]) (Cs := []) (O' := []) F.fun74 (fun d h => by cases h; rfl) rfl (List.Perm.refl _) (by simp) (by simp) (fun w hS _ => cons_c ls fixed o a a2 cap cap2 us hll hfl hlens hbd f w (hr.next hS) (hr2.next hS) h) (fun x22 => ?_)
    obtain ⟨ad, ac⟩ := x22
    refine WL.step ?_
    refine WL.assign rfl rfl ?_
    refine WL.nil ?_
    refine WQ.then_normal ?_
    refine WC.seq ?_
    refine WC.seq ?_
    refine WC.region ?_
    refine WL.step ?_
    refine WL.assign rfl rfl ?_
    refine WL.nil ?_
    refine WQ.then_normal ?_
    refine WC.block ?_
    refine WC.loop (α := Nat) (fun j => j ≤ o.length ∧ (o.take j).any (fun x => o.contains (-x)) = false) (fun j => [(0, .slice a ls.length cap), (1, .slice a2 fixed.length cap2), (6, .slice ad o.length ac), (7, .int .i64 (j : Int))]) (fun _ => [rowc (.slice ad o.length ac) o.length 3 1 (o.map (Value.int .i64))]) (fun j => o.length - j) (0) ?_ ?_ ?_ ?_
    · exact ⟨Nat.zero_le _, rfl⟩
    · exact ⟨rfl, rfl, rfl, rfl, trivial⟩
    · rfl
    rintro j ⟨hj, hno2⟩
    refine WC.seq ?_
    refine WC.seq ?_
    refine WC.region ?_
    refine WL.step ?_
    refine WL.move rfl rfl ?_
    refine WL.step ?_
    refine WL.move rfl rfl ?_
    refine WL.step ?_
    refine WL.lenSl F.und54 rfl rfl ?_
    refine WL.step ?_
    refine WL.ltI rfl rfl rfl ?_
    refine WL.nil ?_
    refine WQ.then_normal ?_
    refine WC.cond rfl (fun h26 => ?_) (fun h26 => ?_)
    · skip
      have hjlt : j < o.length := by simpa using h26
      obtain ⟨x, hx⟩ : ∃ y, o[j]? = some y := ⟨_, List.getElem?_eq_getElem hjlt⟩
      have hxb := hob x (List.mem_of_getElem? hx)
      refine WC.know (φ := ∃ g, ad = some ⟨g, 0, none⟩ ∧ o.length = o.length ∧ o.length ≤ ac) (fun w hS => rowc_addr (hS.ok (rowc (.slice ad o.length ac) o.length 3 1 (o.map (Value.int .i64))) (by repeat (first | exact List.Mem.head _ | apply List.Mem.tail))) (by omega)) (fun ⟨g, hta, _, _⟩ => ?_)
      subst hta
      refine WC.skip ?_
      refine WQ.then_normal ?_
      refine WC.seq ?_
      refine WC.block ?_
      refine WC.seq ?_
      refine WC.region ?_
      refine WL.step ?_
      refine WL.move rfl rfl ?_
      refine WL.step ?_
      refine WL.move rfl rfl ?_
      refine WL.step ?_
      refine WL.move rfl rfl ?_
      refine WL.step ?_
      refine WL.indexAddr F.sl54 rfl rfl rfl hjlt ?_
      refine WL.step ?_
      refine WL.load1 F.one3 rfl rfl (v := .int .i64 x) (fun w hS => by simpa using rowc_cell (hS.ok (rowc (.slice (some ⟨g, 0, none⟩) o.length ac) o.length 3 1 (o.map (Value.int .i64))) (by repeat (first | exact List.Mem.head _ | apply List.Mem.tail))) (u := .int .i64 x) (by simp [hx])) ?_
      refine WL.step ?_
      refine WL.negI rfl rfl (by omega) ?_
      refine WL.step ?_
      refine WL.callV F.fun75 rfl rfl (fun w hS => in_c o (-x) (some ⟨g, 0, none⟩) ac (by omega) w (RdC.of_row rfl (hS.ok (rowc (.slice (some ⟨g, 0, none⟩) o.length ac) o.length 3 1 (o.map (Value.int .i64))) (by repeat (first | exact List.Mem.head _ | apply List.Mem.tail))))) ?_
      refine WL.nil ?_
      refine WQ.then_normal ?_
      refine WC.cond rfl (fun h35 => ?_) (fun h35 => ?_)
      · skip
        have hres : Fm.conflictB ls o = true := by
          have h9 : o.any (fun x => o.contains (-x)) = true := any_at hx (by simpa using h35)
          unfold Fm.conflictB; rw [h9, Bool.or_true]
        refine WC.seq ?_
        refine WC.region ?_
        refine WL.step ?_
        refine WL.assign rfl rfl ?_
        refine WL.nil ?_
        refine WQ.then_normal ?_
        refine WC.ret ?_
        refine WQ.block_ret ?_
        refine WQ.then_ret ?_
        refine WQ.then_ret ?_
        refine WQ.block_ret ?_
        refine WQ.then_ret ?_
        exact WQ.ret (rs := [.tmp 4]) rfl (.tmp rfl .nil) (fun w hS => ⟨by rw [hres]; rfl, hS.sublist (List.nil_sublist _)⟩)
      · skip
        refine WC.skip ?_
        refine WQ.block_normal ?_
        refine WQ.then_normal ?_
        refine WC.region ?_
        refine WL.step ?_
        refine WL.move rfl rfl ?_
        refine WL.step ?_
        refine WL.add rfl rfl rfl ⟨by omega, by omega⟩ ?_
        refine WL.step ?_
        refine WL.assign rfl rfl ?_
        refine WL.nil ?_
        refine WQ.back (j + 1) ?_ ?_ ?_ ?_
        · exact ⟨by omega, any_take hx hno2 (by simpa using h35)⟩
        · omega
        · exact ⟨rfl, rfl, rfl, rfl, trivial⟩
        · rfl
    · skip
      have hje : j = o.length := by simp at h26; omega
      subst hje
      rw [List.take_length] at hno2
      have hres : Fm.conflictB ls o = false := by (unfold Fm.conflictB; rw [hno, hno2]; rfl)
      refine WC.exit ?_
      refine WQ.then_exit ?_
      refine WQ.then_exit ?_
      refine WQ.block_exit ?_
      refine WQ.then_normal ?_
      refine WC.seq ?_
      refine WC.region ?_
      refine WL.step ?_
      refine WL.assign rfl rfl ?_
      refine WL.nil ?_
      refine WQ.then_normal ?_
      refine WC.ret ?_
      exact WQ.ret (rs := [.tmp 4]) rfl (.tmp rfl .nil) (fun w hS => ⟨by rw [hres]; rfl, hS.sublist (List.nil_sublist _)⟩)

end Go.Proofs.Ytbippghgkbapnaa

namespace Go.Proofs.Ytbippghgkbapnaa
open Go Go.Eng Go.Proofs
theorem neg_c2 (l : List Int) (a : Option Addr) (cap : Nat) (hlen : l.length ≤ 1099511627776) (hb : ∀ x ∈ l, -32 ≤ x ∧ x ≤ 32) (w : World) (hr : RdC w l a) :
    Calls Try.prog 69 [.slice a l.length cap].toArray w fun e w' => ∃ x : Option Addr × Nat, e = .returned (.slice x.1 (List.map (fun x => -x) l).length x.2) ∧ St w [] [rowc (.slice x.1 (List.map (fun x => -x) l).length x.2) (List.map (fun x => -x) l).length 3 1 ((List.map (fun x => -x) l).map (Value.int .i64))] w' := by
  have e : (List.map (fun x => -x) l).length = l.length := by simp
  rw [e]
  exact neg_c l a cap hlen hb w hr
theorem RdLL.at2 {w : World} {ls : List (List Int)} {a : Option Addr} {us : List Value} {i : Nat} (h : RdLL w ls a us) (hi : i < ls.length) : ∃ c b off a1 cap, ls[i]? = some c ∧ us[i]? = some (.slice a1 c.length cap) ∧ a = some ⟨b, off, none⟩ ∧ w.cell? ⟨b, off + i, none⟩ = some (.slice a1 c.length cap) ∧ RdC w c a1 := by
  have hi' : i < us.length := by rw [h.len]; exact hi
  have h1 : us[i]? = some us[i] := List.getElem?_eq_getElem hi'
  have h2 : ls[i]? = some ls[i] := List.getElem?_eq_getElem hi
  obtain ⟨b, off, ha, hc⟩ := h.hd i _ h1
  obtain ⟨a1, cap, hu, hr⟩ := h.rd i _ _ h2 h1
  exact ⟨ls[i], b, off, a1, cap, h2, by rw [h1, hu], ha, by rw [hc, hu], hr⟩
theorem ver_step {ls ps : List (List Int)} {i : Nat} {c : List Int} (hc : ps[i]? = some c) : verF (ls ++ ps.take i) (ps.drop i) i = if refuted (ls ++ ps.take i) c then (if c.isEmpty then -1 else verF (ls ++ ps.take (i + 1)) (ps.drop (i + 1)) (i + 1)) else i := by
  obtain ⟨hk, he⟩ := List.getElem?_eq_some_iff.1 hc
  rw [List.drop_eq_getElem_cons hk, he, verF, List.take_add_one, hc]
  simp
/-- The clauses at hand are small. -/
theorem both_lit {ls ps : List (List Int)} {n i : Nat} (hn : n ≤ 24) (h1 : ls.all (Fm.fitsB (n : Int)) = true) (h2 : ps.all (Fm.fitsB (n : Int)) = true) : (∀ c ∈ ls ++ ps.take i, ∀ x ∈ c, Lit x) ∧ (∀ c ∈ ls ++ ps.take i, c.length ≤ 64) := by
  refine may_lit hn ?_
  rw [List.all_append, h1, Bool.true_and, List.all_eq_true]
  intro c hc
  exact (List.all_eq_true.1 h2) c (List.mem_of_mem_take hc)

structure V2 where
  i : Nat
  N : Nat
  hs : List Value
  aa : Option Addr
  ca : Nat

theorem rver_c (n : Int) (ls ps : List (List Int)) (a a2 : Option Addr) (cap cap2 : Nat) (us us2 : List Value) (hll : ls.length ≤ 1000) (hpl : ps.length ≤ 100000) (hlens : ∀ c ∈ ls, c.length ≤ 1099511627776) (hlens2 : ∀ c ∈ ps, c.length ≤ 1099511627776)
    (w : World) (hr : RdLL w ls a us) (hr2 : RdLL w ps a2 us2) : Pure Try.prog 28 [.int .i64 n, .slice a ls.length cap, .slice a2 ps.length cap2] w (.tuple #[.int .i64 (verE n ls ps).1, .int .i64 (verE n ls ps).2]) := by
  refine enter Try.func28 rfl Try.ntmps28 rfl (St.init _) ?_
  refine WC.seq ?_
  refine WC.region ?_
  refine WL.step ?_
  refine WL.assign rfl rfl ?_
  refine WL.step ?_
  refine WL.assign rfl rfl ?_
  refine WL.nil ?_
  refine WQ.then_normal ?_
  refine WC.seq ?_
  refine WC.region ?_
  refine WL.step ?_
  refine WL.move rfl rfl ?_
  refine WL.step ?_
  refine WL.move rfl rfl ?_
  refine WL.step ?_
  refine WL.callV F.fun25 rfl rfl (fun w hS => rclauses_c n ls a cap us (by omega) hlens w (hr.next hS)) ?_
  refine WL.step ?_
  refine WL.assign rfl rfl ?_
  refine WL.nil ?_
  refine WQ.then_normal ?_
  refine WC.seq ?_
  refine WC.seq ?_
  refine WC.region ?_
  refine WL.step ?_
  refine WL.move rfl rfl ?_
  refine WL.step ?_
  refine WL.neI rfl rfl rfl ?_
  refine WL.nil ?_
  refine WQ.then_normal ?_
  refine WC.cond rfl (fun h16 => ?_) (fun h16 => ?_)
  · skip
    have hme : Fm.mayE n ls ≠ 0 := by simpa using h16
    have hres : verE n ls ps = (0, Fm.mayE n ls) := by unfold verE; rw [if_neg hme]
    refine WC.seq ?_
    refine WC.region ?_
    refine WL.step ?_
    refine WL.move rfl rfl ?_
    refine WL.step ?_
    refine WL.assign rfl rfl ?_
    refine WL.step ?_
    refine WL.assign rfl rfl ?_
    refine WL.nil ?_
    refine WQ.then_normal ?_
    refine WC.ret ?_
    refine WQ.then_ret ?_
    exact WQ.ret (rs := [.tmp 6, .tmp 7]) rfl (.tmp rfl (.tmp rfl .nil)) (fun w hS => ⟨by rw [hres]; rfl, hS.sublist (List.nil_sublist _)⟩)
  · skip
    have hme : Fm.mayE n ls = 0 := by simpa using h16
    obtain ⟨hm0, hcount, hall⟩ := may_zero hme
    obtain ⟨m, rfl⟩ : ∃ m : Nat, n = (m : Int) := ⟨n.toNat, by omega⟩
    have hm : m ≤ 24 := by omega
    have hnb : (-1000 : Int) ≤ (m : Int) ∧ (m : Int) ≤ 1000 := by omega
    refine WC.skip ?_
    refine WQ.then_normal ?_
    refine WC.seq ?_
    refine WC.seq ?_
    refine WC.region ?_
    refine WL.step ?_
    refine WL.assign rfl rfl ?_
    refine WL.nil ?_
    refine WQ.then_normal ?_
    refine WC.block ?_
    refine WC.loop (α := Nat) (fun i => i ≤ ps.length ∧ (ps.take i).all (Fm.fitsB m) = true) (fun i => [(0, .int .i64 m), (1, .slice a ls.length cap), (2, .slice a2 ps.length cap2), (9, .int .i64 (i : Int))]) (fun _ => []) (fun i => ps.length - i) (0) ?_ ?_ ?_ ?_
    · exact ⟨Nat.zero_le _, rfl⟩
    · exact ⟨rfl, rfl, rfl, rfl, trivial⟩
    · rfl
    rintro i ⟨hi, hno⟩
    refine WC.seq ?_
    refine WC.seq ?_
    refine WC.region ?_
    refine WL.step ?_
    refine WL.move rfl rfl ?_
    refine WL.step ?_
    refine WL.move rfl rfl ?_
    refine WL.step ?_
    refine WL.lenSl F.und38 rfl rfl ?_
    refine WL.step ?_
    refine WL.ltI rfl rfl rfl ?_
    refine WL.nil ?_
    refine WQ.then_normal ?_
    refine WC.cond rfl (fun h21 => ?_) (fun h21 => ?_)
    · skip
      have hlt : i < ps.length := by simpa using h21
      obtain ⟨c, b, off, a1, cap1, hc, hu, rfl, hcell, hrc⟩ := hr2.at2 hlt
      have hcl := hlens2 c (List.mem_of_getElem? hc)
      refine WC.skip ?_
      refine WQ.then_normal ?_
      refine WC.seq ?_
      refine WC.block ?_
      refine WC.seq ?_
      refine WC.region ?_
      refine WL.step ?_
      refine WL.move rfl rfl ?_
      refine WL.step ?_
      refine WL.move rfl rfl ?_
      refine WL.step ?_
      refine WL.move rfl rfl ?_
      refine WL.step ?_
      refine WL.indexAddr F.sl38 rfl rfl rfl hlt ?_
      refine WL.step ?_
      refine WL.load1 F.one54 rfl rfl (v := .slice a1 c.length cap1) (fun w hS => hS.oldc (by simpa using hcell) (by simp)) ?_
      refine WL.step ?_
      refine WL.callV F.fun66 rfl rfl (fun w hS => rfits_c m c a1 cap1 hnb (by omega) w (hrc.next hS)) ?_
      refine WL.step ?_
      refine WL.not rfl rfl ?_
      refine WL.nil ?_
      refine WQ.then_normal ?_
      refine WC.cond rfl (fun h30 => ?_) (fun h30 => ?_)
      · skip
        have hres : verE m ls ps = (0, 2) := by
          have h9 : ps.all (Fm.fitsB m) = false := all_at hc (by simpa using h30)
          unfold verE; rw [if_pos hme, h9]; rfl
        refine WC.seq ?_
        refine WC.region ?_
        refine WL.step ?_
        refine WL.assign rfl rfl ?_
        refine WL.step ?_
        refine WL.assign rfl rfl ?_
        refine WL.nil ?_
        refine WQ.then_normal ?_
        refine WC.ret ?_
        refine WQ.block_ret ?_
        refine WQ.then_ret ?_
        refine WQ.then_ret ?_
        refine WQ.block_ret ?_
        refine WQ.then_ret ?_
        exact WQ.ret (rs := [.tmp 6, .tmp 7]) rfl (.tmp rfl (.tmp rfl .nil)) (fun w hS => ⟨by rw [hres]; rfl, hS.sublist (List.nil_sublist _)⟩)
      · skip
        refine WC.skip ?_
        refine WQ.block_normal ?_
        refine WQ.then_normal ?_
        refine WC.region ?_
        refine WL.step ?_
        refine WL.move rfl rfl ?_
        refine WL.step ?_
        refine WL.add rfl rfl rfl ⟨by omega, by omega⟩ ?_
        refine WL.step ?_
        refine WL.assign rfl rfl ?_
        refine WL.nil ?_
        refine WQ.back (i + 1) ?_ ?_ ?_ ?_
        · exact ⟨by omega, all_takeB hc hno (by simpa using h30)⟩
        · omega
        · exact ⟨rfl, rfl, rfl, rfl, trivial⟩
        · rfl
    · skip
      have hie : i = ps.length := by simp at h21; omega
      subst hie
      rw [List.take_length] at hno
      have hres0 : verE m ls ps = (verF ls ps 0, 0) := by unfold verE; rw [if_pos hme, if_pos hno]
      have hall2 := hno
      refine WC.exit ?_
      refine WQ.then_exit ?_
      refine WQ.then_exit ?_
      refine WQ.block_exit ?_
      refine WQ.then_normal ?_
      refine WC.seq ?_
      refine WC.region ?_
      refine WL.step ?_
      refine WL.move rfl rfl ?_
      refine WA.chunks (fun w hS => (hS.rowNil 54 1)) ?_
      refine WL.step ?_
      refine WL.appendC (n := 0) (v := .slice none 0 0) (xs := []) (news := us) F.el38 rfl rfl rfl (by repeat (first | exact Rem.here | apply Rem.there)) (fun w hS hm => (hr.next hS).news hm) (by rw [hr.len, Nat.mul_one]) hr.one (Nat.le_trans (m := 1099511627776) (by omega) (by decide)) (by omega) (fun ad0 ac0 => ?_)
      rw [Nat.zero_add, List.nil_append]
      refine WL.step ?_
      refine WL.assign rfl rfl ?_
      refine WL.nil ?_
      refine WQ.then_normal ?_
      refine WC.seq ?_
      refine WC.seq ?_
      refine WC.region ?_
      refine WL.step ?_
      refine WL.assign rfl rfl ?_
      refine WL.nil ?_
      refine WQ.then_normal ?_
      refine WC.block ?_
      refine WC.loop (α := V2) (fun g => g.i ≤ ps.length ∧ g.N = (ls ++ ps.take g.i).length ∧ g.hs = us ++ us2.take g.i ∧ verF (ls ++ ps.take g.i) (ps.drop g.i) g.i = verF ls ps 0) (fun g => [(0, .int .i64 m), (1, .slice a ls.length cap), (2, .slice a2 ps.length cap2), (10, .slice g.aa g.N g.ca), (11, .int .i64 (g.i : Int))]) (fun g => [rowc (.slice g.aa g.N g.ca) g.N 54 1 g.hs]) (fun g => ps.length - g.i) (⟨0, ls.length, us, ad0, ac0⟩) ?_ ?_ ?_ ?_
      · exact ⟨Nat.zero_le _, by simp, by simp, by simp⟩
      · exact ⟨rfl, rfl, rfl, rfl, rfl, trivial⟩
      · rfl
      rintro ⟨i, N, hs, aa, ca⟩ ⟨hi, hN, hhs, hv⟩
      dsimp only at hi hN hhs hv
      subst hN
      show WC _ _ _ _ _ _ _ [(0, .int .i64 m), (1, .slice a ls.length cap), (2, .slice a2 ps.length cap2), (10, .slice aa (ls ++ ps.take i).length ca), (11, .int .i64 (i : Int))] [rowc (.slice aa (ls ++ ps.take i).length ca) (ls ++ ps.take i).length 54 1 hs]
      refine WC.seq ?_
      refine WC.seq ?_
      refine WC.region ?_
      refine WL.step ?_
      refine WL.move rfl rfl ?_
      refine WL.step ?_
      refine WL.move rfl rfl ?_
      refine WL.step ?_
      refine WL.lenSl F.und38 rfl rfl ?_
      refine WL.step ?_
      refine WL.ltI rfl rfl rfl ?_
      refine WL.nil ?_
      refine WQ.then_normal ?_
      refine WC.cond rfl (fun h36 => ?_) (fun h36 => ?_)
      · skip
        have hlt : i < ps.length := by simpa using h36
        obtain ⟨c, b, off, a1, cap1, hc, hu, rfl, hcell, hrc⟩ := hr2.at2 hlt
        have hcm := List.mem_of_getElem? hc
        obtain ⟨hLL, hLen⟩ := both_lit (i := i) hm hall hall2
        have hclit := (may_lit hm hall2).1 c hcm
        have hcl := (may_lit hm hall2).2 c hcm
        have hLN : (ls ++ ps.take i).length ≤ 1000000 := by simp; omega
        obtain ⟨o, ho⟩ := Fm.cons_ends (fun d hd x hx => (hLL d hd x hx).2) (List.map (fun x => -x) c)
        have hneg : ∀ x ∈ (List.map (fun x => -x) c), -32 ≤ x ∧ x ≤ 32 := by
          intro x hx
          obtain ⟨y, hy, rfl⟩ := List.mem_map.1 hx
          have := hclit y hy
          omega
        refine WC.skip ?_
        refine WQ.then_normal ?_
        refine WC.seq ?_
        refine WC.block ?_
        refine WC.seq ?_
        refine WC.seq ?_
        refine WC.region ?_
        refine WL.step ?_
        refine WL.move rfl rfl ?_
        refine WL.step ?_
        refine WL.move rfl rfl ?_
        refine WL.step ?_
        refine WL.move rfl rfl ?_
        refine WL.step ?_
        refine WL.indexAddr F.sl38 rfl rfl rfl hlt ?_
        refine WL.step ?_
        refine WL.load1 F.one54 rfl rfl (v := .slice a1 c.length cap1) (fun w hS => hS.oldc (by simpa using hcell) (by simp)) ?_
        refine WL.step ?_
        refine WL.callC (β := Option Addr × Nat) (res := fun y => .slice y.1 (List.map (fun x => -x) c).length y.2) (cs := fun y => [rowc (.slice y.1 (List.map (fun x => -x) c).length y.2) (List.map (fun x => -x) c).length 3 1 ((List.map (fun x => -x) c).map (Value.int .i64))]) (Cs := []) (O' := []) F.fun69 (fun d h => by cases h; rfl) rfl (List.Perm.refl _) (by simp) (by simp) (fun w hS _ => neg_c2 c a1 cap1 (by omega) (fun x hx => (hclit x hx).2) w (hrc.next hS)) (fun x44 => ?_)
        obtain ⟨ad, ac⟩ := x44
        refine WL.step ?_
        refine WL.callV F.fun68 rfl rfl (fun w hS => conf_c (ls ++ ps.take i) (List.map (fun x => -x) c) o aa ad ca ac hs (by omega) (by simp; omega) (fun d hd => by have := hLen d hd; omega) hLL hneg 66 w (RdLL.both (hr.next hS) (hr2.next hS) hhs rfl (hS.ok (rowc (.slice aa (ls ++ ps.take i).length ca) (ls ++ ps.take i).length 54 1 hs) (by repeat (first | exact List.Mem.head _ | apply List.Mem.tail)))) (RdC.of_row rfl (hS.ok (rowc (.slice ad (List.map (fun x => -x) c).length ac) (List.map (fun x => -x) c).length 3 1 ((List.map (fun x => -x) c).map (Value.int .i64))) (by repeat (first | exact List.Mem.head _ | apply List.Mem.tail)))) ho) ?_
        refine WL.step ?_
        refine WL.not rfl rfl ?_
        refine WL.nil ?_
        refine WQ.then_normal ?_
        refine WC.cond rfl (fun h46 => ?_) (fun h46 => ?_)
        · skip
          have hconf : Fm.conflictB (ls ++ ps.take i) o = false := by simpa using h46
          have href : refuted (ls ++ ps.take i) c = false := by unfold refuted; rw [ho]; exact hconf
          have hres : verE m ls ps = ((i : Int), 0) := by rw [hres0, ← hv, ver_step hc, href]; rfl
          refine WC.seq ?_
          refine WC.region ?_
          refine WL.step ?_
          refine WL.move rfl rfl ?_
          refine WL.step ?_
          refine WL.assign rfl rfl ?_
          refine WL.step ?_
          refine WL.assign rfl rfl ?_
          refine WL.nil ?_
          refine WQ.then_normal ?_
          refine WC.ret ?_
          refine WQ.then_ret ?_
          refine WQ.block_ret ?_
          refine WQ.then_ret ?_
          refine WQ.then_ret ?_
          refine WQ.block_ret ?_
          refine WQ.then_ret ?_
          exact WQ.ret (rs := [.tmp 6, .tmp 7]) rfl (.tmp rfl (.tmp rfl .nil)) (fun w hS => ⟨by rw [hres]; rfl, hS.sublist (List.nil_sublist _)⟩)
        · skip
          have hconf : Fm.conflictB (ls ++ ps.take i) o = true := by simpa using h46
          have href : refuted (ls ++ ps.take i) c = true := by unfold refuted; rw [ho]; exact hconf
          refine WC.skip ?_
          refine WQ.then_normal ?_
          refine WC.seq ?_
          refine WC.seq ?_
          refine WC.region ?_
          refine WL.step ?_
          refine WL.move rfl rfl ?_
          refine WL.step ?_
          refine WL.move rfl rfl ?_
          refine WL.step ?_
          refine WL.indexAddr F.sl38 rfl rfl rfl hlt ?_
          refine WL.step ?_
          refine WL.load1 F.one54 rfl rfl (v := .slice a1 c.length cap1) (fun w hS => hS.oldc (by simpa using hcell) (by simp)) ?_
          refine WL.step ?_
          refine WL.lenSl F.und54 rfl rfl ?_
          refine WL.step ?_
          refine WL.eqI rfl rfl rfl ?_
          refine WL.nil ?_
          refine WQ.then_normal ?_
          refine WC.cond rfl (fun h53 => ?_) (fun h53 => ?_)
          · skip
            have hce : c.isEmpty = true := by simpa using h53
            have hres : verE m ls ps = (-1, 0) := by rw [hres0, ← hv, ver_step hc, if_pos href, if_pos hce]
            refine WC.seq ?_
            refine WC.region ?_
            refine WL.step ?_
            refine WL.assign rfl rfl ?_
            refine WL.step ?_
            refine WL.assign rfl rfl ?_
            refine WL.nil ?_
            refine WQ.then_normal ?_
            refine WC.ret ?_
            refine WQ.then_ret ?_
            refine WQ.block_ret ?_
            refine WQ.then_ret ?_
            refine WQ.then_ret ?_
            refine WQ.block_ret ?_
            refine WQ.then_ret ?_
            exact WQ.ret (rs := [.tmp 6, .tmp 7]) rfl (.tmp rfl (.tmp rfl .nil)) (fun w hS => ⟨by rw [hres]; rfl, hS.sublist (List.nil_sublist _)⟩)
          · skip
            have hce : c.isEmpty = false := by simpa using h53
            refine WC.skip ?_
            refine WQ.then_normal ?_
            refine WC.region ?_
            refine WL.step ?_
            refine WL.move rfl rfl ?_
            refine WL.step ?_
            refine WL.move rfl rfl ?_
            refine WL.step ?_
            refine WL.move rfl rfl ?_
            refine WL.step ?_
            refine WL.indexAddr F.sl38 rfl rfl rfl hlt ?_
            refine WL.step ?_
            refine WL.load1 F.one54 rfl rfl (v := .slice a1 c.length cap1) (fun w hS => hS.oldc (by simpa using hcell) (by simp)) ?_
            refine WL.step ?_
            refine WL.buildSlice F.sl38 F.ez38 rfl rfl rfl rfl (by repeat (first | exact Built.nil | apply Built.one rfl rfl (by repeat constructor) | apply Built.agg rfl rfl (by repeat constructor))) rfl (fun b59 => ?_)
            refine WL.step ?_
            refine WL.appendE (news := [.slice a1 c.length cap1]) F.el38 rfl rfl rfl (by repeat (first | exact Rem.here | apply Rem.there)) (fun w hS j u hu => by rw [Nat.zero_add]; exact hS.cell (cs := [.slice a1 c.length cap1]) (by repeat (first | exact List.Mem.head _ | apply List.Mem.tail)) hu) rfl (by simp [Value.oneCell']) (Nat.le_trans (m := 1099511627776) (by simp; omega) (by decide)) (by simp; omega) (fun a4 c4 => ?_)
            refine WL.step ?_
            refine WL.assign rfl rfl ?_
            refine WL.nil ?_
            refine WQ.block_normal ?_
            refine WQ.then_normal ?_
            refine WC.region ?_
            refine WL.step ?_
            refine WL.move rfl rfl ?_
            refine WL.step ?_
            refine WL.add rfl rfl rfl ⟨by omega, by omega⟩ ?_
            refine WL.step ?_
            refine WL.assign rfl rfl ?_
            refine WL.nil ?_
            have hun : us ++ us2.take i ++ [.slice a1 c.length cap1] = us ++ us2.take (i + 1) := by rw [List.take_add_one, hu]; simp
            have hNN : (ls ++ ps.take i).length + 1 = (ls ++ ps.take (i + 1)).length := by rw [List.take_add_one, hc]; simp; omega
            refine WQ.chunks (C' := [rowc (.slice a4 ((ls ++ ps.take i).length + 1) c4) ((ls ++ ps.take i).length + 1) 54 1 (hs ++ [.slice a1 c.length cap1])]) (fun w hS => ((St.pick hS (c := rowc (.slice a4 ((ls ++ ps.take i).length + 1) c4) ((ls ++ ps.take i).length + 1) 54 1 (hs ++ [.slice a1 c.length cap1])) (by repeat (first | exact Rem.here | apply Rem.there)))).sublist (List.Sublist.cons_cons _ (List.nil_sublist _))) ?_
            refine WQ.back (⟨i + 1, (ls ++ ps.take i).length + 1, hs ++ [.slice a1 c.length cap1], a4, c4⟩) ?_ ?_ ?_ ?_
            · exact ⟨by show i + 1 ≤ _; omega, hNN, by rw [hhs]; exact hun, by rw [← hv, ver_step hc, if_pos href, if_neg (by rw [hce]; decide)]⟩
            · (show ps.length - (i + 1) < ps.length - i; omega)
            · exact ⟨rfl, rfl, rfl, rfl, rfl, trivial⟩
            · rfl
      · skip
        have hie : i = ps.length := by simp at h36; omega
        subst hie
        rw [List.drop_length] at hv
        have hres : verE m ls ps = ((ps.length : Int), 0) := by rw [hres0, ← hv]; rfl
        refine WC.exit ?_
        refine WQ.then_exit ?_
        refine WQ.then_exit ?_
        refine WQ.block_exit ?_
        refine WQ.then_normal ?_
        refine WC.seq ?_
        refine WC.region ?_
        refine WL.step ?_
        refine WL.move rfl rfl ?_
        refine WL.step ?_
        refine WL.lenSl F.und38 rfl rfl ?_
        refine WL.step ?_
        refine WL.assign rfl rfl ?_
        refine WL.step ?_
        refine WL.assign rfl rfl ?_
        refine WL.nil ?_
        refine WQ.then_normal ?_
        refine WC.ret ?_
        exact WQ.ret (rs := [.tmp 6, .tmp 7]) rfl (.tmp rfl (.tmp rfl .nil)) (fun w hS => ⟨by rw [hres]; rfl, hS.sublist (List.nil_sublist _)⟩)

end Go.Proofs.Ytbippghgkbapnaa

/-
  The search: it ends, its model is the least, and its proof is one.
-/
namespace Go.Proofs.Ytbippghgkbapnaa
open Go Go.Eng Go.Proofs

def satL (M : Nat) (x : Int) : Bool := if 0 < x then M.testBit (x - 1).toNat else !M.testBit (-x - 1).toNat
def satC (M : Nat) (c : List Int) : Bool := c.any (satL M)
def holdsB (ls : List (List Int)) (M : Nat) : Bool := ls.all (satC M)
theorem satL_neg {M : Nat} {x : Int} (hx : x ≠ 0) : satL M (-x) = !satL M x := by
  unfold satL
  by_cases h : 0 < x
  · rw [if_pos h, if_neg (by omega), Int.neg_neg]
  · rw [if_neg h, if_pos (by omega), Bool.not_not]
theorem der_mem {ls : List (List Int)} {fixed : List Int} {z : Int} (h : Fm.Der ls fixed z) : z ∈ fixed ∨ ∃ c ∈ ls, z ∈ c := by
  cases h with
  | fix h => exact .inl h
  | unit hc hx _ => exact .inr ⟨_, hc, hx⟩
theorem der_mono {ls ls' : List (List Int)} {fixed fixed' : List Int} {z : Int} (h1 : ∀ c ∈ ls, c ∈ ls') (h2 : ∀ x ∈ fixed, x ∈ fixed') (h : Fm.Der ls fixed z) : Fm.Der ls' fixed' z := by
  induction h with
  | fix h => exact .fix (h2 _ h)
  | unit hc hx _ ih => exact .unit (h1 _ hc) hx ih
theorem der_sat {ls : List (List Int)} {fixed : List Int} {z : Int} {M : Nat} (hl : ∀ c ∈ ls, ∀ x ∈ c, x ≠ 0) (hM : holdsB ls M = true) (hf : ∀ x ∈ fixed, satL M x = true) (h : Fm.Der ls fixed z) : satL M z = true := by
  induction h with
  | fix h => exact hf _ h
  | @unit c x hc hx h ih =>
    obtain ⟨m, hm, hs⟩ := List.any_eq_true.1 (List.all_eq_true.1 hM c hc)
    by_cases he : m = x
    · rw [← he]; exact hs
    · have := ih m hm he
      rw [satL_neg (hl c hc m hm), hs] at this
      cases this
theorem conf_sat {ls : List (List Int)} {fixed : List Int} {M : Nat} (hl : ∀ c ∈ ls, ∀ x ∈ c, x ≠ 0) (hf0 : ∀ x ∈ fixed, x ≠ 0) (hM : holdsB ls M = true) (hf : ∀ x ∈ fixed, satL M x = true) : ¬ Fm.Conf ls fixed := by
  rintro (h | ⟨x, h1, h2⟩)
  · have := List.all_eq_true.1 hM [] h
    simp [satC] at this
  · have hx : x ≠ 0 := by
      rcases der_mem h1 with h | ⟨c, h3, h4⟩
      · exact hf0 x h
      · exact hl c h3 x h4
    have e1 := der_sat hl hM hf h1
    have e2 := der_sat hl hM hf h2
    rw [satL_neg hx, e1] at e2
    cases e2
theorem negs_negs (c : List Int) : (c.map (fun x => -x)).map (fun x => -x) = c := by simp [Function.comp_def]
theorem refuted_iff {ls : List (List Int)} (hl : ∀ c ∈ ls, ∀ x ∈ c, Lit x) (c : List Int) : refuted ls c = true ↔ Fm.Conf ls (c.map (fun x => -x)) := by
  obtain ⟨o, ho⟩ := Fm.cons_ends (fun d hd x hx => (hl d hd x hx).2) (c.map (fun x => -x))
  have hc := Fm.cons_says (fun x hx => hx) (fun z hz => .fix hz) ho
  unfold refuted
  rw [ho]
  exact Fm.conflict_says hc
theorem clo_says {ls : List (List Int)} {fixed : List Int} {k' : Fm.Kn} {ok : Bool} (hl : ∀ c ∈ ls, ∀ x ∈ c, x ≠ 0) (hf : ∀ x ∈ fixed, x ≠ 0) (h1 : Fm.closedF 65 ls (fixed.foldl Fm.withK (0, 0)) = some (k', ok)) :
    (ok = false → Fm.Conf ls fixed) ∧ (ok = true → ¬ Fm.Conf ls fixed ∧ ∀ z : Int, z ≠ 0 → (Fm.hasK k' z = true ↔ Fm.Der ls fixed z)) :=
  Fm.closed_says hl hf (fixed := fixed) (fun x hx => by rw [Fm.hasK_fold (hf x hx) hf]; simp [hx]) (fun z hz h => by
    rw [Fm.hasK_fold hz hf, Fm.hasK_zero, Bool.or_false, decide_eq_true_eq] at h
    exact .fix h) h1
theorem openK_zero {k : Fm.Kn} : ∀ {n : Nat}, Fm.openK k n = 0 → ∀ v : Nat, 0 < v → v ≤ n → Fm.hasK k (v : Int) = true ∨ Fm.hasK k (-(v : Int)) = true
  | 0, _, v, h1, h2 => by omega
  | n + 1, h, v, h1, h2 => by
    simp only [Fm.openK] at h
    split at h
    · omega
    · rename_i h3
      by_cases hv : v = n + 1
      · subst hv
        cases e1 : Fm.hasK k ((n + 1 : Nat) : Int) with
        | true => exact .inl rfl
        | false =>
          cases e2 : Fm.hasK k (-((n + 1 : Nat) : Int)) with
          | true => exact .inr rfl
          | false => exact absurd (by rw [e1, e2]; rfl) h3
      · exact openK_zero h v h1 (by omega)
theorem openK_pos {k : Fm.Kn} : ∀ {n : Nat}, Fm.openK k n ≠ 0 → 0 < Fm.openK k n ∧ Fm.openK k n ≤ n ∧ Fm.hasK k (Fm.openK k n : Int) = false ∧ Fm.hasK k (-(Fm.openK k n : Int)) = false ∧ ∀ v : Nat, Fm.openK k n < v → v ≤ n → Fm.hasK k (v : Int) = true ∨ Fm.hasK k (-(v : Int)) = true
  | 0, h => by simp [Fm.openK] at h
  | n + 1, h => by
    simp only [Fm.openK] at h ⊢
    split
    · rename_i h3
      simp only [Bool.and_eq_true, Bool.not_eq_true'] at h3
      exact ⟨by omega, Nat.le_refl _, h3.1, h3.2, fun v h1 h2 => by omega⟩
    · rename_i h3
      rw [if_neg h3] at h
      obtain ⟨g1, g2, g3, g4, g5⟩ := openK_pos (n := n) h
      refine ⟨g1, by omega, g3, g4, fun v h1 h2 => ?_⟩
      by_cases hv : v = n + 1
      · subst hv
        cases e1 : Fm.hasK k ((n + 1 : Nat) : Int) with
        | true => exact .inl rfl
        | false =>
          cases e2 : Fm.hasK k (-((n + 1 : Nat) : Int)) with
          | true => exact .inr rfl
          | false => exact absurd (by rw [e1, e2]; rfl) h3
      · exact g5 v h1 (by omega)
theorem dec_len : ∀ {path : List Int} {b : Nat}, path.Pairwise (fun x y => y.natAbs < x.natAbs) → (∀ x ∈ path, x ≠ 0 ∧ x.natAbs ≤ b) → path.length ≤ b
  | [], _, _, _ => Nat.zero_le _
  | x :: path, b, hp, hb => by
    obtain ⟨h1, h2⟩ := List.pairwise_cons.1 hp
    have hx := hb x (by simp)
    have := dec_len (b := b - 1) h2 (fun y hy => ⟨(hb y (by simp [hy])).1, by have := h1 y hy; omega⟩)
    simp only [List.length_cons]
    omega
theorem first_bad (M : Nat) : ∀ (path : List Int), (∀ x ∈ path, satL M x = true) ∨ ∃ i x, path[i]? = some x ∧ satL M x = false ∧ ∀ y ∈ path.take i, satL M y = true
  | [] => .inl (fun x hx => by simp at hx)
  | x :: path => by
    cases hx : satL M x with
    | false => exact .inr ⟨0, x, rfl, hx, fun y hy => by simp at hy⟩
    | true =>
      rcases first_bad M path with h | ⟨i, y, h1, h2, h3⟩
      · refine .inl fun y hy => ?_
        rcases List.mem_cons.1 hy with rfl | hy
        · exact hx
        · exact h y hy
      · refine .inr ⟨i + 1, y, by simpa using h1, h2, fun z hz => ?_⟩
        rw [List.take_succ_cons] at hz
        rcases List.mem_cons.1 hz with rfl | hz
        · exact hx
        · exact h3 z hz
theorem verF_run : ∀ (ps rest ls : List (List Int)) (i : Nat), (∀ j c, ps[j]? = some c → refuted (ls ++ ps.take j) c = true ∧ c ≠ []) → verF ls (ps ++ rest) i = verF (ls ++ ps) rest (i + ps.length)
  | [], rest, ls, i, _ => by simp
  | p :: ps, rest, ls, i, h => by
    have h0 := h 0 p rfl
    simp only [List.take_zero, List.append_nil] at h0
    rw [List.cons_append, verF, if_pos h0.1, if_neg (by simpa using h0.2), verF_run ps rest (ls ++ [p]) (i + 1) (fun j c hj => by
      have := h (j + 1) c (by simpa using hj)
      rw [List.take_succ_cons] at this
      simpa using this)]
    rw [List.length_cons, List.append_assoc, List.singleton_append]
    congr 1
    omega

theorem lt_of_bits : ∀ (i x y : Nat), x.testBit i = false → y.testBit i = true → (∀ j, i < j → x.testBit j = y.testBit j) → x < y
  | 0, x, y, h1, h2, h => by
    have e : x / 2 = y / 2 := Nat.eq_of_testBit_eq fun j => by rw [Nat.testBit_div_two, Nat.testBit_div_two]; exact h (j + 1) (by omega)
    have g1 := Nat.mod_two_eq_zero_iff_testBit_zero.2 h1
    have g2 := Nat.mod_two_eq_one_iff_testBit_zero.2 h2
    omega
  | i + 1, x, y, h1, h2, h => by
    rw [Nat.testBit_add_one] at h1 h2
    have := lt_of_bits i (x / 2) (y / 2) h1 h2 fun j hj => by rw [Nat.testBit_div_two, Nat.testBit_div_two]; exact h (j + 1) (by omega)
    omega

/-! ### the search -/
structure SI (n : Nat) (ls : List (List Int)) (path : List Int) (proof : List (List Int)) : Prop where
  lit : ∀ x ∈ path, x ≠ 0 ∧ x.natAbs ≤ n
  dec : path.Pairwise (fun x y => y.natAbs < x.natAbs)
  hi : ∀ i x, path[i]? = some x → ∀ v : Nat, x.natAbs < v → v ≤ n → Fm.Der (ls ++ proof) (path.take i) (v : Int) ∨ Fm.Der (ls ++ proof) (path.take i) (-(v : Int))
  pos : ∀ i x, path[i]? = some x → 0 < x → ((path.take i).map (fun y => -y) ++ [x]) ∈ ls ++ proof
  ver : ∀ i c, proof[i]? = some c → refuted (ls ++ proof.take i) c = true ∧ c ≠ []
  fit : ∀ c ∈ proof, (∀ x ∈ c, x ≠ 0 ∧ x.natAbs ≤ n) ∧ c.length ≤ 64
  mdl : ∀ M, holdsB ls M = true → holdsB (ls ++ proof) M = true
theorem lit_le {n : Nat} (hn : n ≤ 24) {ls : List (List Int)} (h : ∀ c ∈ ls, ∀ x ∈ c, x ≠ 0 ∧ x.natAbs ≤ n) : ∀ c ∈ ls, ∀ x ∈ c, Lit x := fun c hc x hx => by
  have := h c hc x hx
  exact ⟨this.1, by omega, by omega⟩
theorem SI.all {n : Nat} {ls proof : List (List Int)} {path : List Int} (h : SI n ls path proof) (hls : ∀ c ∈ ls, ∀ x ∈ c, x ≠ 0 ∧ x.natAbs ≤ n) : ∀ c ∈ ls ++ proof, ∀ x ∈ c, x ≠ 0 ∧ x.natAbs ≤ n := fun c hc => by
  rcases List.mem_append.1 hc with hc | hc
  · exact hls c hc
  · exact (h.fit c hc).1
/-- What a conflict teaches, and the path without its last step. -/
theorem SI.pop {n : Nat} {ls proof : List (List Int)} {p : List Int} {x : Int} (hn : n ≤ 24) (hls : ∀ c ∈ ls, ∀ x ∈ c, x ≠ 0 ∧ x.natAbs ≤ n) (h : SI n ls (p ++ [x]) proof) (hc : Fm.Conf (ls ++ proof) (p ++ [x])) : SI n ls p (proof ++ [(p ++ [x]).map (fun y => -y)]) := by
  have hall := h.all hls
  have hmono : ∀ c ∈ ls ++ proof, c ∈ ls ++ (proof ++ [(p ++ [x]).map (fun y => -y)]) := fun c hc => by
    rw [← List.append_assoc]; exact List.mem_append_left _ hc
  have hidx : ∀ i y, p[i]? = some y → (p ++ [x])[i]? = some y ∧ (p ++ [x]).take i = p.take i := fun i y hi => by
    have hlt := (List.getElem?_eq_some_iff.1 hi).1
    exact ⟨by rw [List.getElem?_append_left hlt]; exact hi, by rw [List.take_append_of_le_length (by omega)]⟩
  refine ⟨fun y hy => h.lit y (by simp [hy]), (List.pairwise_append.1 h.dec).1, fun i y hi v h1 h2 => ?_, fun i y hi h1 => ?_, fun i c hi => ?_, fun c hc2 => ?_, fun M hM => ?_⟩
  · obtain ⟨g1, g2⟩ := hidx i y hi
    rcases h.hi i y g1 v h1 h2 with g | g
    · rw [g2] at g; exact .inl (der_mono hmono (fun _ h => h) g)
    · rw [g2] at g; exact .inr (der_mono hmono (fun _ h => h) g)
  · obtain ⟨g1, g2⟩ := hidx i y hi
    have := h.pos i y g1 h1
    rw [g2] at this
    exact hmono _ this
  · by_cases hlt : i < proof.length
    · rw [List.getElem?_append_left hlt] at hi
      rw [List.take_append_of_le_length (by omega)]
      exact h.ver i c hi
    · rw [List.getElem?_append_right (by omega)] at hi
      have hie : i = proof.length := by
        have := (List.getElem?_eq_some_iff.1 hi).1
        simp at this; omega
      subst hie
      rw [Nat.sub_self] at hi
      injection hi with hi
      subst hi
      refine ⟨?_, by simp⟩
      rw [List.take_left' rfl, refuted_iff (lit_le hn hall), negs_negs]
      exact hc
  · rcases List.mem_append.1 hc2 with hc2 | hc2
    · exact h.fit c hc2
    · rw [List.mem_singleton] at hc2
      subst hc2
      refine ⟨fun y hy => ?_, ?_⟩
      · obtain ⟨z, hz, rfl⟩ := List.mem_map.1 hy
        have := h.lit z hz
        exact ⟨by omega, by omega⟩
      · have := dec_len h.dec h.lit
        rw [List.length_map]; omega
  · have hM' := h.mdl M hM
    rw [← List.append_assoc]
    unfold holdsB at hM' ⊢
    rw [List.all_append, hM', Bool.true_and]
    simp only [List.all_cons, List.all_nil, Bool.and_true]
    cases hs : satC M ((p ++ [x]).map (fun y => -y)) with
    | true => rfl
    | false =>
      refine absurd hc (conf_sat (fun c hc x hx => (hall c hc x hx).1) (fun y hy => (h.lit y hy).1) hM' fun y hy => ?_)
      have := List.any_eq_false.1 hs (-y) (List.mem_map.2 ⟨y, hy, rfl⟩)
      rw [satL_neg (h.lit y hy).1] at this
      simpa using this
def tS (v : Nat) : Nat := 4 * 2 ^ v - 3
def rS (x : Int) : Nat := if x < 0 then tS (x.natAbs - 1) + 2 else 1
def remS (n : Nat) (path : List Int) : Nat := match path.getLast? with | none => n | some x => x.natAbs - 1
def muS (n : Nat) (mode : Bool) (path : List Int) : Nat := (path.map rS).sum + 1 + (if mode then 0 else tS (remS n path))
theorem tS_succ (v : Nat) : tS (v + 1) = 2 * tS v + 3 := by
  have : 0 < 2 ^ v := Nat.pow_pos (by decide)
  unfold tS; rw [Nat.pow_succ]; omega
theorem tS_pos (v : Nat) : 0 < tS v := by
  have : 0 < 2 ^ v := Nat.pow_pos (by decide)
  unfold tS; omega
theorem tS_mono {u v : Nat} (h : u ≤ v) : tS u ≤ tS v := by
  have := Nat.pow_le_pow_right (n := 2) (by decide) h
  unfold tS; omega
def GoodS (n : Nat) (ls : List (List Int)) (r : Fm.Ans) : Prop :=
  (r.ok = true ∧ r.proof = [] ∧ r.model < 2 ^ n ∧ holdsB ls r.model = true ∧ ∀ M, M < 2 ^ n → holdsB ls M = true → r.model ≤ M) ∨
  (r.ok = false ∧ r.model = 0 ∧ verF ls r.proof 0 = -1 ∧ (∀ c ∈ r.proof, (∀ x ∈ c, x ≠ 0 ∧ x.natAbs ≤ n) ∧ c.length ≤ 64) ∧ ∀ M, holdsB ls M = false)
theorem model_good {n : Nat} {ls proof : List (List Int)} {path : List Int} {k : Fm.Kn} (hn : n ≤ 24) (hls : ∀ c ∈ ls, ∀ x ∈ c, x ≠ 0 ∧ x.natAbs ≤ n) (h : SI n ls path proof) (hc : ¬ Fm.Conf (ls ++ proof) path) (hk : ∀ z : Int, z ≠ 0 → (Fm.hasK k z = true ↔ Fm.Der (ls ++ proof) path z)) (ho : Fm.openK k n = 0) :
    k.1 < 2 ^ n ∧ holdsB ls k.1 = true ∧ ∀ M, M < 2 ^ n → holdsB ls M = true → k.1 ≤ M := by
  have hall := h.all hls
  have hbit : ∀ i : Nat, k.1.testBit i = Fm.hasK k ((i : Int) + 1) := fun i => by
    unfold Fm.hasK
    rw [if_pos (by omega)]
    congr 1
    omega
  have hsmall : ∀ i, n ≤ i → k.1.testBit i = false := fun i hi => by
    rw [hbit]
    cases e : Fm.hasK k ((i : Int) + 1) with
    | false => rfl
    | true =>
      rcases der_mem ((hk _ (by omega)).1 e) with g | ⟨c, g1, g2⟩
      · have := (h.lit _ g).2; omega
      · have := (hall c g1 _ g2).2; omega
  have hsat : ∀ z : Int, z ≠ 0 → z.natAbs ≤ n → satL k.1 z = Fm.hasK k z := fun z hz hzn => by
    unfold satL
    by_cases hp : 0 < z
    · rw [if_pos hp]; unfold Fm.hasK; rw [if_pos hp]
    · rw [if_neg hp]
      have e1 : k.1.testBit (-z - 1).toNat = Fm.hasK k (-z) := by unfold Fm.hasK; rw [if_pos (by omega)]
      rw [e1]
      rcases openK_zero ho z.natAbs (by omega) hzn with g | g
      · have e2 : ((z.natAbs : Nat) : Int) = -z := by omega
        rw [e2] at g
        rw [g]
        cases e3 : Fm.hasK k z with
        | false => rfl
        | true => exact absurd (.inr ⟨z, (hk z hz).1 e3, (hk (-z) (by omega)).1 g⟩) hc
      · have e2 : (-((z.natAbs : Nat) : Int)) = z := by omega
        rw [e2] at g
        rw [g]
        cases e3 : Fm.hasK k (-z) with
        | false => rfl
        | true => exact absurd (.inr ⟨z, (hk z hz).1 g, (hk (-z) (by omega)).1 e3⟩) hc
  refine ⟨Nat.lt_pow_two_of_testBit _ hsmall, List.all_eq_true.2 fun c hcm => ?_, fun M hM hh => ?_⟩
  · have hcm' : c ∈ ls ++ proof := List.mem_append_left _ hcm
    cases e : satC k.1 c with
    | true => rfl
    | false =>
      refine absurd ?_ hc
      have hno : ∀ m ∈ c, Fm.Der (ls ++ proof) path (-m) := fun m hm => by
        have g := List.any_eq_false.1 e m hm
        have hm0 := hls c hcm m hm
        rw [hsat m hm0.1 hm0.2] at g
        refine (hk (-m) (by omega)).1 ?_
        rcases openK_zero ho m.natAbs (by omega) hm0.2 with g2 | g2
        · by_cases hp : 0 < m
          · rw [show ((m.natAbs : Nat) : Int) = m by omega] at g2; exact absurd g2 g
          · rw [show ((m.natAbs : Nat) : Int) = -m by omega] at g2; exact g2
        · by_cases hp : 0 < m
          · rw [show ((m.natAbs : Nat) : Int) = m by omega] at g2; exact g2
          · rw [show (-((m.natAbs : Nat) : Int)) = m by omega] at g2; exact absurd g2 g
      cases c with
      | nil => exact .inl hcm'
      | cons x r => exact .inr ⟨x, .unit hcm' (by simp) (fun m hm _ => hno m hm), hno x (by simp)⟩
  · have hM' := h.mdl M hh
    have hl0 : ∀ c ∈ ls ++ proof, ∀ x ∈ c, x ≠ 0 := fun c hc x hx => (hall c hc x hx).1
    have agree : ∀ (fx : List Int), (∀ y ∈ fx, y ∈ path) → (∀ y ∈ fx, satL M y = true) → ∀ v : Nat, 0 < v → v ≤ n → Fm.Der (ls ++ proof) fx (v : Int) ∨ Fm.Der (ls ++ proof) fx (-(v : Int)) → k.1.testBit (v - 1) = M.testBit (v - 1) := fun fx hsub hfx v hv hvn hd => by
      have e0 : ((v : Int) - 1).toNat = v - 1 := by omega
      rcases hd with hd | hd
      · have g1 := der_sat hl0 hM' hfx hd
        have g2 := (hk (v : Int) (by omega)).2 (der_mono (fun _ h => h) hsub hd)
        unfold satL at g1
        rw [if_pos (by omega), e0] at g1
        unfold Fm.hasK at g2
        rw [if_pos (by omega), e0] at g2
        rw [g1, g2]
      · have g1 := der_sat hl0 hM' hfx hd
        have g2 := (hk (-(v : Int)) (by omega)).2 (der_mono (fun _ h => h) hsub hd)
        have g3 := hsat (-(v : Int)) (by omega) (by omega)
        rw [satL_neg (by omega)] at g1 g3
        rw [g2] at g3
        unfold satL at g1 g3
        rw [if_pos (by omega), e0] at g1 g3
        simp at g1 g3
        rw [g1, g3]
    rcases first_bad M path with hg | ⟨i, x, h1, h2, h3⟩
    · refine Nat.le_of_eq (Nat.eq_of_testBit_eq fun i => ?_)
      by_cases hi : n ≤ i
      · rw [hsmall i hi, Nat.testBit_lt_two_pow (Nat.lt_of_lt_of_le hM (Nat.pow_le_pow_right (by decide) hi))]
      · have hd : Fm.Der (ls ++ proof) path ((i + 1 : Nat) : Int) ∨ Fm.Der (ls ++ proof) path (-((i + 1 : Nat) : Int)) := by
          rcases openK_zero ho (i + 1) (by omega) (by omega) with g | g
          · exact .inl ((hk _ (by omega)).1 g)
          · exact .inr ((hk _ (by omega)).1 g)
        exact agree path (fun _ h => h) hg (i + 1) (by omega) (by omega) hd
    · have hx := h.lit x (List.mem_of_getElem? h1)
      have hkx : Fm.hasK k x = true := (hk x hx.1).2 (.fix (List.mem_of_getElem? h1))
      by_cases hp : 0 < x
      · exfalso
        have hm := List.all_eq_true.1 hM' _ (h.pos i x h1 hp)
        obtain ⟨m, hm1, hm2⟩ := List.any_eq_true.1 hm
        rcases List.mem_append.1 hm1 with hm1 | hm1
        · obtain ⟨y, hy, rfl⟩ := List.mem_map.1 hm1
          have hy0 := (h.lit y (List.mem_of_mem_take hy)).1
          rw [satL_neg hy0, h3 y hy] at hm2
          cases hm2
        · rw [List.mem_singleton] at hm1
          rw [hm1, h2] at hm2
          cases hm2
      · have g3 := hsat x hx.1 hx.2
        rw [hkx] at g3
        unfold satL at g3 h2
        rw [if_neg hp] at g3 h2
        simp at g3 h2
        refine Nat.le_of_lt (lt_of_bits _ _ _ g3 h2 fun j hj => ?_)
        by_cases hjn : n ≤ j
        · rw [hsmall j hjn, Nat.testBit_lt_two_pow (Nat.lt_of_lt_of_le hM (Nat.pow_le_pow_right (by decide) hjn))]
        · exact agree (path.take i) (fun y hy => List.mem_of_mem_take hy) h3 (j + 1) (by omega) (by omega) (h.hi i x h1 (j + 1) (by omega) (by omega))
/-- A new decision. -/
theorem SI.push {n : Nat} {ls proof : List (List Int)} {p : List Int} {y : Int} (h : SI n ls p proof) (hy : y ≠ 0 ∧ y.natAbs ≤ n) (hd : ∀ x ∈ p, y.natAbs < x.natAbs) (hh : ∀ v : Nat, y.natAbs < v → v ≤ n → Fm.Der (ls ++ proof) p (v : Int) ∨ Fm.Der (ls ++ proof) p (-(v : Int)))
    (hp : 0 < y → (p.map (fun z => -z) ++ [y]) ∈ ls ++ proof) : SI n ls (p ++ [y]) proof := by
  have hidx : ∀ i x, (p ++ [y])[i]? = some x → (p[i]? = some x ∧ (p ++ [y]).take i = p.take i) ∨ (x = y ∧ (p ++ [y]).take i = p) := fun i x hi => by
    by_cases hlt : i < p.length
    · rw [List.getElem?_append_left hlt] at hi
      exact .inl ⟨hi, by rw [List.take_append_of_le_length (by omega)]⟩
    · rw [List.getElem?_append_right (by omega)] at hi
      have hie : i = p.length := by
        have := (List.getElem?_eq_some_iff.1 hi).1
        simp at this; omega
      subst hie
      rw [Nat.sub_self] at hi
      injection hi with hi
      exact .inr ⟨hi.symm, List.take_left' rfl⟩
  refine ⟨fun x hx => ?_, ?_, fun i x hi v h1 h2 => ?_, fun i x hi h1 => ?_, h.ver, h.fit, h.mdl⟩
  · rcases List.mem_append.1 hx with hx | hx
    · exact h.lit x hx
    · rw [List.mem_singleton] at hx; rw [hx]; exact hy
  · refine List.pairwise_append.2 ⟨h.dec, List.pairwise_singleton _ _, fun x hx z hz => ?_⟩
    rw [List.mem_singleton] at hz; rw [hz]; exact hd x hx
  · rcases hidx i x hi with ⟨g1, g2⟩ | ⟨rfl, g2⟩
    · rw [g2]; exact h.hi i x g1 v h1 h2
    · rw [g2]; exact hh v h1 h2
  · rcases hidx i x hi with ⟨g1, g2⟩ | ⟨rfl, g2⟩
    · rw [g2]; exact h.pos i x g1 h1
    · rw [g2]; exact hp h1
theorem getLast_some {path : List Int} {x : Int} (h : path.getLast? = some x) : ∃ p, path = p ++ [x] := by
  obtain ⟨p, hp⟩ := List.getLast?_eq_some_iff.1 h
  exact ⟨p, hp⟩
theorem solve_ok {n : Nat} {ls : List (List Int)} (hn : n ≤ 24) (hls : ∀ c ∈ ls, ∀ x ∈ c, x ≠ 0 ∧ x.natAbs ≤ n) : ∀ (f : Nat) (mode : Bool) (path : List Int) (proof : List (List Int)), SI n ls path proof → (mode = true → Fm.Conf (ls ++ proof) path) → muS n mode path ≤ f → ∃ r, Fm.solveF n f mode (ls ++ proof) path proof = some r ∧ GoodS n ls r
  | 0, mode, path, proof, _, _, hmu => by unfold muS at hmu; omega
  | f + 1, false, path, proof, h, _, hmu => by
    have hall := h.all hls
    have hL := lit_le hn hall
    obtain ⟨⟨k, ok⟩, hcl⟩ := Fm.closed_ends hL (path.foldl Fm.withK (0, 0))
    have hsay := clo_says (fun c hc x hx => (hL c hc x hx).1) (fun x hx => (h.lit x hx).1) hcl
    simp only [Fm.solveF]
    rw [hcl]
    cases ok with
    | false =>
      simp only
      refine solve_ok hn hls f true path proof h (fun _ => hsay.1 rfl) ?_
      have := tS_pos (remS n path)
      unfold muS at hmu ⊢
      simp at hmu ⊢
      omega
    | true =>
      simp only
      obtain ⟨hnc, hk⟩ := hsay.2 rfl
      split
      · rename_i ho
        obtain ⟨g1, g2, g3⟩ := model_good hn hls h hnc hk ho
        exact ⟨_, rfl, .inl ⟨rfl, rfl, g1, g2, g3⟩⟩
      · rename_i ho
        obtain ⟨g1, g2, g3, g4, g5⟩ := openK_pos ho
        have hab : (-(Fm.openK k n : Int)).natAbs = Fm.openK k n := by omega
        have hder : ∀ v : Nat, Fm.openK k n < v → v ≤ n → Fm.Der (ls ++ proof) path (v : Int) ∨ Fm.Der (ls ++ proof) path (-(v : Int)) := fun v h1 h2 => by
          rcases g5 v h1 h2 with g | g
          · exact .inl ((hk _ (by omega)).1 g)
          · exact .inr ((hk _ (by omega)).1 g)
        have hdec : ∀ x ∈ path, Fm.openK k n < x.natAbs := fun x hx => by
          have hx0 := h.lit x hx
          obtain ⟨i, hi⟩ := List.getElem?_of_mem hx
          have hkx := (hk x hx0.1).2 (.fix hx)
          have hne : x.natAbs ≠ Fm.openK k n := fun he => by
            by_cases hp : 0 < x
            · rw [show ((Fm.openK k n : Nat) : Int) = x by omega, hkx] at g3; cases g3
            · rw [show (-((Fm.openK k n : Nat) : Int)) = x by omega, hkx] at g4; cases g4
          by_cases hlt : x.natAbs < Fm.openK k n
          · exfalso
            rcases h.hi i x hi (Fm.openK k n) hlt g2 with g | g
            · have := (hk _ (by omega)).2 (der_mono (fun _ h => h) (fun y hy => List.mem_of_mem_take hy) g)
              rw [g3] at this; cases this
            · have := (hk _ (by omega)).2 (der_mono (fun _ h => h) (fun y hy => List.mem_of_mem_take hy) g)
              rw [g4] at this; cases this
          · omega
        refine solve_ok hn hls f false (path ++ [-(Fm.openK k n : Int)]) proof (h.push ⟨by omega, by omega⟩ (fun x hx => by rw [hab]; exact hdec x hx) (fun v h1 h2 => hder v (by omega) h2) (fun hp => by omega)) (fun hh => by cases hh) ?_
        have hrem : Fm.openK k n ≤ remS n path := by
          unfold remS
          split
          · exact g2
          · rename_i x hx
            obtain ⟨p, rfl⟩ := getLast_some hx
            have := hdec x (by simp)
            omega
        have e1 := tS_mono hrem
        have e2 := tS_succ (Fm.openK k n - 1)
        rw [Nat.sub_add_cancel g1] at e2
        have e3 : rS (-(Fm.openK k n : Int)) = tS (Fm.openK k n - 1) + 2 := by
          unfold rS; rw [if_pos (by omega), hab]
        have e4 : remS n (path ++ [-(Fm.openK k n : Int)]) = Fm.openK k n - 1 := by
          unfold remS; rw [List.getLast?_concat]; simp only; rw [hab]
        unfold muS at hmu ⊢
        rw [e4]
        simp only [List.map_append, List.sum_append, List.map_cons, List.map_nil, List.sum_cons, List.sum_nil, e3] at hmu ⊢
        simp at hmu ⊢
        omega
  | f + 1, true, path, proof, h, hc, hmu => by
    have hall := h.all hls
    have hL := lit_le hn hall
    have hconf := hc rfl
    simp only [Fm.solveF]
    cases hgl : path.getLast? with
    | none =>
      have hpe : path = [] := by simpa using hgl
      subst hpe
      simp only
      refine ⟨_, rfl, .inr ⟨rfl, rfl, ?_, ?_, fun M => ?_⟩⟩
      · show verF ls (proof ++ [List.map (fun x => -x) []]) 0 = -1
        rw [verF_run proof _ ls 0 h.ver]
        have href : refuted (ls ++ proof) (List.map (fun x => -x) []) = true := (refuted_iff hL _).2 hconf
        simp only [verF]
        rw [if_pos href]
        rfl
      · intro c hc
        rcases List.mem_append.1 hc with hc | hc
        · exact h.fit c hc
        · rw [List.mem_singleton] at hc
          subst hc
          exact ⟨fun x hx => by simp at hx, by simp⟩
      · cases hM : holdsB ls M with
        | false => rfl
        | true => exact absurd hconf (conf_sat (fun c hc x hx => (hL c hc x hx).1) (fun x hx => by simp at hx) (h.mdl M hM) (fun x hx => by simp at hx))
    | some last =>
      obtain ⟨p, rfl⟩ := getLast_some hgl
      simp only [List.dropLast_concat]
      have hpop := h.pop hn hls hconf
      have hx0 := h.lit last (by simp)
      have hdl : ∀ x ∈ p, last.natAbs < x.natAbs := fun x hx => (List.pairwise_append.1 h.dec).2.2 x hx last (by simp)
      have hii : (p ++ [last])[p.length]? = some last := by simp
      have htk : (p ++ [last]).take p.length = p := List.take_left' rfl
      have hstep : (p ++ [last]).map (fun y => -y) = p.map (fun y => -y) ++ [-last] := by simp
      have hin : (p ++ [last]).map (fun y => -y) ∈ ls ++ (proof ++ [(p ++ [last]).map (fun y => -y)]) := by simp
      have hmono : ∀ c ∈ ls ++ proof, c ∈ ls ++ (proof ++ [(p ++ [last]).map (fun y => -y)]) := fun c hc => by
        rw [← List.append_assoc]; exact List.mem_append_left _ hc
      split
      · rename_i hneg
        rw [List.append_assoc]
        refine solve_ok hn hls f false (p ++ [-last]) (proof ++ [(p ++ [last]).map (fun y => -y)]) (hpop.push ⟨by omega, by omega⟩ (fun x hx => by have := hdl x hx; omega) (fun v h1 h2 => ?_) (fun _ => ?_)) (fun hh => by cases hh) ?_
        · have := h.hi p.length last hii v (by omega) h2
          rw [htk] at this
          rcases this with g | g
          · exact .inl (der_mono hmono (fun _ h => h) g)
          · exact .inr (der_mono hmono (fun _ h => h) g)
        · have := hin
          rw [hstep] at this ⊢
          exact this
        · have e1 : rS last = tS (last.natAbs - 1) + 2 := by unfold rS; rw [if_pos hneg]
          have e2 : rS (-last) = 1 := by unfold rS; rw [if_neg (by omega)]
          have e3 : remS n (p ++ [-last]) = last.natAbs - 1 := by
            unfold remS; rw [List.getLast?_concat]; simp only [Int.natAbs_neg]
          unfold muS at hmu ⊢
          rw [e3]
          simp only [List.map_append, List.sum_append, List.map_cons, List.map_nil, List.sum_cons, List.sum_nil, e1, e2] at hmu ⊢
          simp at hmu ⊢
          omega
      · rename_i hneg
        rw [List.append_assoc]
        refine solve_ok hn hls f true p (proof ++ [(p ++ [last]).map (fun y => -y)]) hpop (fun _ => ?_) ?_
        · have h1 := hmono _ (h.pos p.length last hii (by omega))
          rw [htk] at h1
          have h2 := hin
          rw [hstep] at h2
          rw [hstep] at h1 ⊢
          refine .inr ⟨last, .unit h1 (by simp) (fun m hm hne => ?_), .unit h2 (by simp) (fun m hm hne => ?_)⟩
          · rcases List.mem_append.1 hm with hm | hm
            · obtain ⟨y, hy, rfl⟩ := List.mem_map.1 hm
              rw [Int.neg_neg]; exact .fix hy
            · rw [List.mem_singleton] at hm; exact absurd hm hne
          · rcases List.mem_append.1 hm with hm | hm
            · obtain ⟨y, hy, rfl⟩ := List.mem_map.1 hm
              rw [Int.neg_neg]; exact .fix hy
            · rw [List.mem_singleton] at hm; exact absurd hm hne
        · have e1 : rS last = 1 := by unfold rS; rw [if_neg hneg]
          unfold muS at hmu ⊢
          simp only [List.map_append, List.sum_append, List.map_cons, List.map_nil, List.sum_cons, List.sum_nil, e1] at hmu ⊢
          simp at hmu ⊢
          omega
theorem solve_all {n : Nat} {ls : List (List Int)} (hn : n ≤ 8) (hls : ∀ c ∈ ls, ∀ x ∈ c, x ≠ 0 ∧ x.natAbs ≤ n) : ∃ r, Fm.solveF n 2000 false ls [] [] = some r ∧ GoodS n ls r := by
  have h := solve_ok (by omega) hls 2000 false [] [] ⟨fun x hx => by simp at hx, .nil, fun i x hi => by simp at hi, fun i x hi => by simp at hi, fun i c hi => by simp at hi, fun c hc => by simp at hc, fun M hM => by rw [List.append_nil]; exact hM⟩ (fun h => by cases h) (by
    have := tS_mono hn
    have e : tS 8 = 1021 := by decide
    simp [muS, remS]
    omega)
  simpa using h
theorem solve_len {n : Nat} : ∀ {f : Nat} {mode : Bool} {all : List (List Int)} {path : List Int} {proof : List (List Int)} {r : Fm.Ans}, Fm.solveF n f mode all path proof = some r → r.proof.length ≤ proof.length + f
  | 0, _, _, _, _, _, h => by simp [Fm.solveF] at h
  | f + 1, false, all, path, proof, r, h => by
    simp only [Fm.solveF] at h
    split at h
    · cases h
    · split at h
      · injection h with h; subst h; simp
      · have := solve_len h; omega
    · have := solve_len h; omega
  | f + 1, true, all, path, proof, r, h => by
    simp only [Fm.solveF] at h
    split at h
    · injection h with h; subst h; simp
    · split at h
      · have := solve_len h; simp at this; omega
      · have := solve_len h; simp at this; omega
theorem may_abs {m : Nat} {ls : List (List Int)} (h : Fm.mayE (m : Int) ls = 0) : ∀ c ∈ ls, ∀ x ∈ c, x ≠ 0 ∧ x.natAbs ≤ m := fun c hc x hx => by
  have h1 := (may_zero h).2.2
  have h2 := (List.all_eq_true.1 h1) c hc
  simp only [Fm.fitsB, Bool.and_eq_true, List.all_eq_true] at h2
  have h3 := h2.2 x hx
  simp [Fm.litB] at h3
  exact ⟨h3.1.1, by omega⟩
theorem fits_of {m : Nat} {ps : List (List Int)} (h : ∀ c ∈ ps, (∀ x ∈ c, x ≠ 0 ∧ x.natAbs ≤ m) ∧ c.length ≤ 64) : ps.all (Fm.fitsB (m : Int)) = true := by
  rw [List.all_eq_true]
  intro c hc
  obtain ⟨h1, h2⟩ := h c hc
  simp only [Fm.fitsB, Bool.and_eq_true, decide_eq_true_eq, List.all_eq_true]
  refine ⟨h2, fun x hx => ?_⟩
  have := h1 x hx
  simp [Fm.litB]
  exact ⟨⟨this.1, by omega⟩, by omega⟩
end Go.Proofs.Ytbippghgkbapnaa
