import Derived.Test.YtbippghgkbapnaaPaOwn3
import Derived.MapKept
import Derived.WideMake
set_option linter.unusedSimpArgs false
set_option linter.unusedVariables false
namespace Go.Proofs.Ytbippghgkbapnaa
open Go Go.Eng Go.Proofs
theorem Clone_c (ls : List (List Int)) (a : Option Addr) (cap : Nat) (us : List Value) (hlen : ls.length ≤ 1099511627776) (ha : a = none ∨ ∃ b off, a = some ⟨b, off, none⟩) (w : World) (hr : RdLL w ls a us) :
    Calls Try.prog 62 [.slice a ls.length cap].toArray w fun e w' => ∃ x : Option Addr × Nat, e = .returned (.slice x.1 ls.length x.2) ∧ St w [] [rowc (.slice x.1 ls.length x.2) ls.length 54 1 us] w' := by
  refine enter Try.func62 rfl Try.ntmps62 rfl (St.init _) ?_
  refine WC.seq ?_
  refine WC.region ?_
  refine WL.step ?_
  refine WL.assign rfl rfl ?_
  refine WL.nil ?_
  refine WQ.then_normal ?_
  refine WC.seq ?_
  refine WC.seq ?_
  rcases ha with rfl | ⟨b, off, rfl⟩
  · skip
    have hus : us = [] := by
      cases us with
      | nil => rfl
      | cons u r =>
        obtain ⟨b, off, h1, _⟩ := hr.hd 0 u rfl
        cases h1
    have hl0 : ls = [] := by (have := hr.len; rw [hus] at this; exact List.eq_nil_of_length_eq_zero this.symm)
    subst hus; subst hl0
    refine WC.region ?_
    refine WL.step ?_
    refine WL.move rfl rfl ?_
    refine WL.step ?_
    refine WL.bin rfl rfl rfl (v := .bool true) (fun w => by kernel_rfl) ?_
    refine WL.nil ?_
    refine WQ.then_normal ?_
    refine WC.condT rfl ?_
    refine WC.seq ?_
    refine WC.region ?_
    refine WL.step ?_
    refine WL.assign rfl rfl ?_
    refine WL.nil ?_
    refine WQ.then_normal ?_
    refine WC.ret ?_
    refine WQ.then_ret ?_
    exact WQ.ret (rs := [.tmp 2]) rfl (.tmp rfl .nil) (fun w hS => ⟨(none, 0), rfl, hS.rowNil 54 1⟩)
  · skip
    refine WC.region ?_
    refine WL.step ?_
    refine WL.move rfl rfl ?_
    refine WL.step ?_
    refine WL.bin rfl rfl rfl (v := .bool false) (fun w => by kernel_rfl) ?_
    refine WL.nil ?_
    refine WQ.then_normal ?_
    refine WC.condF rfl ?_
    refine WC.skip ?_
    refine WQ.then_normal ?_
    refine WC.seq ?_
    refine WC.region ?_
    refine WL.step ?_
    refine WL.buildSlice0 F.sl38 rfl (fun b5 => ?_)
    refine WA.chunks (fun w hS => hS.rowOf (n := 0) (sz := 1) rfl (by decide)) ?_
    refine WL.step ?_
    refine WL.move rfl rfl ?_
    refine WL.step ?_
    refine WL.appendE (news := us) F.el38 rfl rfl rfl (by repeat (first | exact Rem.here | apply Rem.there)) (fun w hS i u hu => ?_) (by rw [hr.len, Nat.mul_one]) (fun u hu => ?_) (Nat.le_trans (m := 1099511627776) (by omega) (by decide)) (by omega) (fun a2 cap2 => ?_)
    · obtain ⟨b2, off2, h1, h2⟩ := hr.hd i u hu
      injection h1 with h1
      injection h1 with h1 h3
      subst h1; subst h3
      exact hS.oldc h2 (by simp)
    · obtain ⟨i, hi, he⟩ := List.getElem_of_mem hu
      have h1 : us[i]? = some u := by rw [List.getElem?_eq_getElem hi, he]
      have h2 : ls[i]? = some (ls[i]'(by rw [← hr.len]; exact hi)) := List.getElem?_eq_getElem _
      obtain ⟨a1, c1, h3, _⟩ := hr.rd i _ u h2 h1
      subst h3
      rfl
    refine WL.step ?_
    refine WL.assign rfl rfl ?_
    refine WL.nil ?_
    refine WQ.then_normal ?_
    refine WC.ret ?_
    refine WQ.ret (rs := [.tmp 2]) rfl (.tmp rfl .nil) (fun w hS => ⟨(a2, cap2), ?_, ?_⟩)
    · simp [tup]
    · simpa using hS

theorem passK_KB : ∀ {ls : List (List Int)} {k : Fm.Kn} {ag : Bool}, KB k → (∀ c ∈ ls, ∀ x ∈ c, Lit x) → (∀ k', Fm.passK ls k ag = .inl k' → KB k') ∧ (∀ k' b, Fm.passK ls k ag = .inr (k', b) → KB k')
  | [], k, ag, hk, _ => ⟨fun k' h => by simp [Fm.passK] at h, fun k' b h => by simp only [Fm.passK, Sum.inr.injEq, Prod.mk.injEq] at h; rw [← h.1]; exact hk⟩
  | c :: cs, k, ag, hk, hl => by
    have hcs : ∀ c ∈ cs, ∀ x ∈ c, Lit x := fun c' h => hl c' (List.mem_cons_of_mem _ h)
    simp only [Fm.passK]
    split
    · exact ⟨fun k' h => by injection h with h; rw [← h]; exact hk, fun k' b h => by cases h⟩
    split
    · exact ⟨fun k' h => by injection h with h; rw [← h]; exact hk, fun k' b h => by cases h⟩
    split
    · rename_i h1 h2 h3
      have hx : Lit (Fm.unitK k c).1 := by
        rcases unitG_mem (x := (Fm.unitK k c).1) (c := c) (op := 0) (k := k) (by have := h3; unfold Fm.unitK at this ⊢; rw [← this]) with h0 | h0
        · exfalso
          apply h2
          rw [h3, h0]; rfl
        · exact hl c (List.mem_cons_self ..) _ h0
      exact passK_KB (hk.with hx) hcs
    · exact passK_KB hk hcs
theorem closedF_KB : ∀ {f : Nat} {ls : List (List Int)} {k k' : Fm.Kn} {b : Bool}, KB k → (∀ c ∈ ls, ∀ x ∈ c, Lit x) → Fm.closedF f ls k = some (k', b) → KB k'
  | 0, ls, k, k', b, _, _, h => by simp [Fm.closedF] at h
  | f + 1, ls, k, k', b, hk, hl, h => by
    have hp := passK_KB (ag := false) hk hl
    simp only [Fm.closedF] at h
    split at h
    · rename_i k2 h2
      simp only [Option.some.injEq, Prod.mk.injEq] at h
      rw [← h.1]; exact hp.1 _ h2
    · rename_i k2 b2 h2
      split at h
      · exact closedF_KB (hp.2 _ _ h2) hl h
      · simp only [Option.some.injEq, Prod.mk.injEq] at h
        rw [← h.1]; exact hp.2 _ _ h2
theorem solveF_true {n f : Nat} {all proof : List (List Int)} {path : List Int} : Fm.solveF n (f + 1) true all path proof = match path.getLast? with
    | none => some ⟨false, 0, proof ++ [path.map (fun x => -x)]⟩
    | some last => if last < 0 then Fm.solveF n f false (all ++ [path.map (fun x => -x)]) (path.dropLast ++ [-last]) (proof ++ [path.map (fun x => -x)]) else Fm.solveF n f true (all ++ [path.map (fun x => -x)]) path.dropLast (proof ++ [path.map (fun x => -x)]) := rfl
structure SG where
  f : Nat
  path : List Int
  ss : List (List Int)
  vs : List Value
  hs : List Value
  ps : List Value
  F : List Nat
  aa : Option Addr
  pa : Option Addr
  ta : Option Addr
  ca : Nat
  pc : Nat
  tc : Nat
  nA : Nat
  nP : Nat
  nT : Nat
structure SInv (n : Nat) (ls : List (List Int)) (us : List Value) (r : Fm.Ans) (mode : Bool) (g : SG) : Prop where
  sol : Fm.solveF n g.f mode (ls ++ g.ss) g.path g.ss = some r
  hhs : g.hs = us ++ g.vs
  hps : g.ps = g.path.map (Value.int .i64)
  hA : g.nA = ls.length + g.ss.length
  hP : g.nP = g.ss.length
  hT : g.nT = g.path.length
  lit : ∀ x ∈ g.path, x ≠ 0 ∧ -24 ≤ x ∧ x ≤ 24
  slit : ∀ c ∈ g.ss, ∀ x ∈ c, Lit x
  slen : ∀ c ∈ g.ss, c.length ≤ 1099511627776
  bp : g.path.length + g.f ≤ 1073741824
  bs : g.ss.length + g.f ≤ 1073741824
/-- The step that shows that a path leads to no model, laid up to i. -/
def stepAt (path : List Int) (i : Nat) : List Value := ((path.map (fun x => -x)).take i).map (Value.int .i64) ++ List.replicate (path.length - i) (.int .i64 0)
theorem stepAt_len {path : List Int} {i : Nat} (h : i ≤ path.length) : (stepAt path i).length = path.length := by
  simp [stepAt]; omega
theorem stepAt_set {path : List Int} {i : Nat} {x : Int} (h : path[i]? = some x) : (stepAt path i).set i (.int .i64 (-x)) = stepAt path (i + 1) := by
  have hi := (List.getElem?_eq_some_iff.1 h).1
  have hl : (((path.map (fun x => -x)).take i).map (Value.int .i64)).length = i := by simp; omega
  unfold stepAt
  rw [List.set_append_right _ _ (by omega), hl, Nat.sub_self, List.take_add_one, List.map_append]
  have hg : (path.map (fun x => -x))[i]? = some (-x) := by simp [h]
  rw [hg]
  have hr : path.length - i = (path.length - (i + 1)) + 1 := by omega
  rw [hr, List.replicate_succ, List.set_cons_zero]
  simp
theorem stepAt_end {path : List Int} : stepAt path path.length = (path.map (fun x => -x)).map (Value.int .i64) := by
  simp [stepAt]
  rw [List.take_of_length_le (by simp)]
theorem Lit.neg {x : Int} (h : x ≠ 0 ∧ -24 ≤ x ∧ x ≤ 24) : Lit (-x) := ⟨by omega, by omega, by omega⟩
theorem litB_lit {n : Nat} {x : Int} (hn : n ≤ 24) (h : Fm.litB (n : Int) x = true) : Lit x := by
  simp only [Fm.litB, Bool.and_eq_true, Bool.not_eq_true', decide_eq_true_eq, beq_eq_false_iff_ne] at h
  exact ⟨h.1.1, by omega, by omega⟩
theorem may_lit {n : Nat} {ls : List (List Int)} (hn : n ≤ 24) (h : ls.all (Fm.fitsB (n : Int)) = true) : (∀ c ∈ ls, ∀ x ∈ c, Lit x) ∧ (∀ c ∈ ls, c.length ≤ 64) := by
  rw [List.all_eq_true] at h
  refine ⟨fun c hc x hx => ?_, fun c hc => ?_⟩
  · have := h c hc
    simp only [Fm.fitsB, Bool.and_eq_true, List.all_eq_true] at this
    exact litB_lit hn (this.2 x hx)
  · have := h c hc
    simp only [Fm.fitsB, Bool.and_eq_true, decide_eq_true_eq] at this
    exact this.1
def SolvePost (w : World) (r : Fm.Ans) (e : Ending) (w' : World) : Prop :=
  ∃ (x : Option Addr × Nat) (F : List Nat) (vs : List Value), e = .returned (.tuple #[.agg #[.bool r.ok, .int .u32 (r.model : Int), .slice x.1 r.proof.length x.2], .int .i64 0]) ∧
    St w [] [rowc (.slice x.1 r.proof.length x.2) r.proof.length 54 1 vs, stepsC F vs r.proof] w'

theorem may_zero {m : Int} {ls : List (List Int)} (h : Fm.mayE m ls = 0) : (0 ≤ m ∧ m ≤ 24) ∧ ls.length ≤ 4096 ∧ ls.all (Fm.fitsB m) = true := by
  unfold Fm.mayE at h
  split at h
  · cases h
  split at h
  · cases h
  split at h
  · rename_i h1 h2 h3
    exact ⟨by omega, by omega, h3⟩
  · cases h
theorem stepAt_zero {path : List Int} {k : Nat} (h : k = path.length) : stepAt path 0 = List.replicate k (.int .i64 0) := by
  simp [stepAt, h]
theorem last_at {path : List Int} {x : Int} {k : Nat} (hk : k = path.length) (h : path.getLast? = some x) : path[k - 1]? = some x ∧ 0 < k := by
  subst hk
  rw [List.getLast?_eq_getElem?] at h
  exact ⟨h, by have := (List.getElem?_eq_some_iff.1 h).1; omega⟩
namespace F
theorem info3 : (Try.prog.info? 3).map (fun i => (i.zero, i.size, i.bytes)) = some (some (.int .i64 0), 1, 8) := by kernel_rfl
end F

theorem Solve_c (m : Int) (ls : List (List Int)) (a : Option Addr) (cap : Nat) (us : List Value) (ha : a = none ∨ ∃ b off, a = some ⟨b, off, none⟩) (w : World) (hr : RdLL w ls a us)
    (f0 : Nat) (r : Fm.Ans) (hf0 : f0 ≤ 536870912) (hsol : ∀ n : Nat, m = (n : Int) → Fm.mayE m ls = 0 → Fm.solveF n f0 false ls [] [] = some r) :
    Calls Try.prog 24 [.int .i64 m, .slice a ls.length cap].toArray w fun e w' => (Fm.mayE m ls ≠ 0 ∧ e = .returned (.tuple #[.agg #[.bool false, .int .u32 0, .slice none 0 0], .int .i64 (Fm.mayE m ls)]) ∧ St w [] [] w') ∨
      (Fm.mayE m ls = 0 ∧ SolvePost w r e w') := by
  refine enter Try.func24 rfl Try.ntmps24 rfl (St.init _) ?_
  refine WC.seq ?_
  refine WC.region ?_
  refine WL.step ?_
  refine WL.alloc F.zero43 rfl (fun b4 => ?_)
  refine WL.step ?_
  refine WL.assign rfl rfl ?_
  refine WL.nil ?_
  refine WQ.then_normal ?_
  refine WC.scope ?_
  refine WC.seq ?_
  refine WC.seq ?_
  refine WC.region ?_
  refine WL.step ?_
  refine WL.move rfl rfl ?_
  refine WL.step ?_
  refine WL.move rfl rfl ?_
  refine WL.step ?_
  refine WL.callV F.fun61 rfl rfl (fun w hS => may_c m ls a cap us w (hr.next hS)) ?_
  refine WL.step ?_
  refine WL.assign rfl rfl ?_
  refine WL.nil ?_
  refine WQ.then_normal ?_
  refine WC.seq ?_
  refine WC.region ?_
  refine WL.step ?_
  refine WL.move rfl rfl ?_
  refine WL.step ?_
  refine WL.neI rfl rfl rfl ?_
  refine WL.nil ?_
  refine WQ.then_normal ?_
  refine WC.cond rfl (fun h23 => ?_) (fun h23 => ?_)
  · skip
    have hme : Fm.mayE m ls ≠ 0 := by simpa using h23
    refine WC.seq ?_
    refine WC.region ?_
    refine WL.step ?_
    refine WL.build F.stT43 rfl (by repeat (first | exact Built.nil | apply Built.one rfl rfl (by repeat constructor) | apply Built.agg rfl rfl (by repeat constructor))) rfl ?_
    refine WL.step ?_
    refine WL.move rfl rfl ?_
    refine WL.step ?_
    refine WL.storeN F.agg43 rfl rfl rfl (by simp [Value.oneCell']) (by repeat (first | exact Upd.here | apply Upd.there)) (by repeat constructor) ?_
    refine WL.step ?_
    refine WL.assign rfl rfl ?_
    refine WL.nil ?_
    refine WQ.then_normal ?_
    refine WC.ret ?_
    refine WQ.then_ret ?_
    refine WQ.scope_ret ?_
    refine WQ.ret (rs := [.cell 4 43, .tmp 5]) rfl (.cellN F.agg43 rfl (by repeat (first | exact List.Mem.head _ | apply List.Mem.tail)) rfl (.tmp rfl .nil)) (fun w hS => .inl ⟨hme, rfl, hS.drop⟩)
  · skip
    have hme : Fm.mayE m ls = 0 := by simpa using h23
    obtain ⟨hm0, hcount, hall⟩ := may_zero hme
    obtain ⟨n, rfl⟩ : ∃ n : Nat, m = (n : Int) := ⟨m.toNat, by omega⟩
    have hn : n ≤ 24 := by omega
    obtain ⟨hlits, hlens⟩ := may_lit hn hall
    have h := hsol n rfl hme
    refine WC.skip ?_
    refine WQ.then_normal ?_
    refine WC.seq ?_
    refine WC.region ?_
    refine WL.step ?_
    refine WL.move rfl rfl ?_
    refine WL.step ?_
    refine WL.callC (β := Option Addr × Nat) (res := fun x => .slice x.1 ls.length x.2) (cs := fun x => [rowc (.slice x.1 ls.length x.2) ls.length 54 1 us]) (Cs := []) (O' := []) F.fun62 (fun d h => by cases h; rfl) rfl (List.Perm.refl _) (by simp) (by simp) (fun w hS _ => Clone_c ls a cap us (by omega) ha w (hr.next hS)) (fun x27 => ?_)
    refine WL.step ?_
    refine WL.assign rfl rfl ?_
    refine WL.nil ?_
    refine WQ.then_normal ?_
    refine WC.seq ?_
    refine WC.region ?_
    refine WL.step ?_
    refine WL.assign rfl rfl ?_
    refine WL.nil ?_
    refine WQ.then_normal ?_
    refine WC.seq ?_
    refine WC.region ?_
    refine WL.step ?_
    refine WL.assign rfl rfl ?_
    refine WL.nil ?_
    refine WQ.then_normal ?_
    refine WC.seq ?_
    refine WC.label ?_
    refine WQ.then_normal ?_
    refine WC.block ?_
    obtain ⟨a1, c1⟩ := x27
    refine WC.chunks (fun w hS => (hS.rowNil 54 1)) ?_
    refine WC.chunks (fun w hS => (hS.rowNil 3 1)) ?_
    refine WC.chunks (fun w hS => hS.stepsNil) ?_
    refine WC.chunks (C' := [pt b4 [.bool false, .int .u32 0, .slice none 0 0] 43, rowc (.slice a1 ls.length c1) ls.length 54 1 us, rowc (.slice none 0 0) 0 54 1 [], rowc (.slice none 0 0) 0 3 1 [], stepsC [] [] []]) (fun w hS => (St.pick (St.pick (St.pick (St.pick hS (c := rowc (.slice none 0 0) 0 3 1 []) (by repeat (first | exact Rem.here | apply Rem.there))) (c := rowc (.slice none 0 0) 0 54 1 []) (by repeat (first | exact Rem.here | apply Rem.there))) (c := rowc (.slice a1 ls.length c1) ls.length 54 1 us) (by repeat (first | exact Rem.here | apply Rem.there))) (c := pt b4 [.bool false, .int .u32 0, .slice none 0 0] 43) (by repeat (first | exact Rem.here | apply Rem.there)))) ?_
    refine WC.loop (α := SG) (SInv n ls us r false) (fun g => [(0, .int .i64 (n : Int)), (4, pp b4), (7, .slice g.aa g.nA g.ca), (8, .slice g.ta g.nT g.tc), (9, .slice g.pa g.nP g.pc)]) (fun g => [pt b4 [.bool false, .int .u32 0, .slice none 0 0] 43, rowc (.slice g.aa g.nA g.ca) g.nA 54 1 g.hs, rowc (.slice g.pa g.nP g.pc) g.nP 54 1 g.vs, rowc (.slice g.ta g.nT g.tc) g.nT 3 1 g.ps, stepsC g.F g.vs g.ss]) (fun g => g.f) (⟨f0, [], [], [], us, [], [], a1, none, none, c1, 0, 0, ls.length, 0, 0⟩) ?_ ?_ ?_ ?_
    · exact ⟨by rw [List.append_nil]; exact h, by rw [List.append_nil], rfl, rfl, rfl, rfl, by simp, by simp, by simp, by simp; omega, by simp; omega⟩
    · exact ⟨rfl, rfl, rfl, rfl, rfl, trivial⟩
    · rfl
    rintro ⟨f, path, ss, vs, hs, ps, Fb, aa, pa, ta, ca, pc, tc, nA, nP, nT⟩ hI
    obtain ⟨sol, hhs, hps, hA, hP, hT, hlit, hslit, hslen, hbp, hbs⟩ := hI
    dsimp only at sol hhs hps hA hP hT hlit hslit hslen hbp hbs
    obtain ⟨f, rfl⟩ : ∃ f2, f = f2 + 1 := by cases f with | zero => simp [Fm.solveF] at sol | succ f => exact ⟨f, rfl⟩
    show WC _ _ _ _ _ _ _ [(0, .int .i64 (n : Int)), (4, pp b4), (7, .slice aa nA ca), (8, .slice ta nT tc), (9, .slice pa nP pc)] [pt b4 [.bool false, .int .u32 0, .slice none 0 0] 43, rowc (.slice aa nA ca) nA 54 1 hs, rowc (.slice pa nP pc) nP 54 1 vs, rowc (.slice ta nT tc) nT 3 1 ps, stepsC Fb vs ss]
    simp only [Fm.solveF] at sol
    obtain rfl : nA = (ls ++ ss).length := by rw [hA, List.length_append]
    have hLL : ∀ c ∈ ls ++ ss, ∀ x ∈ c, Lit x := by
      intro c hc
      rcases List.mem_append.1 hc with hc | hc
      · exact hlits c hc
      · exact hslit c hc
    have hLen : ∀ c ∈ ls ++ ss, c.length ≤ 1099511627776 := by
      intro c hc
      rcases List.mem_append.1 hc with hc | hc
      · have := hlens c hc; omega
      · exact hslen c hc
    refine WC.block ?_
    refine WC.seq ?_
    refine WC.region ?_
    refine WL.step ?_
    refine WL.build F.stT103 rfl (by repeat (first | exact Built.nil | apply Built.one rfl rfl (by repeat constructor) | apply Built.agg rfl rfl (by repeat constructor))) rfl ?_
    refine WL.step ?_
    refine WL.alloc F.zero103 rfl (fun b10 => ?_)
    refine WL.step ?_
    refine WL.storeN F.agg103 rfl rfl rfl (by simp [Value.oneCell']) (by repeat (first | exact Upd.here | apply Upd.there)) (by repeat constructor) ?_
    refine WL.nil ?_
    refine WQ.then_normal ?_
    refine WC.seq ?_
    refine WC.seq ?_
    refine WC.region ?_
    refine WL.step ?_
    refine WL.move rfl rfl ?_
    refine WL.step ?_
    refine WL.lenSl F.und54 rfl rfl ?_
    refine WL.step ?_
    refine WL.move rfl rfl ?_
    refine WL.nil ?_
    refine WQ.then_normal ?_
    refine WC.block ?_
    refine WC.loop (α := Nat × Fm.Kn) (fun g => g.1 ≤ nT ∧ KB g.2 ∧ g.2 = (path.take g.1).foldl Fm.withK (0, 0)) (fun g => [(0, .int .i64 (n : Int)), (4, pp b4), (7, .slice aa (ls ++ ss).length ca), (8, .slice ta nT tc), (9, .slice pa nP pc), (10, pp b10), (29, .slice ta nT tc), (30, .int .i64 (nT : Int)), (31, .int .i64 (g.1 : Int))]) (fun g => [pt b10 [.int .u32 (g.2.1 : Int), .int .u32 (g.2.2 : Int)] 103, pt b4 [.bool false, .int .u32 0, .slice none 0 0] 43, rowc (.slice aa (ls ++ ss).length ca) (ls ++ ss).length 54 1 hs, rowc (.slice pa nP pc) nP 54 1 vs, rowc (.slice ta nT tc) nT 3 1 ps, stepsC Fb vs ss]) (fun g => nT - g.1) ((0, (0, 0))) ?_ ?_ ?_ ?_
    · exact ⟨Nat.zero_le _, ⟨by decide, by decide⟩, rfl⟩
    · exact ⟨rfl, rfl, rfl, rfl, rfl, rfl, rfl, rfl, rfl, trivial⟩
    · rfl
    rintro ⟨i, k⟩ ⟨hi, hk, hke⟩
    dsimp only at hi hk hke
    show WC _ _ _ _ _ _ _ [(0, .int .i64 (n : Int)), (4, pp b4), (7, .slice aa (ls ++ ss).length ca), (8, .slice ta nT tc), (9, .slice pa nP pc), (10, pp b10), (29, .slice ta nT tc), (30, .int .i64 (nT : Int)), (31, .int .i64 (i : Int))] [pt b10 [.int .u32 (k.1 : Int), .int .u32 (k.2 : Int)] 103, pt b4 [.bool false, .int .u32 0, .slice none 0 0] 43, rowc (.slice aa (ls ++ ss).length ca) (ls ++ ss).length 54 1 hs, rowc (.slice pa nP pc) nP 54 1 vs, rowc (.slice ta nT tc) nT 3 1 ps, stepsC Fb vs ss]
    refine WC.seq ?_
    refine WC.region ?_
    refine WL.step ?_
    refine WL.ltI rfl rfl rfl ?_
    refine WL.nil ?_
    refine WQ.then_normal ?_
    refine WC.seq ?_
    refine WC.cond rfl (fun h32 => ?_) (fun h32 => ?_)
    · skip
      have hlt : i < nT := by simpa using h32
      obtain ⟨x, hx⟩ : ∃ x, path[i]? = some x := ⟨_, List.getElem?_eq_getElem (by omega)⟩
      have hxl := hlit x (List.mem_of_getElem? hx)
      refine WC.know (φ := ∃ g, ta = some ⟨g, 0, none⟩ ∧ nT = nT ∧ nT ≤ tc) (fun w hS => rowc_addr (hS.ok (rowc (.slice ta nT tc) nT 3 1 ps) (by repeat (first | exact List.Mem.head _ | apply List.Mem.tail))) (by omega)) (fun ⟨g, hta, _, _⟩ => ?_)
      subst hta
      refine WC.skip ?_
      refine WQ.then_normal ?_
      refine WC.seq ?_
      refine WC.block ?_
      refine WC.seq ?_
      refine WC.region ?_
      refine WL.step ?_
      refine WL.indexAddr F.sl54 rfl rfl rfl hlt ?_
      refine WL.step ?_
      refine WL.load1 F.one3 rfl rfl (v := .int .i64 x) (fun w hS => by simpa using rowc_cell (hS.ok (rowc (.slice (some ⟨g, 0, none⟩) nT tc) nT 3 1 ps) (by repeat (first | exact List.Mem.head _ | apply List.Mem.tail))) (u := .int .i64 x) (by rw [hps]; simp [hx])) ?_
      refine WL.step ?_
      refine WL.assign rfl rfl ?_
      refine WL.nil ?_
      refine WQ.then_normal ?_
      refine WC.region ?_
      refine WL.step ?_
      refine WL.loadW F.agg103 rfl rfl (by repeat (first | exact List.Mem.head _ | apply List.Mem.tail)) rfl ?_
      refine WL.step ?_
      refine WL.move rfl rfl ?_
      refine WL.step ?_
      refine WL.callV F.fun63 rfl rfl (fun w _ => with_c k x hk ⟨hxl.1, by omega, by omega⟩ w) ?_
      refine WL.step ?_
      refine WL.storeN F.agg103 rfl rfl rfl (by simp [Value.oneCell']) (by repeat (first | exact Upd.here | apply Upd.there)) (by repeat constructor) ?_
      refine WL.nil ?_
      refine WQ.block_normal ?_
      refine WQ.then_normal ?_
      refine WC.region ?_
      refine WL.step ?_
      refine WL.add rfl rfl rfl ⟨by omega, by omega⟩ ?_
      refine WL.step ?_
      refine WL.move rfl rfl ?_
      refine WL.nil ?_
      refine WQ.back ((i + 1, Fm.withK k x)) ?_ ?_ ?_ ?_
      · exact ⟨by show i + 1 ≤ nT; omega, hk.with ⟨hxl.1, by omega, by omega⟩, by show Fm.withK k x = _; rw [List.take_add_one, hx, List.foldl_append, ← hke]; rfl⟩
      · (show nT - (i + 1) < nT - i; omega)
      · exact ⟨rfl, rfl, rfl, rfl, rfl, rfl, rfl, rfl, rfl, trivial⟩
      · rfl
    · skip
      have hie : nT = i := by simp at h32; omega
      subst hie
      rw [hT, List.take_length] at hke
      refine WC.exit ?_
      refine WQ.then_exit ?_
      refine WQ.then_exit ?_
      refine WQ.block_exit ?_
      refine WQ.then_normal ?_
      refine WC.seq ?_
      rcases hcl : Fm.closedF 65 (ls ++ ss) k with _ | ⟨k1, ok⟩
      · skip
        rw [← hke, hcl] at sol
        cases sol
      · skip
        rw [← hke, hcl] at sol
        have hk1 := closedF_KB hk hLL hcl
        refine WC.region ?_
        refine WL.step ?_
        refine WL.move rfl rfl ?_
        refine WL.step ?_
        refine WL.loadW F.agg103 rfl rfl (by repeat (first | exact List.Mem.head _ | apply List.Mem.tail)) rfl ?_
        refine WL.step ?_
        refine WL.callV F.fun64 rfl rfl (fun w hS => closed_c (ls ++ ss) aa ca hs k 65 (k1, ok) hk hLL hLen (by simp; omega) w (hr.join hS hhs (by rw [List.length_append]) (n := (ls ++ ss).length) (cap := ca) (F := Fb) (vs := vs) (by repeat (first | exact List.Mem.head _ | apply List.Mem.tail)) (by repeat (first | exact List.Mem.head _ | apply List.Mem.tail))) hcl) ?_
        refine WL.step ?_
        refine WL.move rfl rfl ?_
        refine WL.step ?_
        refine WL.extract rfl rfl rfl ?_
        refine WL.step ?_
        refine WL.extract rfl rfl rfl ?_
        refine WL.step ?_
        refine WL.storeN F.agg103 rfl rfl rfl (by simp [Value.oneCell']) (by repeat (first | exact Upd.here | apply Upd.there)) (by repeat constructor) ?_
        refine WL.step ?_
        refine WL.assign rfl rfl ?_
        refine WL.nil ?_
        refine WQ.then_normal ?_
        refine WC.seq ?_
        refine WC.seq ?_
        refine WC.region ?_
        refine WL.step ?_
        refine WL.move rfl rfl ?_
        refine WL.nil ?_
        refine WQ.then_normal ?_
        refine WC.cond rfl (fun h45 => ?_) (fun h45 => ?_)
        · skip
          have hok : ok = true := h45
          subst hok
          simp only at sol
          refine WC.seq ?_
          refine WC.seq ?_
          refine WC.region ?_
          refine WL.step ?_
          refine WL.move rfl rfl ?_
          refine WL.step ?_
          refine WL.assign rfl rfl ?_
          refine WL.nil ?_
          refine WQ.then_normal ?_
          refine WC.block ?_
          refine WC.loop (α := Nat) (fun i => i ≤ n ∧ Fm.openK k1 n = Fm.openK k1 i) (fun i => [(0, .int .i64 (n : Int)), (4, pp b4), (7, .slice aa (ls ++ ss).length ca), (8, .slice ta nT tc), (9, .slice pa nP pc), (10, pp b10), (14, .int .i64 (i : Int))]) (fun _ => [pt b10 [.int .u32 (k1.1 : Int), .int .u32 (k1.2 : Int)] 103, pt b4 [.bool false, .int .u32 0, .slice none 0 0] 43, rowc (.slice aa (ls ++ ss).length ca) (ls ++ ss).length 54 1 hs, rowc (.slice pa nP pc) nP 54 1 vs, rowc (.slice ta nT tc) nT 3 1 ps, stepsC Fb vs ss]) (fun i => i) (n) ?_ ?_ ?_ ?_
          · exact ⟨Nat.le_refl _, rfl⟩
          · exact ⟨rfl, rfl, rfl, rfl, rfl, rfl, rfl, trivial⟩
          · rfl
          rintro i ⟨hi, hop⟩
          refine WC.seq ?_
          refine WC.seq ?_
          refine WC.region ?_
          refine WL.step ?_
          refine WL.move rfl rfl ?_
          refine WL.step ?_
          refine WL.gtI rfl rfl rfl ?_
          refine WL.nil ?_
          refine WQ.then_normal ?_
          refine WC.cond rfl (fun h48 => ?_) (fun h48 => ?_)
          · skip
            have hi0 : 0 < i := by simp at h48; omega
            have hLi : Lit (i : Int) := ⟨by omega, by omega, by omega⟩
            have hLn : Lit (-(i : Int)) := ⟨by omega, by omega, by omega⟩
            have hok2 : Fm.openK k1 i = if !Fm.hasK k1 (i : Int) && !Fm.hasK k1 (-(i : Int)) then i else Fm.openK k1 (i - 1) := by
              obtain ⟨j, rfl⟩ : ∃ j, i = j + 1 := ⟨i - 1, by omega⟩
              simp only [Fm.openK, Nat.add_sub_cancel]
            refine WC.skip ?_
            refine WQ.then_normal ?_
            refine WC.seq ?_
            refine WC.block ?_
            refine WC.seq ?_
            refine WC.region ?_
            refine WL.step ?_
            refine WL.loadW F.agg103 rfl rfl (by repeat (first | exact List.Mem.head _ | apply List.Mem.tail)) rfl ?_
            refine WL.step ?_
            refine WL.move rfl rfl ?_
            refine WL.step ?_
            refine WL.callV F.fun65 rfl rfl (fun w _ => has_c k1 _ hk1 hLi w) ?_
            refine WL.step ?_
            refine WL.not rfl rfl ?_
            refine WL.step ?_
            refine WL.move rfl rfl ?_
            refine WA.splitB (i := 55) rfl (fun h55 => ?_) (fun h55 => ?_)
            · skip
              refine WL.step (WL.guardT rfl rfl rfl ?_)
              refine WL.loadW F.agg103 rfl rfl (by repeat (first | exact List.Mem.head _ | apply List.Mem.tail)) rfl ?_
              refine WL.step (WL.guardT rfl rfl rfl ?_)
              refine WL.move rfl rfl ?_
              refine WL.step (WL.guardT rfl rfl rfl ?_)
              refine WL.negI rfl rfl (by omega) ?_
              refine WL.step (WL.guardT rfl rfl rfl ?_)
              refine WL.callV F.fun65 rfl rfl (fun w _ => has_c k1 _ hk1 hLn w) ?_
              refine WL.step (WL.guardT rfl rfl rfl ?_)
              refine WL.not rfl rfl ?_
              refine WL.step ?_
              refine WL.pickT rfl rfl rfl ?_
              refine WL.nil ?_
              refine WQ.then_normal ?_
              refine WC.cond rfl (fun h61 => ?_) (fun h61 => ?_)
              · skip
                have hoi : Fm.openK k1 n = i := by rw [hop, hok2, h55, h61]; rfl
                rw [if_neg (by rw [hoi]; omega), hoi] at sol
                refine WC.seq ?_
                refine WC.region ?_
                refine WL.step ?_
                refine WL.move rfl rfl ?_
                refine WL.step ?_
                refine WL.move rfl rfl ?_
                refine WL.step ?_
                refine WL.negI rfl rfl (by omega) ?_
                refine WL.step ?_
                refine WL.buildSlice F.sl54 F.ez54 rfl rfl rfl rfl (by repeat (first | exact Built.nil | apply Built.one rfl rfl (by repeat constructor) | apply Built.agg rfl rfl (by repeat constructor))) rfl (fun b65 => ?_)
                refine WL.step ?_
                refine WL.appendE (news := [.int .i64 (-(i : Int))]) F.el54 rfl rfl rfl (by repeat (first | exact Rem.here | apply Rem.there)) (fun w hS j u hu => by rw [Nat.zero_add]; exact hS.cell (cs := [.int .i64 (-(i : Int))]) (by repeat (first | exact List.Mem.head _ | apply List.Mem.tail)) hu) rfl (by simp [Value.oneCell']) (Nat.le_trans (m := 1099511627776) (by omega) (by decide)) (by omega) (fun a3 c3 => ?_)
                refine WL.step ?_
                refine WL.assign rfl rfl ?_
                refine WL.nil ?_
                refine WQ.then_normal ?_
                refine WC.exit ?_
                refine WQ.block_other rfl ?_
                refine WQ.then_exit ?_
                refine WQ.then_exit ?_
                refine WQ.block_other rfl ?_
                refine WQ.then_exit ?_
                refine WQ.then_exit ?_
                refine WQ.block_exit ?_
                refine WQ.chunks (C' := [pt b4 [.bool false, .int .u32 0, .slice none 0 0] 43, rowc (.slice aa (ls ++ ss).length ca) (ls ++ ss).length 54 1 hs, rowc (.slice pa nP pc) nP 54 1 vs, rowc (.slice a3 (nT + 1) c3) (nT + 1) 3 1 (ps ++ [.int .i64 (-(i : Int))]), stepsC Fb vs ss]) (fun w hS => ((St.pick (St.pick (St.pick (St.pick (St.pick hS (c := stepsC Fb vs ss) (by repeat (first | exact Rem.here | apply Rem.there))) (c := rowc (.slice a3 (nT + 1) c3) (nT + 1) 3 1 (ps ++ [.int .i64 (-(i : Int))])) (by repeat (first | exact Rem.here | apply Rem.there))) (c := rowc (.slice pa nP pc) nP 54 1 vs) (by repeat (first | exact Rem.here | apply Rem.there))) (c := rowc (.slice aa (ls ++ ss).length ca) (ls ++ ss).length 54 1 hs) (by repeat (first | exact Rem.here | apply Rem.there))) (c := pt b4 [.bool false, .int .u32 0, .slice none 0 0] 43) (by repeat (first | exact Rem.here | apply Rem.there)))).sublist (List.Sublist.cons_cons _ (List.Sublist.cons_cons _ (List.Sublist.cons_cons _ (List.Sublist.cons_cons _ (List.Sublist.cons_cons _ (List.nil_sublist _))))))) ?_
                refine WQ.back (⟨f, path ++ [-(i : Int)], ss, vs, hs, ps ++ [.int .i64 (-(i : Int))], Fb, aa, pa, a3, ca, pc, c3, (ls ++ ss).length, nP, nT + 1⟩) ?_ ?_ ?_ ?_
                · exact ⟨sol, hhs, by show ps ++ _ = (path ++ _).map _; rw [hps]; simp, by show (ls ++ ss).length = _; rw [List.length_append], hP, by show nT + 1 = (path ++ [_]).length; rw [hT]; simp, by intro x hx; rcases List.mem_append.1 hx with hx | hx; exact hlit x hx; simp at hx; subst hx; exact ⟨by omega, by omega, by omega⟩, hslit, hslen, by show (path ++ [_]).length + f ≤ _; simp; omega, by show ss.length + f ≤ _; omega⟩
                · exact Nat.lt_succ_self f
                · exact ⟨rfl, rfl, rfl, rfl, rfl, trivial⟩
                · rfl
              · skip
                have hop2 : Fm.openK k1 n = Fm.openK k1 (i - 1) := by rw [hop, hok2, h55, h61]; rfl
                refine WC.skip ?_
                refine WQ.block_normal ?_
                refine WQ.then_normal ?_
                refine WC.region ?_
                refine WL.step ?_
                refine WL.move rfl rfl ?_
                refine WL.step ?_
                refine WL.sub rfl rfl rfl ⟨by omega, by omega⟩ ?_
                refine WL.step ?_
                refine WL.assign rfl rfl ?_
                refine WL.nil ?_
                obtain ⟨i, rfl⟩ : ∃ i2, i = i2 + 1 := ⟨i - 1, by omega⟩
                rw [show (((i + 1 : Nat) : Int) - 1) = (i : Int) by omega]
                refine WQ.back (i) ?_ ?_ ?_ ?_
                · exact ⟨by omega, hop2⟩
                · omega
                · exact ⟨rfl, rfl, rfl, rfl, rfl, rfl, rfl, trivial⟩
                · rfl
            · skip
              have hop2 : Fm.openK k1 n = Fm.openK k1 (i - 1) := by rw [hop, hok2, h55]; rfl
              refine WL.step (WL.guardF rfl rfl rfl rfl rfl rfl ?_)
              refine WL.step (WL.guardF rfl rfl rfl rfl rfl rfl ?_)
              refine WL.step (WL.guardF rfl rfl rfl rfl rfl rfl ?_)
              refine WL.step (WL.guardF rfl rfl rfl rfl rfl rfl ?_)
              refine WL.step (WL.guardF rfl rfl rfl rfl rfl rfl ?_)
              refine WL.step ?_
              refine WL.pickF rfl rfl rfl ?_
              refine WL.nil ?_
              refine WQ.then_normal ?_
              refine WC.condF rfl ?_
              refine WC.skip ?_
              refine WQ.block_normal ?_
              refine WQ.then_normal ?_
              refine WC.region ?_
              refine WL.step ?_
              refine WL.move rfl rfl ?_
              refine WL.step ?_
              refine WL.sub rfl rfl rfl ⟨by omega, by omega⟩ ?_
              refine WL.step ?_
              refine WL.assign rfl rfl ?_
              refine WL.nil ?_
              obtain ⟨i, rfl⟩ : ∃ i2, i = i2 + 1 := ⟨i - 1, by omega⟩
              rw [show (((i + 1 : Nat) : Int) - 1) = (i : Int) by omega]
              refine WQ.back (i) ?_ ?_ ?_ ?_
              · exact ⟨by omega, hop2⟩
              · omega
              · exact ⟨rfl, rfl, rfl, rfl, rfl, rfl, rfl, trivial⟩
              · rfl
          · skip
            have hi0 : i = 0 := by simp at h48; omega
            subst hi0
            have hop0 : Fm.openK k1 n = 0 := hop
            rw [if_pos hop0] at sol
            injection sol with sol
            refine WC.exit ?_
            refine WQ.then_exit ?_
            refine WQ.then_exit ?_
            refine WQ.block_exit ?_
            refine WQ.then_normal ?_
            refine WC.seq ?_
            refine WC.region ?_
            refine WL.step ?_
            refine WL.fieldAddr0 F.fld103_0 rfl rfl ?_
            refine WL.step ?_
            refine WL.loadP F.one41 rfl rfl (by repeat (first | exact List.Mem.head _ | apply List.Mem.tail)) rfl ?_
            refine WL.step ?_
            refine WL.build F.stT43 rfl (by repeat (first | exact Built.nil | apply Built.one rfl rfl (by repeat constructor) | apply Built.agg rfl rfl (by repeat constructor))) rfl ?_
            refine WL.step ?_
            refine WL.storeN F.agg43 rfl rfl rfl (by simp [Value.oneCell']) (by repeat (first | exact Upd.here | apply Upd.there)) (by repeat constructor) ?_
            refine WL.step ?_
            refine WL.assign rfl rfl ?_
            refine WL.nil ?_
            refine WQ.then_normal ?_
            refine WC.ret ?_
            refine WQ.then_ret ?_
            refine WQ.block_ret ?_
            refine WQ.then_ret ?_
            refine WQ.block_ret ?_
            refine WQ.scope_ret ?_
            refine WQ.ret (rs := [.cell 4 43, .tmp 5]) rfl (.cellN F.agg43 rfl (by repeat (first | exact List.Mem.head _ | apply List.Mem.tail)) rfl (.tmp rfl .nil)) (fun w hS => .inr ⟨hme, (none, 0), [], [], ?_, ?_⟩)
            · rw [← sol]; rfl
            · rw [← sol]; exact (((hS.sublist (List.nil_sublist _)).stepsNil).rowNil 54 1)
        · skip
          have hok : ok = false := h45
          subst hok
          simp only at sol
          refine WC.skip ?_
          refine WQ.then_normal ?_
          refine WC.block ?_
          obtain ⟨fo, hfo0⟩ : ∃ fo, fo = f := ⟨_, rfl⟩
          refine WC.chunks (C' := [pt b4 [.bool false, .int .u32 0, .slice none 0 0] 43, rowc (.slice aa (ls ++ ss).length ca) (ls ++ ss).length 54 1 hs, rowc (.slice pa nP pc) nP 54 1 vs, rowc (.slice ta nT tc) nT 3 1 ps, stepsC Fb vs ss]) (fun w hS => ((St.pick (St.pick (St.pick (St.pick (St.pick hS (c := stepsC Fb vs ss) (by repeat (first | exact Rem.here | apply Rem.there))) (c := rowc (.slice ta nT tc) nT 3 1 ps) (by repeat (first | exact Rem.here | apply Rem.there))) (c := rowc (.slice pa nP pc) nP 54 1 vs) (by repeat (first | exact Rem.here | apply Rem.there))) (c := rowc (.slice aa (ls ++ ss).length ca) (ls ++ ss).length 54 1 hs) (by repeat (first | exact Rem.here | apply Rem.there))) (c := pt b4 [.bool false, .int .u32 0, .slice none 0 0] 43) (by repeat (first | exact Rem.here | apply Rem.there)))).sublist (List.Sublist.cons_cons _ (List.Sublist.cons_cons _ (List.Sublist.cons_cons _ (List.Sublist.cons_cons _ (List.Sublist.cons_cons _ (List.nil_sublist _))))))) ?_
          refine WC.loop (α := SG) (fun g => SInv n ls us r true g ∧ g.f ≤ fo) (fun g => [(0, .int .i64 (n : Int)), (4, pp b4), (7, .slice g.aa g.nA g.ca), (8, .slice g.ta g.nT g.tc), (9, .slice g.pa g.nP g.pc)]) (fun g => [pt b4 [.bool false, .int .u32 0, .slice none 0 0] 43, rowc (.slice g.aa g.nA g.ca) g.nA 54 1 g.hs, rowc (.slice g.pa g.nP g.pc) g.nP 54 1 g.vs, rowc (.slice g.ta g.nT g.tc) g.nT 3 1 g.ps, stepsC g.F g.vs g.ss]) (fun g => g.f) (⟨f, path, ss, vs, hs, ps, Fb, aa, pa, ta, ca, pc, tc, (ls ++ ss).length, nP, nT⟩) ?_ ?_ ?_ ?_
          · exact ⟨⟨sol, hhs, hps, by show (ls ++ ss).length = _; rw [List.length_append], hP, hT, hlit, hslit, hslen, by show path.length + f ≤ _; omega, by show ss.length + f ≤ _; omega⟩, by show f ≤ fo; omega⟩
          · exact ⟨rfl, rfl, rfl, rfl, rfl, trivial⟩
          · rfl
          rintro ⟨f, path, ss, vs, hs, ps, Fb, aa, pa, ta, ca, pc, tc, nA, nP, nT⟩ ⟨hI, hfo⟩
          dsimp only at hfo
          obtain ⟨sol, hhs, hps, hA, hP, hT, hlit, hslit, hslen, hbp, hbs⟩ := hI
          dsimp only at sol hhs hps hA hP hT hlit hslit hslen hbp hbs
          obtain ⟨f, rfl⟩ : ∃ f2, f = f2 + 1 := by cases f with | zero => simp [Fm.solveF] at sol | succ f => exact ⟨f, rfl⟩
          show WC _ _ _ _ _ _ _ [(0, .int .i64 (n : Int)), (4, pp b4), (7, .slice aa nA ca), (8, .slice ta nT tc), (9, .slice pa nP pc)] [pt b4 [.bool false, .int .u32 0, .slice none 0 0] 43, rowc (.slice aa nA ca) nA 54 1 hs, rowc (.slice pa nP pc) nP 54 1 vs, rowc (.slice ta nT tc) nT 3 1 ps, stepsC Fb vs ss]
          rw [solveF_true] at sol
          refine WC.block ?_
          refine WC.seq ?_
          refine WC.region ?_
          refine WL.step ?_
          refine WL.move rfl rfl ?_
          refine WL.step ?_
          refine WL.lenSl F.und54 rfl rfl ?_
          refine WL.step ?_
          refine WL.makeSlice F.und54 F.info3 rfl rfl rfl rfl (by omega) (by omega) (fun b72 => ?_)
          rw [← stepAt_zero hT]
          refine WL.step ?_
          refine WL.assign rfl rfl ?_
          refine WL.nil ?_
          refine WQ.then_normal ?_
          refine WC.seq ?_
          refine WC.seq ?_
          refine WC.region ?_
          refine WL.step ?_
          refine WL.move rfl rfl ?_
          refine WL.step ?_
          refine WL.lenSl F.und54 rfl rfl ?_
          refine WL.step ?_
          refine WL.move rfl rfl ?_
          refine WL.nil ?_
          refine WQ.then_normal ?_
          refine WC.block ?_
          refine WC.loop (α := Nat) (fun i => i ≤ nT) (fun i => [(0, .int .i64 (n : Int)), (4, pp b4), (7, .slice aa nA ca), (8, .slice ta nT tc), (9, .slice pa nP pc), (15, .slice (some ⟨b72, 0, none⟩) nT nT), (73, .slice ta nT tc), (74, .int .i64 (nT : Int)), (75, .int .i64 (i : Int))]) (fun i => [pt b72 (stepAt path i) 3, pt b4 [.bool false, .int .u32 0, .slice none 0 0] 43, rowc (.slice aa nA ca) nA 54 1 hs, rowc (.slice pa nP pc) nP 54 1 vs, rowc (.slice ta nT tc) nT 3 1 ps, stepsC Fb vs ss]) (fun i => nT - i) (0) ?_ ?_ ?_ ?_
          · exact Nat.zero_le _
          · exact ⟨rfl, rfl, rfl, rfl, rfl, rfl, rfl, rfl, rfl, trivial⟩
          · rfl
          rintro i hi
          refine WC.seq ?_
          refine WC.region ?_
          refine WL.step ?_
          refine WL.ltI rfl rfl rfl ?_
          refine WL.nil ?_
          refine WQ.then_normal ?_
          refine WC.seq ?_
          refine WC.cond rfl (fun h76 => ?_) (fun h76 => ?_)
          · skip
            have hlt : i < nT := by simpa using h76
            obtain ⟨x, hx⟩ : ∃ x, path[i]? = some x := ⟨_, List.getElem?_eq_getElem (by omega)⟩
            have hxl := hlit x (List.mem_of_getElem? hx)
            refine WC.know (φ := ∃ g, ta = some ⟨g, 0, none⟩ ∧ nT = nT ∧ nT ≤ tc) (fun w hS => rowc_addr (hS.ok (rowc (.slice ta nT tc) nT 3 1 ps) (by repeat (first | exact List.Mem.head _ | apply List.Mem.tail))) (by omega)) (fun ⟨g, hta, _, _⟩ => ?_)
            subst hta
            refine WC.skip ?_
            refine WQ.then_normal ?_
            refine WC.seq ?_
            refine WC.block ?_
            refine WC.seq ?_
            refine WC.region ?_
            refine WL.step ?_
            refine WL.move rfl rfl ?_
            refine WL.step ?_
            refine WL.indexAddr F.sl54 rfl rfl rfl hlt ?_
            refine WL.step ?_
            refine WL.load1 F.one3 rfl rfl (v := .int .i64 x) (fun w hS => by simpa using rowc_cell (hS.ok (rowc (.slice (some ⟨g, 0, none⟩) nT tc) nT 3 1 ps) (by repeat (first | exact List.Mem.head _ | apply List.Mem.tail))) (u := .int .i64 x) (by rw [hps]; simp [hx])) ?_
            refine WL.step ?_
            refine WL.assign rfl rfl ?_
            refine WL.step ?_
            refine WL.assign rfl rfl ?_
            refine WL.nil ?_
            refine WQ.then_normal ?_
            refine WC.region ?_
            refine WL.step ?_
            refine WL.move rfl rfl ?_
            refine WL.step ?_
            refine WL.move rfl rfl ?_
            refine WL.step ?_
            refine WL.move rfl rfl ?_
            refine WL.step ?_
            refine WL.negI rfl rfl (by omega) ?_
            refine WL.step ?_
            refine WL.indexAddr F.sl54 rfl rfl rfl hlt ?_
            refine WL.step ?_
            refine WL.store1 (cs := stepAt path i) (cs' := stepAt path (i + 1)) F.one3 rfl rfl rfl (by repeat (first | exact Upd.here | apply Upd.there)) (by have h9 := setN_set (stepAt path i) i (.int .i64 (-x)) (by rw [stepAt_len (by omega)]; omega); rw [stepAt_set hx] at h9; simpa using h9) ?_
            refine WL.nil ?_
            refine WQ.block_normal ?_
            refine WQ.then_normal ?_
            refine WC.region ?_
            refine WL.step ?_
            refine WL.add rfl rfl rfl ⟨by omega, by omega⟩ ?_
            refine WL.step ?_
            refine WL.move rfl rfl ?_
            refine WL.nil ?_
            refine WQ.back (i + 1) ?_ ?_ ?_ ?_
            · exact by omega
            · omega
            · exact ⟨rfl, rfl, rfl, rfl, rfl, rfl, rfl, rfl, rfl, trivial⟩
            · rfl
          · skip
            have hie : i = nT := by simp at h76; omega
            subst hie
            have hse : stepAt path i = (path.map (fun x => -x)).map (Value.int .i64) := by rw [hT]; exact stepAt_end
            have hcl : (path.map (fun x => -x)).length = i := by simp [hT]
            refine WC.exit ?_
            refine WQ.then_exit ?_
            refine WQ.then_exit ?_
            refine WQ.block_exit ?_
            refine WQ.then_normal ?_
            refine WC.seq ?_
            refine WC.region ?_
            refine WL.step ?_
            refine WL.move rfl rfl ?_
            refine WL.step ?_
            refine WL.move rfl rfl ?_
            refine WL.step ?_
            refine WL.buildSlice F.sl38 F.ez38 rfl rfl rfl rfl (by repeat (first | exact Built.nil | apply Built.one rfl rfl (by repeat constructor) | apply Built.agg rfl rfl (by repeat constructor))) rfl (fun b88 => ?_)
            refine WL.step ?_
            refine WL.appendE (news := [Value.slice (some ⟨b72, 0, none⟩) i i]) F.el38 rfl rfl rfl (by repeat (first | exact Rem.here | apply Rem.there)) (fun w hS j u hu => by rw [Nat.zero_add]; exact hS.cell (cs := [Value.slice (some ⟨b72, 0, none⟩) i i]) (by repeat (first | exact List.Mem.head _ | apply List.Mem.tail)) hu) rfl (by simp [Value.oneCell']) (Nat.le_trans (m := 1099511627776) (by omega) (by decide)) (by omega) (fun a4 c4 => ?_)
            refine WL.step ?_
            refine WL.assign rfl rfl ?_
            refine WL.nil ?_
            refine WQ.then_normal ?_
            refine WC.seq ?_
            refine WC.region ?_
            refine WL.step ?_
            refine WL.move rfl rfl ?_
            refine WL.step ?_
            refine WL.move rfl rfl ?_
            refine WL.step ?_
            refine WL.buildSlice F.sl38 F.ez38 rfl rfl rfl rfl (by repeat (first | exact Built.nil | apply Built.one rfl rfl (by repeat constructor) | apply Built.agg rfl rfl (by repeat constructor))) rfl (fun b92 => ?_)
            refine WL.step ?_
            refine WL.appendE (news := [Value.slice (some ⟨b72, 0, none⟩) i i]) F.el38 rfl rfl rfl (by repeat (first | exact Rem.here | apply Rem.there)) (fun w hS j u hu => by rw [Nat.zero_add]; exact hS.cell (cs := [Value.slice (some ⟨b72, 0, none⟩) i i]) (by repeat (first | exact List.Mem.head _ | apply List.Mem.tail)) hu) rfl (by simp [Value.oneCell']) (Nat.le_trans (m := 1099511627776) (by omega) (by decide)) (by omega) (fun a5 c5 => ?_)
            refine WL.step ?_
            refine WL.assign rfl rfl ?_
            refine WA.chunks (C' := [pt b4 [.bool false, .int .u32 0, .slice none 0 0] 43, rowc (.slice a5 (nA + 1) c5) (nA + 1) 54 1 (hs ++ [Value.slice (some ⟨b72, 0, none⟩) i i]), rowc (.slice a4 (nP + 1) c4) (nP + 1) 54 1 (vs ++ [Value.slice (some ⟨b72, 0, none⟩) i i]), rowc (.slice ta i tc) i 3 1 ps, stepsC (b72 :: Fb) (vs ++ [Value.slice (some ⟨b72, 0, none⟩) i i]) (ss ++ [(path.map (fun x => -x))])]) (fun w hS => ?_) ?_
            · rw [hse] at hS
              have h9 := St.stepsSnoc (St.pick (St.pick hS (c := pt b72 ((path.map (fun x => -x)).map (Value.int .i64)) 3) (by repeat (first | exact Rem.here | apply Rem.there))) (c := stepsC Fb vs ss) (by repeat (first | exact Rem.here | apply Rem.there)))
              rw [hcl] at h9
              exact ((St.pick (St.pick (St.pick (St.pick (St.pick h9 (c := stepsC (b72 :: Fb) (vs ++ [Value.slice (some ⟨b72, 0, none⟩) i i]) (ss ++ [(path.map (fun x => -x))])) (by repeat (first | exact Rem.here | apply Rem.there))) (c := rowc (.slice ta i tc) i 3 1 ps) (by repeat (first | exact Rem.here | apply Rem.there))) (c := rowc (.slice a4 (nP + 1) c4) (nP + 1) 54 1 (vs ++ [Value.slice (some ⟨b72, 0, none⟩) i i])) (by repeat (first | exact Rem.here | apply Rem.there))) (c := rowc (.slice a5 (nA + 1) c5) (nA + 1) 54 1 (hs ++ [Value.slice (some ⟨b72, 0, none⟩) i i])) (by repeat (first | exact Rem.here | apply Rem.there))) (c := pt b4 [.bool false, .int .u32 0, .slice none 0 0] 43) (by repeat (first | exact Rem.here | apply Rem.there)))).sublist (List.Sublist.cons_cons _ (List.Sublist.cons_cons _ (List.Sublist.cons_cons _ (List.Sublist.cons_cons _ (List.Sublist.cons_cons _ (List.nil_sublist _))))))
            refine WL.nil ?_
            refine WQ.then_normal ?_
            refine WC.seq ?_
            refine WC.seq ?_
            refine WC.region ?_
            refine WL.step ?_
            refine WL.move rfl rfl ?_
            refine WL.step ?_
            refine WL.lenSl F.und54 rfl rfl ?_
            refine WL.step ?_
            refine WL.eqI rfl rfl rfl ?_
            refine WL.nil ?_
            refine WQ.then_normal ?_
            refine WC.cond rfl (fun h96 => ?_) (fun h96 => ?_)
            · skip
              have hp0 : path = [] := List.eq_nil_of_length_eq_zero (by simp at h96; omega)
              subst hp0
              simp only [List.getLast?_nil] at sol
              injection sol with sol
              refine WC.seq ?_
              refine WC.region ?_
              refine WL.step ?_
              refine WL.move rfl rfl ?_
              refine WL.step ?_
              refine WL.build F.stT43 rfl (by repeat (first | exact Built.nil | apply Built.one rfl rfl (by repeat constructor) | apply Built.agg rfl rfl (by repeat constructor))) rfl ?_
              refine WL.step ?_
              refine WL.storeN F.agg43 rfl rfl rfl (by simp [Value.oneCell']) (by repeat (first | exact Upd.here | apply Upd.there)) (by repeat constructor) ?_
              refine WL.step ?_
              refine WL.assign rfl rfl ?_
              refine WL.nil ?_
              refine WQ.then_normal ?_
              refine WC.ret ?_
              refine WQ.then_ret ?_
              refine WQ.block_ret ?_
              refine WQ.then_ret ?_
              refine WQ.block_ret ?_
              refine WQ.block_ret ?_
              refine WQ.then_ret ?_
              refine WQ.block_ret ?_
              refine WQ.scope_ret ?_
              refine WQ.ret (rs := [.cell 4 43, .tmp 5]) rfl (.cellN F.agg43 rfl (by repeat (first | exact List.Mem.head _ | apply List.Mem.tail)) rfl (.tmp rfl .nil)) (fun w hS => .inr ⟨hme, (a4, c4), b72 :: Fb, vs ++ [Value.slice (some ⟨b72, 0, none⟩) i i], ?_, ?_⟩)
              · have hpl : nP + 1 = r.proof.length := by rw [← sol, hP]; simp
                rw [← hpl, ← sol]; rfl
              · have hpl : nP + 1 = r.proof.length := by rw [← sol, hP]; simp
                have h9 := ((St.pick (St.pick hS (c := stepsC (b72 :: Fb) (vs ++ [Value.slice (some ⟨b72, 0, none⟩) i i]) (ss ++ [([] : List Int).map (fun x => -x)])) (by repeat (first | exact Rem.here | apply Rem.there))) (c := rowc (.slice a4 (nP + 1) c4) (nP + 1) 54 1 (vs ++ [Value.slice (some ⟨b72, 0, none⟩) i i])) (by repeat (first | exact Rem.here | apply Rem.there)))).two2
                rw [← hpl, ← sol]; exact h9
            · skip
              have hp0 : path ≠ [] := by (intro h0; rw [h0] at hT; simp at h96 hT; omega)
              obtain ⟨last, hlast⟩ : ∃ x, path.getLast? = some x := ⟨_, List.getLast?_eq_some_getLast hp0⟩
              rw [hlast] at sol
              simp only at sol
              obtain ⟨hli, hpos⟩ := last_at hT hlast
              have hll := hlit last (List.mem_of_getLast? hlast)
              refine WC.know (φ := ∃ g, ta = some ⟨g, 0, none⟩ ∧ i = i ∧ i ≤ tc) (fun w hS => rowc_addr (hS.ok (rowc (.slice ta i tc) i 3 1 ps) (by repeat (first | exact List.Mem.head _ | apply List.Mem.tail))) hpos) (fun ⟨g, hta, _, htc⟩ => ?_)
              subst hta
              have htk : ps.take (i - 1) = path.dropLast.map (Value.int .i64) := by rw [hps, ← List.map_take, List.dropLast_eq_take, hT]
              have hslit5 : ∀ c ∈ ss ++ [(path.map (fun x => -x))], ∀ x ∈ c, Lit x := by
                intro c hc x hx
                rcases List.mem_append.1 hc with hc | hc
                · exact hslit c hc x hx
                · simp only [List.mem_singleton] at hc
                  subst hc
                  obtain ⟨y, hy, hyx⟩ := List.mem_map.1 hx
                  rw [← hyx]; exact Lit.neg (hlit y hy)
              have hslen5 : ∀ c ∈ ss ++ [(path.map (fun x => -x))], c.length ≤ 1099511627776 := by
                intro c hc
                rcases List.mem_append.1 hc with hc | hc
                · exact hslen c hc
                · simp only [List.mem_singleton] at hc
                  subst hc
                  simp; omega
              have hbs5 : (ss ++ [(path.map (fun x => -x))]).length + f ≤ 1073741824 := by simp; omega
              have hdl : path.dropLast.length = i - 1 := by simp [hT]
              refine WC.skip ?_
              refine WQ.then_normal ?_
              refine WC.seq ?_
              refine WC.region ?_
              refine WL.step ?_
              refine WL.move rfl rfl ?_
              refine WL.step ?_
              refine WL.move rfl rfl ?_
              refine WL.step ?_
              refine WL.lenSl F.und54 rfl rfl ?_
              refine WL.step ?_
              refine WL.sub rfl rfl rfl ⟨by omega, by omega⟩ ?_
              refine WA.say 102 (.int .i64 ((i - 1 : Nat) : Int)) (congrArg (fun z => some (Value.int .i64 z)) (show (i : Int) - 1 = ((i - 1 : Nat) : Int) by omega)) ?_
              refine WL.step ?_
              refine WL.indexAddr F.sl54 rfl rfl rfl (i := i - 1) (by omega) ?_
              refine WL.step ?_
              refine WL.load1 F.one3 rfl rfl (v := .int .i64 last) (fun w hS => by simpa using rowc_cell (hS.ok (rowc (.slice (some ⟨g, 0, none⟩) i tc) i 3 1 ps) (by repeat (first | exact List.Mem.head _ | apply List.Mem.tail))) (u := .int .i64 last) (by rw [hps]; simp [hli])) ?_
              refine WL.step ?_
              refine WL.assign rfl rfl ?_
              refine WL.nil ?_
              refine WQ.then_normal ?_
              refine WC.seq ?_
              refine WC.region ?_
              refine WL.step ?_
              refine WL.move rfl rfl ?_
              refine WL.step ?_
              refine WL.move rfl rfl ?_
              refine WL.step ?_
              refine WL.lenSl F.und54 rfl rfl ?_
              refine WL.step ?_
              refine WL.sub rfl rfl rfl ⟨by omega, by omega⟩ ?_
              refine WA.say 108 (.int .i64 ((i - 1 : Nat) : Int)) (congrArg (fun z => some (Value.int .i64 z)) (show (i : Int) - 1 = ((i - 1 : Nat) : Int) by omega)) ?_
              refine WL.step ?_
              refine WL.y (F := fun _ => True) (Yl.sliceSlTo (n := i - 1) F.sl54 rfl rfl (by omega)) rfl (fun _ _ => trivial) ?_
              refine WL.step ?_
              refine WL.assign rfl rfl ?_
              refine WA.chunks (fun w hS => (St.rowTake (St.pick hS (c := rowc (.slice (some ⟨g, 0, none⟩) i tc) i 3 1 ps) (by repeat (first | exact Rem.here | apply Rem.there))) hpos (k := i - 1) (by omega))) ?_
              refine WL.nil ?_
              refine WQ.then_normal ?_
              refine WC.seq ?_
              refine WC.region ?_
              refine WL.step ?_
              refine WL.move rfl rfl ?_
              refine WL.step ?_
              refine WL.ltI rfl rfl rfl ?_
              refine WL.nil ?_
              refine WQ.then_normal ?_
              refine WC.cond rfl (fun h111 => ?_) (fun h111 => ?_)
              · skip
                have hneg : last < 0 := by simpa using h111
                rw [if_pos hneg, List.append_assoc] at sol
                refine WC.seq ?_
                refine WC.region ?_
                refine WL.step ?_
                refine WL.move rfl rfl ?_
                refine WL.step ?_
                refine WL.move rfl rfl ?_
                refine WL.step ?_
                refine WL.negI rfl rfl (by omega) ?_
                refine WL.step ?_
                refine WL.buildSlice F.sl54 F.ez54 rfl rfl rfl rfl (by repeat (first | exact Built.nil | apply Built.one rfl rfl (by repeat constructor) | apply Built.agg rfl rfl (by repeat constructor))) rfl (fun b115 => ?_)
                refine WL.step ?_
                refine WL.appendE (news := [.int .i64 (-last)]) F.el54 rfl rfl rfl (by repeat (first | exact Rem.here | apply Rem.there)) (fun w hS j u hu => by rw [Nat.zero_add]; exact hS.cell (cs := [.int .i64 (-last)]) (by repeat (first | exact List.Mem.head _ | apply List.Mem.tail)) hu) rfl (by simp [Value.oneCell']) (Nat.le_trans (m := 1099511627776) (by omega) (by decide)) (by omega) (fun a6 c6 => ?_)
                refine WL.step ?_
                refine WL.assign rfl rfl ?_
                refine WL.nil ?_
                refine WQ.then_normal ?_
                refine WC.exit ?_
                refine WQ.block_other rfl ?_
                refine WQ.then_exit ?_
                refine WQ.block_other rfl ?_
                refine WQ.block_exit ?_
                refine WQ.chunks (C' := [pt b4 [.bool false, .int .u32 0, .slice none 0 0] 43, rowc (.slice a5 (nA + 1) c5) (nA + 1) 54 1 (hs ++ [Value.slice (some ⟨b72, 0, none⟩) i i]), rowc (.slice a4 (nP + 1) c4) (nP + 1) 54 1 (vs ++ [Value.slice (some ⟨b72, 0, none⟩) i i]), rowc (.slice a6 (i - 1 + 1) c6) (i - 1 + 1) 3 1 (ps.take (i - 1) ++ [.int .i64 (-last)]), stepsC (b72 :: Fb) (vs ++ [Value.slice (some ⟨b72, 0, none⟩) i i]) (ss ++ [(path.map (fun x => -x))])]) (fun w hS => ((St.pick (St.pick (St.pick (St.pick (St.pick hS (c := stepsC (b72 :: Fb) (vs ++ [Value.slice (some ⟨b72, 0, none⟩) i i]) (ss ++ [(path.map (fun x => -x))])) (by repeat (first | exact Rem.here | apply Rem.there))) (c := rowc (.slice a6 (i - 1 + 1) c6) (i - 1 + 1) 3 1 (ps.take (i - 1) ++ [.int .i64 (-last)])) (by repeat (first | exact Rem.here | apply Rem.there))) (c := rowc (.slice a4 (nP + 1) c4) (nP + 1) 54 1 (vs ++ [Value.slice (some ⟨b72, 0, none⟩) i i])) (by repeat (first | exact Rem.here | apply Rem.there))) (c := rowc (.slice a5 (nA + 1) c5) (nA + 1) 54 1 (hs ++ [Value.slice (some ⟨b72, 0, none⟩) i i])) (by repeat (first | exact Rem.here | apply Rem.there))) (c := pt b4 [.bool false, .int .u32 0, .slice none 0 0] 43) (by repeat (first | exact Rem.here | apply Rem.there)))).sublist (List.Sublist.cons_cons _ (List.Sublist.cons_cons _ (List.Sublist.cons_cons _ (List.Sublist.cons_cons _ (List.Sublist.cons_cons _ (List.nil_sublist _))))))) ?_
                refine WQ.back (⟨f, path.dropLast ++ [-last], ss ++ [(path.map (fun x => -x))], vs ++ [Value.slice (some ⟨b72, 0, none⟩) i i], hs ++ [Value.slice (some ⟨b72, 0, none⟩) i i], ps.take (i - 1) ++ [.int .i64 (-last)], b72 :: Fb, a5, a4, a6, c5, c4, c6, nA + 1, nP + 1, i - 1 + 1⟩) ?_ ?_ ?_ ?_
                · exact ⟨sol, by show hs ++ _ = us ++ (vs ++ _); rw [hhs, List.append_assoc], by show ps.take (i - 1) ++ _ = (path.dropLast ++ _).map _; rw [htk]; simp, by show nA + 1 = ls.length + (ss ++ [_]).length; rw [hA]; simp; omega, by show nP + 1 = (ss ++ [_]).length; rw [hP]; simp, by show i - 1 + 1 = (path.dropLast ++ [_]).length; simp; omega, by intro x hx; rcases List.mem_append.1 hx with hx | hx; exact hlit x ((List.dropLast_sublist path).subset hx); simp at hx; subst hx; exact ⟨by omega, by omega, by omega⟩, hslit5, hslen5, by show (path.dropLast ++ [_]).length + f ≤ _; simp; omega, hbs5⟩
                · dsimp only; omega
                · exact ⟨rfl, rfl, rfl, rfl, rfl, trivial⟩
                · rfl
              · skip
                have hneg : ¬ last < 0 := by simpa using h111
                rw [if_neg hneg, List.append_assoc] at sol
                refine WC.skip ?_
                refine WQ.block_normal ?_
                refine WQ.chunks (C' := [pt b4 [.bool false, .int .u32 0, .slice none 0 0] 43, rowc (.slice a5 (nA + 1) c5) (nA + 1) 54 1 (hs ++ [Value.slice (some ⟨b72, 0, none⟩) i i]), rowc (.slice a4 (nP + 1) c4) (nP + 1) 54 1 (vs ++ [Value.slice (some ⟨b72, 0, none⟩) i i]), rowc (.slice (some ⟨g, 0, none⟩) (i - 1) tc) (i - 1) 3 1 (ps.take (i - 1)), stepsC (b72 :: Fb) (vs ++ [Value.slice (some ⟨b72, 0, none⟩) i i]) (ss ++ [(path.map (fun x => -x))])]) (fun w hS => ((St.pick (St.pick (St.pick (St.pick (St.pick hS (c := stepsC (b72 :: Fb) (vs ++ [Value.slice (some ⟨b72, 0, none⟩) i i]) (ss ++ [(path.map (fun x => -x))])) (by repeat (first | exact Rem.here | apply Rem.there))) (c := rowc (.slice (some ⟨g, 0, none⟩) (i - 1) tc) (i - 1) 3 1 (ps.take (i - 1))) (by repeat (first | exact Rem.here | apply Rem.there))) (c := rowc (.slice a4 (nP + 1) c4) (nP + 1) 54 1 (vs ++ [Value.slice (some ⟨b72, 0, none⟩) i i])) (by repeat (first | exact Rem.here | apply Rem.there))) (c := rowc (.slice a5 (nA + 1) c5) (nA + 1) 54 1 (hs ++ [Value.slice (some ⟨b72, 0, none⟩) i i])) (by repeat (first | exact Rem.here | apply Rem.there))) (c := pt b4 [.bool false, .int .u32 0, .slice none 0 0] 43) (by repeat (first | exact Rem.here | apply Rem.there)))).sublist (List.Sublist.cons_cons _ (List.Sublist.cons_cons _ (List.Sublist.cons_cons _ (List.Sublist.cons_cons _ (List.Sublist.cons_cons _ (List.nil_sublist _))))))) ?_
                refine WQ.back (⟨f, path.dropLast, ss ++ [(path.map (fun x => -x))], vs ++ [Value.slice (some ⟨b72, 0, none⟩) i i], hs ++ [Value.slice (some ⟨b72, 0, none⟩) i i], ps.take (i - 1), b72 :: Fb, a5, a4, some ⟨g, 0, none⟩, c5, c4, tc, nA + 1, nP + 1, i - 1⟩) ?_ ?_ ?_ ?_
                · exact ⟨⟨sol, by show hs ++ _ = us ++ (vs ++ _); rw [hhs, List.append_assoc], by show ps.take (i - 1) = path.dropLast.map _; exact htk, by show nA + 1 = ls.length + (ss ++ [_]).length; rw [hA]; simp; omega, by show nP + 1 = (ss ++ [_]).length; rw [hP]; simp, by show i - 1 = path.dropLast.length; simp; omega, fun x hx => hlit x ((List.dropLast_sublist path).subset hx), hslit5, hslen5, by show path.dropLast.length + f ≤ _; simp; omega, hbs5⟩, by show f ≤ fo; omega⟩
                · exact Nat.lt_succ_self f
                · exact ⟨rfl, rfl, rfl, rfl, rfl, trivial⟩
                · rfl

end Go.Proofs.Ytbippghgkbapnaa

namespace Go.Eng
open Go Go.RowKit
section
variable {P : Program} {w0 : World} {O : List Nat} {ops : Array Oper} {Q : Exit → Act → World → Prop} {N : Nat} {D : List Deferred} {L : FL} {C : List Chunk} {K : Act → World → Prop}
variable {d : Nat} {ty : TypeId} {pos : String} {af : Array Edge}
theorem run_append_zero {t e : TypeId} {sz : Nat} (ht : P.underlying t = some (.slice e)) (hs : sizeB P e = some sz) {a0 a1 : Option Addr} {n cap c : Nat} (hn : n ≤ cap) (w : World) :
    (Builtin.append_ #[t, t] ty #[.slice a1 n cap, .slice a0 0 c]).run P w = .ok (.slice a1 n cap) w := by
  have hf : ∀ a : Option Addr, (Builtin.firstCells sz 0 (.slice a 0 c)).run P w = .ok #[] w := fun a => by
    cases a with
    | none => simp [Builtin.firstCells]
    | some a => simp [Builtin.firstCells, loadCells, loadCellsFrom]
  cases a1 with
  | none => simp [Builtin.append_, run_underlying ht, run_sizeOf hs, Builtin.lenOf, hn, hf]
  | some a1 => simp [Builtin.append_, run_underlying ht, run_sizeOf hs, Builtin.lenOf, hn, hf, storeCells]
/-- append of a slice, wherever it lies; of one of nothing, too. -/
theorem WL.appendC {s x : Operand} {t e : TypeId} {sz bytes : Nat} {v : Value} {n m c : Nat} {a0 : Option Addr} {xs news : List Value} {C1 : List Chunk} (hE : ElT P t e sz bytes) (hd : Nat.blt d N = true)
    (hs : ev L s = some v) (hx : ev L x = some (.slice a0 m c)) (hr : Rem (rowc v n e sz xs) C C1)
    (hnews : ∀ w, St w0 O C w → m ≠ 0 → ∃ bx ox, a0 = some ⟨bx, ox, none⟩ ∧ ∀ j u, news[j]? = some u → w.cell? ⟨bx, ox + j, none⟩ = some u) (hl : news.length = m * sz) (h1 : ∀ u ∈ news, u.oneCell' = true)
    (h63 : n + m ≤ maxLen) (hbytes : (n + m) * bytes ≤ 140737488355328)
    (h : ∀ a cap, WA w0 O K N D ((d, .slice a (n + m) cap) :: L) (rowc (.slice a (n + m) cap) (n + m) e sz (xs ++ news) :: C1)) :
    WK P w0 O ops Q ⟨some d, .call { callee := .builtin .append, args := #[s, x], argTypes := #[t, t] }, ty, pos, af, none⟩ K N D L C := by
  by_cases hm : m = 0
  · subst hm
    have hn0 : news = [] := List.eq_nil_of_length_eq_zero (by simpa using hl)
    subst hn0
    intro a w hF hS
    have hS1 := hS.perm hr.perm
    have hown : w.ownsRow 0 e sz v n xs := hS1.ok _ (List.mem_cons_self ..)
    obtain ⟨a', cap', rfl⟩ := ownsRow_slice hown
    have hle : n ≤ cap' := by
      rcases hown.2 with ⟨hv, h0⟩ | ⟨g, cp, cur, hv, _, _, hle, _⟩
      · injection hv with _ _ h2; omega
      · injection hv with _ _ h2; omega
    obtain ⟨i, z, h1', h2, h3, h4, h5⟩ := hE.row
    have hrun := run_append_zero (P := P) (ty := ty) (sz := sz) hE.und (by unfold sizeB; rw [h1']; simp [h3]) (a0 := a0) (a1 := a') (c := c) hle w
    have h' := h a' cap'
    simp only [Nat.add_zero, List.append_nil] at h'
    refine wpo_val rfl ?_ (h' _ w (hF.put d _ hd) hS1)
    simp only [execOp, resolve, invoke, builtin, Sem.run_bind, Sem.run_pure, Result.andThen_ok, List.map_toArray, List.map_cons, List.map_nil, hF.ev hs, hF.ev hx, hrun]
  · intro a w hF hS
    obtain ⟨bx, ox, rfl, _⟩ := hnews w hS hm
    exact WL.appendE hE hd hs hx hr (fun w hS => by
      obtain ⟨bx', ox', he, hc⟩ := hnews w hS hm
      injection he with he
      injection he with e1 e2
      subst e1; subst e2
      exact hc) hl h1 h63 hbytes h a w hF hS
end
end Go.Eng
namespace Go.Proofs.Ytbippghgkbapnaa
open Go Go.Eng Go.Proofs
theorem RdC.news {w : World} {c : List Int} {a : Option Addr} (h : RdC w c a) (hc : c.length ≠ 0) : ∃ bx ox, a = some ⟨bx, ox, none⟩ ∧ ∀ j u, (c.map (Value.int .i64))[j]? = some u → w.cell? ⟨bx, ox + j, none⟩ = some u := by
  obtain ⟨x, hx⟩ : ∃ x, c[0]? = some x := ⟨c[0]'(by omega), List.getElem?_eq_getElem _⟩
  obtain ⟨b, off, ha, _⟩ := h 0 x hx
  refine ⟨b, off, ha, fun j u hu => ?_⟩
  rw [List.getElem?_map] at hu
  cases hj : c[j]? with
  | none => rw [hj] at hu; simp at hu
  | some y =>
    rw [hj] at hu; simp at hu; subst hu
    obtain ⟨b', off', ha', hc'⟩ := h j y hj
    rw [ha] at ha'
    injection ha' with ha'
    injection ha' with e1 e2
    subst e1; subst e2
    exact hc'
/-- The headers of clauses, as what is appended. -/
theorem RdLL.news {w : World} {ls : List (List Int)} {a : Option Addr} {us : List Value} (h : RdLL w ls a us) (hc : ls.length ≠ 0) : ∃ bx ox, a = some ⟨bx, ox, none⟩ ∧ ∀ j u, us[j]? = some u → w.cell? ⟨bx, ox + j, none⟩ = some u := by
  have hl := h.len
  obtain ⟨b, off, ha, _⟩ := h.hd 0 (us[0]'(by omega)) (List.getElem?_eq_getElem _)
  refine ⟨b, off, ha, fun j u hu => ?_⟩
  obtain ⟨b', off', ha', hc'⟩ := h.hd j u hu
  rw [ha] at ha'
  injection ha' with ha'
  injection ha' with e1 e2
  subst e1; subst e2
  exact hc'
theorem RdLL.one {w : World} {ls : List (List Int)} {a : Option Addr} {us : List Value} (h : RdLL w ls a us) : ∀ u ∈ us, u.oneCell' = true := by
  intro u hu
  obtain ⟨i, hi, he⟩ := List.getElem_of_mem hu
  have h1 : us[i]? = some u := by rw [List.getElem?_eq_getElem hi, he]
  have h2 : ls[i]? = some (ls[i]'(by rw [← h.len]; exact hi)) := List.getElem?_eq_getElem _
  obtain ⟨a1, c1, h3, _⟩ := h.rd i _ u h2 h1
  subst h3; rfl
end Go.Proofs.Ytbippghgkbapnaa

namespace Go.Eng
open Go Go.RowKit
section
variable {P : Program} {w0 : World} {O : List Nat} {ops : Array Oper} {Q : Exit → Act → World → Prop} {N : Nat} {D : List Deferred} {L : FL} {C : List Chunk} {K : Act → World → Prop}
variable {d : Nat} {ty : TypeId} {pos : String} {af : Array Edge}
end
end Go.Eng

namespace Go.Eng
open Go Go.RowKit
section
variable {P : Program}
end
end Go.Eng

/-
  Maps from strings to 'true' in memory.
-/
namespace Go.Eng
open Go Go.RowKit
def mpc (b : Nat) (ks : List (List UInt8)) : Chunk where
  fp k := k = b
  ok w := ∃ (es : Array MapEntry) (clock : Nat), w.heap[b]? = some (.map es clock) ∧ es.toList.map (fun e => (e.key, e.val)) = ks.map (fun s => (Value.string (str s), Value.bool true))
  loc w w' h := fun ⟨es, c, h1, h2⟩ => ⟨es, c, (h b rfl).trans h1, h2⟩
section
variable {P : Program} {w0 : World} {O : List Nat} {ops : Array Oper} {Q : Exit → Act → World → Prop} {N : Nat} {D : List Deferred} {L : FL} {C : List Chunk} {K : Act → World → Prop}
variable {d : Nat} {ty : TypeId} {pos : String} {af : Array Edge}
end
end Go.Eng

namespace Go.Eng
open Go Go.RowKit
section
variable {P : Program} {w0 : World} {O : List Nat} {Q : Exit → Act → World → Prop} {N : Nat} {D : List Deferred} {L : FL} {C : List Chunk}
/-- A part of the code by itself, with what it made. -/
theorem WC.cutPE {c : Code} {α : Type} (M : α → FL) (C' : α → List Chunk) (hq : NoLook Q) (hx : ∀ Q', NoLook Q' → (∀ x, WQ w0 O Q' .normal N D (M x) (C' x)) → WC P w0 O c Q' N D L C) (hy : ∀ x, WQ w0 O Q .normal N D (M x) (C' x)) : WC P w0 O c Q N D L C := hx Q hq hy
end
section
variable {ops : Array Oper} {Fs : List (List Nat × (World → Prop))}
/-- Which operations wait, at once or at length, for the i-th: in one pass. -/
def fwd (i : Nat) : List Oper → List Bool → List Bool
  | [], acc => acc
  | o :: os, acc => fwd i os (acc ++ [o.after.any fun e => Region.binds .any e && (e.on == i || acc.getD e.on false)])
theorem fwd_not {listed : Array Bool} (hc : Closed ops listed) {i : Nat} (hi : listed.getD i false = false) : ∀ (os : List Oper) (acc : List Bool), ops.toList.drop acc.length = os → (∀ x, acc.getD x false = true → listed.getD x false = false) → ∀ x, (fwd i os acc).getD x false = true → listed.getD x false = false
  | [], acc, _, h, x, hx => h x hx
  | o :: os, acc, hd, h, x, hx => by
    have hlt : acc.length < ops.toList.length := by
      by_cases hl : acc.length < ops.toList.length
      · exact hl
      · rw [List.drop_eq_nil_of_le (by omega)] at hd; cases hd
    rw [List.drop_eq_getElem_cons hlt] at hd
    injection hd with h1 h2
    have ho : ops[acc.length]? = some o := by
      rw [← Array.getElem?_toList, List.getElem?_eq_getElem hlt, h1]
    refine fwd_not hc hi os _ (by rw [List.length_append]; exact h2) (fun y hy => ?_) x hx
    by_cases hyl : y < acc.length
    · rw [List.getD_eq_getElem?_getD, List.getElem?_append_left hyl, ← List.getD_eq_getElem?_getD] at hy
      exact h y hy
    · rw [List.getD_eq_getElem?_getD, List.getElem?_append_right (by omega)] at hy
      have hye : y = acc.length := by
        by_cases he : y - acc.length = 0
        · omega
        · rw [List.getElem?_eq_none (by simp; omega)] at hy; simp at hy
      subst hye
      simp only [Nat.sub_self, List.getElem?_cons_zero, Option.getD_some] at hy
      obtain ⟨e, he, hb⟩ := Array.any_eq_true'.1 hy
      simp only [Bool.and_eq_true, Bool.or_eq_true, beq_iff_eq] at hb
      cases hl : listed.getD acc.length false with
      | false => rfl
      | true =>
        have h3 := hc acc.length o ho hl e he hb.1
        rcases hb.2 with h4 | h4
        · rw [h4, hi] at h3; cases h3
        · rw [h _ h4] at h3; cases h3
def allIn (l : List Bool) (ds : List Nat) : Bool := ds.all fun j => l.getD j false
theorem need_at2 {i : Nat} (k : Nat) {ds : List Nat} {Y : World → Prop} (hm : Fs[k]? = some (ds, Y)) (hr : allIn (fwd i ops.toList []) ds = true) :
    ∀ (listed : Array Bool) (w : World), Closed ops listed → listed.getD i false = false → Sx Fs listed w → Y w := fun listed w hc hi hS =>
  hS (ds, Y) (List.mem_of_getElem? hm) fun j hj => fwd_not hc hi ops.toList [] rfl (fun x hx => by simp at hx) j (List.all_eq_true.1 hr j hj)
end
end Go.Eng

/-
  Stores into a row of the holder's own.
-/
namespace Go.Eng
open Go Go.RowKit
theorem SetN.append {cs cs' vs : List Value} {off : Nat} (ys : List Value) (h : SetN cs off vs cs') : SetN (cs ++ ys) off vs (cs' ++ ys) := by
  induction h with
  | nil => exact .done
  | done => exact .done
  | put _ ih => exact .put ih
  | skip _ ih => exact .skip ih
theorem SetN.flat3 {u : Value} {a b c : Value} {new : List Value} (hu : u.cells.toList = [a, b, c]) (hn : new.length = 3) {v' : Value} (hv : v'.cells.toList = new) : ∀ {vs : List Value} {i : Nat}, vs[i]? = some u → (∀ v ∈ vs, v.cells.toList.length = 3) → SetN (flat vs) (i * 3) new (flat (vs.set i v'))
  | [], i, h, _ => by simp at h
  | v :: vs, 0, h, _ => by
    simp at h
    subst h
    match new, hn with
    | [x, y, z], _ =>
      rw [flat_cons, hu, List.set_cons_zero, flat_cons, hv]
      exact .put (.put (.put .done))
  | v :: vs, i + 1, h, h3 => by
    have hv3 := h3 v (by simp)
    have ih := SetN.flat3 hu hn hv (vs := vs) (i := i) (by simpa using h) (fun x hx => h3 x (by simp [hx]))
    rw [flat_cons, List.set_cons_succ, flat_cons]
    match hq : v.cells.toList, hv3 with
    | [p, q, r], _ =>
      rw [show (i + 1) * 3 = i * 3 + 1 + 1 + 1 by omega]
      exact .skip (.skip (.skip ih))
theorem SetN.len {cs cs' vs : List Value} {off : Nat} (h : SetN cs off vs cs') : cs'.length = cs.length := by
  obtain ⟨h1, h2⟩ := h.eq
  rw [← h1]; simp; omega
section
variable {P : Program} {w0 : World} {O : List Nat} {ops : Array Oper} {Q : Exit → Act → World → Prop} {N : Nat} {D : List Deferred} {L : FL} {C : List Chunk} {K : Act → World → Prop}
variable {d : Nat} {ty : TypeId} {pos : String} {af : Array Edge}
theorem St.rowUpd {w : World} {C' : List Chunk} {b : Nat} {c0 c1 : Chunk} {cs : Array Value} (h : St w0 O C w) (hu : Upd c0 c1 C C') (hf : ∀ k, c0.fp k ↔ k = b) (hf' : ∀ k, c1.fp k ↔ k = b) (hok : c1.ok (w.setRow b cs)) : St w0 O C' (w.setRow b cs) := by
  obtain ⟨R, p1, p2⟩ := hu.perm
  have h1 := h.perm p1
  refine St.perm ?_ p2.symm
  have hbO := (h1.bnd _ (List.mem_cons_self ..) b ((hf b).2 rfl))
  have hoth : ∀ k, k ≠ b → (w.setRow b cs).heap[k]? = w.heap[k]? := fun k hk => setRow_other w b k _ hk
  have hdis := List.pairwise_cons.1 h1.disj
  refine ⟨h.os, h.tape, h.output, by simpa using h.size, fun k hk ho => ?_, ?_, ?_, ?_⟩
  · by_cases hkb : k = b
    · subst hkb; exact absurd (hbO.2 hk) ho
    · rw [hoth k hkb]; exact h.old k hk ho
  · intro c hc
    rcases List.mem_cons.1 hc with rfl | hc
    · exact hok
    · refine c.loc w _ (fun k hk => hoth k (fun e => ?_)) (h1.ok c (List.mem_cons_of_mem _ hc))
      exact hdis.1 c hc k ((hf k).2 e) hk
  · intro c hc k hk
    rcases List.mem_cons.1 hc with rfl | hc
    · have : k = b := (hf' k).1 hk
      subst this
      exact ⟨by simpa using hbO.1, hbO.2⟩
    · simpa using h1.bnd c (List.mem_cons_of_mem _ hc) k hk
  · exact List.Pairwise.cons (fun c hc k hk hk' => hdis.1 c hc k ((hf k).2 ((hf' k).1 hk)) hk') hdis.2
theorem WL.storeRow {t : TypeId} {n m sz cap : Nat} {x y : Operand} {g off : Nat} {xs xs' vs : List Value} {e : TypeId} {C' : List Chunk} (ht : Agg P t m) (hx : ev L x = some (.pointer (some ⟨g, off, none⟩))) (hy : ev L y = some (.agg vs.toArray)) (hl : vs.length = m)
    (hv : ∀ u ∈ vs, u.oneCell' = true) (hpos : 0 < n) (hu : Upd (rowc (.slice (some ⟨g, 0, none⟩) n cap) n e sz xs) (rowc (.slice (some ⟨g, 0, none⟩) n cap) n e sz xs') C C') (hn : SetN xs off vs xs') (h : WA w0 O K N D L C') :
    WK P w0 O ops Q ⟨none, .store t x y, ty, pos, af, none⟩ K N D L C := fun a w hF hS => by
  subst hl
  obtain ⟨hlen, hr⟩ := (show w.ownsRow 0 e sz (.slice (some ⟨g, 0, none⟩) n cap) n xs from hS.ok _ hu.mem)
  rcases hr with ⟨h1, _⟩ | ⟨g', cap', cur, h1, _, hh, hnc, hcm, hcs, htk⟩
  · cases h1
  · injection h1 with h1 h2 h3
    injection h1 with h1
    injection h1 with h1
    subst h1; subst h3
    have hsplit : cur.toList = xs ++ cur.toList.drop (n * sz) := by rw [← htk, List.take_append_drop]
    have hn' : SetN cur.toList off vs (xs' ++ cur.toList.drop (n * sz)) := by
      have := hn.append (cur.toList.drop (n * sz))
      rw [← hsplit] at this
      exact this
    have hh' : w.heap[g]? = some (.cells cur.toList.toArray e (0, 0)) := by rw [Array.toArray_toList]; exact hh
    have hr := run_storeN (P := P) (t := t) (v := .agg vs.toArray) ht.size rfl hv hh' hn'
    have hxl : xs'.length = xs.length := hn.len
    have hSt : St w0 O C' (w.setRow g (xs' ++ cur.toList.drop (n * sz)).toArray) := by
      refine hS.rowUpd (b := g) hu (fun k => ?_) (fun k => ?_) ?_
      · constructor
        · intro hk; exact (Option.some.inj hk).symm
        · intro hk; rw [hk]; rfl
      · constructor
        · intro hk; exact (Option.some.inj hk).symm
        · intro hk; rw [hk]; rfl
      · refine ⟨by rw [hxl, hlen], .inr ⟨g, cap, (xs' ++ cur.toList.drop (n * sz)).toArray, rfl, Nat.zero_le _, setRow_heap w g _ _ e _ hh', hnc, hcm, ?_, ?_⟩⟩
        · have := congrArg List.length hsplit
          simp at this ⊢
          omega
        · have e2 : xs'.length = n * sz := by rw [hxl, hlen]
          show (xs' ++ cur.toList.drop (n * sz)).take (n * sz) = xs'
          rw [List.take_left' e2]
    exact wpo_skip rfl (by simp [execOp, hF.ev hx, hF.ev hy, hr]) (h _ _ hF hSt)
end
end Go.Eng

/-
  A tree that is partly the entry world's: read it again in any world that keeps the fresh blocks and the old ones.
-/
namespace Go.Eng
open Go Go.RowKit
def Keeps (wb w : World) (F : List Nat) (w' : World) : Prop := (∀ k ∈ F, w'.heap[k]? = w.heap[k]?) ∧ ∀ k, k < wb.heap.size → w'.heap[k]? = wb.heap[k]?
def shr (wb : World) (F : List Nat) (t : Tree) (v : Value) : Chunk where
  fp k := k ∈ F
  ok w := ∃ G, ∀ w', Keeps wb w F w' → rdT w' t G v
  loc w w' h := fun ⟨G, hG⟩ => ⟨G, fun w2 hk => hG w2 ⟨fun k hkF => (hk.1 k hkF).trans (h k hkF), hk.2⟩⟩
def shrL (wb : World) (F : List Nat) (ts : List Tree) (vs : List Value) : Chunk where
  fp k := k ∈ F
  ok w := ∃ G, ∀ w', Keeps wb w F w' → rdL w' ts G vs
  loc w w' h := fun ⟨G, hG⟩ => ⟨G, fun w2 hk => hG w2 ⟨fun k hkF => (hk.1 k hkF).trans (h k hkF), hk.2⟩⟩
section
variable {w0 : World} {O : List Nat} {C : List Chunk}
theorem St.shrLeaf {w wb : World} {t : Tree} {G : List Nat} {v : Value} (h : St w0 O C w) (hr : rdT wb t G v) (hG : ∀ k ∈ G, k < wb.heap.size) : St w0 O (shr wb [] t v :: C) w :=
  ⟨h.os, h.tape, h.output, h.size, h.old, fun x hx => by
    rcases List.mem_cons.1 hx with rfl | hx
    · exact ⟨G, fun w' hk => rdT_loc (fun k hkG => hk.2 k (hG k hkG)) hr⟩
    · exact h.ok x hx, fun x hx k hk => by
    rcases List.mem_cons.1 hx with rfl | hx
    · cases hk
    · exact h.bnd x hx k hk, List.Pairwise.cons (fun x hx k hk => by cases hk) h.disj⟩
theorem St.shrNil {w : World} (wb : World) (h : St w0 O C w) : St w0 O (shrL wb [] [] [] :: C) w :=
  ⟨h.os, h.tape, h.output, h.size, h.old, fun x hx => by
    rcases List.mem_cons.1 hx with rfl | hx
    · exact ⟨[], fun w' _ => by simp [rdL]⟩
    · exact h.ok x hx, fun x hx k hk => by
    rcases List.mem_cons.1 hx with rfl | hx
    · cases hk
    · exact h.bnd x hx k hk, List.Pairwise.cons (fun x hx k hk => by cases hk) h.disj⟩
theorem St.shrSnoc {w wb : World} {F F' : List Nat} {ts : List Tree} {vs : List Value} {t : Tree} {v : Value} (h : St w0 O (shrL wb F ts vs :: shr wb F' t v :: C) w) : St w0 O (shrL wb (F ++ F') (ts ++ [t]) (vs ++ [v]) :: C) w :=
  h.join (fun k hk => List.mem_append.1 hk) (fun ⟨G1, h1⟩ ⟨G2, h2⟩ _ => ⟨G1 ++ G2, fun w' hk => rdL_snoc (h1 w' ⟨fun k hkF => hk.1 k (List.mem_append_left _ hkF), hk.2⟩) (h2 w' ⟨fun k hkF => hk.1 k (List.mem_append_right _ hkF), hk.2⟩)⟩)
theorem St.shrNode {w wb : World} {a : Option Addr} {n cap : Nat} {e : TypeId} {F : List Nat} {ts : List Tree} {vs : List Value} (op : Int) (name : List UInt8) (hn : n = ts.length) (h : St w0 O (rowc (.slice a n cap) n e 3 (flat vs) :: shrL wb F ts vs :: C) w) :
    ∃ F', St w0 O (shr wb F' (.mk op name ts) (.agg #[.int .u8 op, .string (str name), .slice a n cap]) :: C) w := by
  have hr : w.ownsRow 0 e 3 (.slice a n cap) n (flat vs) := h.ok _ (List.mem_cons_self ..)
  by_cases ht : ts = []
  · subst ht
    refine ⟨[], h.join (fun k hk => by cases hk) (fun _ _ _ => ⟨[], fun w' _ => ?_⟩)⟩
    simp only [rdT]
    exact ⟨_, rfl, .inl ⟨trivial, trivial, a, cap, by simp [hn]⟩⟩
  · have hpos : 0 < n := by rw [hn]; exact List.length_pos_iff.2 ht
    obtain ⟨g, hg, _, _⟩ := rowc_addr (show (rowc (.slice a n cap) n e 3 (flat vs)).ok w from hr) hpos
    subst hg
    refine ⟨g :: F, h.join (fun k hk => ?_) (fun hrow ⟨G, hG⟩ _ => ⟨g :: G, fun w' hk => ?_⟩)⟩
    · rcases List.mem_cons.1 hk with rfl | hk
      · exact .inl rfl
      · exact .inr hk
    · simp only [rdT]
      refine ⟨_, rfl, .inr ⟨ht, g, 0, cap, G, vs, by rw [hn], rfl, fun j u hu => ?_, hG w' ⟨fun k hkF => hk.1 k (by simp [hkF]), hk.2⟩⟩⟩
      have h1 : w.cell? ⟨g, j, none⟩ = some u := rowc_cells hrow hu
      rw [Nat.zero_add]
      have h2 := hk.1 g (by simp)
      rw [← h1]
      exact World.cell?_of_block (w := w) (w' := w') (a := ⟨g, j, none⟩) h2
end
theorem shr_reads {w0 w wb : World} {C : List Chunk} {F : List Nat} {t : Tree} {v : Value} (hS : St w0 [] C w) (hm : shr wb F t v ∈ C) (hE : Ext wb w) : ∃ G, rdT w t G v := by
  obtain ⟨G, hG⟩ := hS.ok _ hm
  exact ⟨G, hG w ⟨fun _ _ => rfl, fun k hk => hE.old k hk⟩⟩
end Go.Eng

namespace Go.Eng
open Go Go.RowKit
section
variable {P : Program} {w0 : World} {O : List Nat} {ops : Array Oper} {Q : Exit → Act → World → Prop} {N : Nat} {D : List Deferred} {L : FL} {C : List Chunk} {K : Act → World → Prop}
variable {Fs : List (List Nat × (World → Prop))}
theorem WD.three {i j l fuel : Nat} {oi oj ol : Oper} {listed : Array Bool} (hr : Region.ready .any ops listed = [i, j, l]) (hi : ops[i]? = some oi) (hj : ops[j]? = some oj) (hl : ops[l]? = some ol)
    (h : WK P w0 O ops Q oi (fun a w => Sx Fs (listed.setIfInBounds i true) w ∧ wpAnyT P ops Q Fs fuel (listed.setIfInBounds i true) a w) N D L C)
    (h' : WK P w0 O ops Q oj (fun a w => Sx Fs (listed.setIfInBounds j true) w ∧ wpAnyT P ops Q Fs fuel (listed.setIfInBounds j true) a w) N D L C)
    (h'' : WK P w0 O ops Q ol (fun a w => Sx Fs (listed.setIfInBounds l true) w ∧ wpAnyT P ops Q Fs fuel (listed.setIfInBounds l true) a w) N D L C) : WD P w0 O ops Q Fs (fuel + 1) listed N D L C := fun hc a w hFr hS hSx => by
  refine ⟨fun h => (by rw [h] at hr; cases hr), fun k hk => ?_⟩
  rw [hr] at hk
  simp only [List.mem_cons, List.not_mem_nil, or_false] at hk
  rcases hk with rfl | rfl | rfl
  · have := h a w hFr hS
    unfold wpOp
    simp only [hi]
    exact this
  · have := h' a w hFr hS
    unfold wpOp
    simp only [hj]
    exact this
  · have := h'' a w hFr hS
    unfold wpOp
    simp only [hl]
    exact this
end
end Go.Eng

/-
  Trees of the holder's own whose rows may be written.
-/
namespace Go.Eng
open Go Go.RowKit
mutual
def rdW (w : World) : Tree → List Nat → Value → Prop
  | .mk op name kids, F, v => ∃ s, v = .agg #[.int .u8 op, .string (str name), s] ∧
    ((kids = [] ∧ F = [] ∧ ∃ a cap, s = .slice a 0 cap) ∨
     (kids ≠ [] ∧ ∃ g cap G vs, s = .slice (some ⟨g, 0, none⟩) kids.length cap ∧ F = g :: G ∧ w.ownsRow 0 25 3 (.slice (some ⟨g, 0, none⟩) kids.length cap) kids.length (flat vs) ∧ rdWL w kids G vs))
def rdWL (w : World) : List Tree → List Nat → List Value → Prop
  | [], F, vs => F = [] ∧ vs = []
  | t :: ts, F, vs => ∃ F1 F2 v vs', F = F1 ++ F2 ∧ vs = v :: vs' ∧ rdW w t F1 v ∧ rdWL w ts F2 vs'
end
mutual
theorem rdW_loc {w w' : World} : ∀ {t : Tree} {F : List Nat} {v : Value}, (∀ k ∈ F, w'.heap[k]? = w.heap[k]?) → rdW w t F v → rdW w' t F v
  | .mk op name kids, F, v, hk, h => by
    simp only [rdW] at h ⊢
    obtain ⟨s, hv, h⟩ := h
    refine ⟨s, hv, ?_⟩
    rcases h with h | ⟨hne, g, cap, G, vs, hs, hF, hc, hl⟩
    · exact .inl h
    · subst hF
      refine .inr ⟨hne, g, cap, G, vs, hs, rfl, ownsRow_loc (fun k hk' => ?_) hc, rdWL_loc (fun k hkG => hk k (by simp [hkG])) hl⟩
      have : g = k := Option.some.inj hk'
      subst this
      exact hk g (by simp)
theorem rdWL_loc {w w' : World} : ∀ {ts : List Tree} {F : List Nat} {vs : List Value}, (∀ k ∈ F, w'.heap[k]? = w.heap[k]?) → rdWL w ts F vs → rdWL w' ts F vs
  | [], F, vs, hk, h => by simp only [rdWL] at h ⊢; exact h
  | t :: ts, F, vs, hk, h => by
    simp only [rdWL] at h ⊢
    obtain ⟨F1, F2, v, vs', hF, hvs, h1, h2⟩ := h
    subst hF
    exact ⟨F1, F2, v, vs', rfl, hvs, rdW_loc (fun k hkF => hk k (by simp [hkF])) h1, rdWL_loc (fun k hkF => hk k (by simp [hkF])) h2⟩
end
mutual
theorem rdW_T {w : World} : ∀ {t : Tree} {F : List Nat} {v : Value}, rdW w t F v → rdT w t F v
  | .mk op name kids, F, v, h => by
    simp only [rdW] at h
    simp only [rdT]
    obtain ⟨s, hv, h⟩ := h
    refine ⟨s, hv, ?_⟩
    rcases h with h | ⟨hne, g, cap, G, vs, hs, hF, hc, hl⟩
    · exact .inl h
    · refine .inr ⟨hne, g, 0, cap, G, vs, hs, hF, fun j u hu => ?_, rdWL_L hl⟩
      have := hc.cells (g := g) rfl j u hu
      rwa [add_blk] at this
theorem rdWL_L {w : World} : ∀ {ts : List Tree} {F : List Nat} {vs : List Value}, rdWL w ts F vs → rdL w ts F vs
  | [], F, vs, h => by simp only [rdWL] at h; simp only [rdL]; exact h
  | t :: ts, F, vs, h => by
    simp only [rdWL] at h
    simp only [rdL]
    obtain ⟨F1, F2, v, vs', hF, hvs, h1, h2⟩ := h
    exact ⟨F1, F2, v, vs', hF, hvs, rdW_T h1, rdWL_L h2⟩
end
theorem rdWL_snoc {w : World} : ∀ {ts : List Tree} {F F' : List Nat} {vs : List Value} {t : Tree} {v : Value}, rdWL w ts F vs → rdW w t F' v → rdWL w (ts ++ [t]) (F ++ F') (vs ++ [v])
  | [], F, F', vs, t, v, h, ht => by
    simp only [rdWL] at h
    obtain ⟨rfl, rfl⟩ := h
    simp only [List.nil_append, rdWL]
    exact ⟨F', [], v, [], by simp, rfl, ht, rfl, rfl⟩
  | t0 :: ts, F, F', vs, t, v, h, ht => by
    simp only [rdWL] at h
    obtain ⟨F1, F2, v0, vs', hF, hvs, h1, h2⟩ := h
    subst hF; subst hvs
    simp only [List.cons_append, rdWL]
    exact ⟨F1, F2 ++ F', v0, vs' ++ [v], by simp, rfl, h1, rdWL_snoc h2 ht⟩
def ownW (F : List Nat) (t : Tree) (v : Value) : Chunk where
  fp k := k ∈ F
  ok w := F.Nodup ∧ rdW w t F v
  loc w w' h hw := ⟨hw.1, rdW_loc h hw.2⟩
def ownWL (F : List Nat) (ts : List Tree) (vs : List Value) : Chunk where
  fp k := k ∈ F
  ok w := F.Nodup ∧ rdWL w ts F vs
  loc w w' h hw := ⟨hw.1, rdWL_loc h hw.2⟩
section
variable {w0 : World} {O : List Nat} {C : List Chunk}
theorem St.ownWNil {w : World} (h : St w0 O C w) : St w0 O (ownWL [] [] [] :: C) w :=
  ⟨h.os, h.tape, h.output, h.size, h.old, fun x hx => by
    rcases List.mem_cons.1 hx with rfl | hx
    · exact ⟨List.nodup_nil, by simp [rdWL]⟩
    · exact h.ok x hx, fun x hx k hk => by
    rcases List.mem_cons.1 hx with rfl | hx
    · cases hk
    · exact h.bnd x hx k hk, List.Pairwise.cons (fun x hx k hk => by cases hk) h.disj⟩
theorem St.ownW0 {w : World} (op : Int) (name : List UInt8) (h : St w0 O C w) : St w0 O (ownW [] (.mk op name []) (.agg #[.int .u8 op, .string (str name), .slice none 0 0]) :: C) w :=
  ⟨h.os, h.tape, h.output, h.size, h.old, fun x hx => by
    rcases List.mem_cons.1 hx with rfl | hx
    · refine ⟨List.nodup_nil, ?_⟩
      simp only [rdW]
      exact ⟨_, rfl, .inl ⟨trivial, trivial, none, 0, rfl⟩⟩
    · exact h.ok x hx, fun x hx k hk => by
    rcases List.mem_cons.1 hx with rfl | hx
    · cases hk
    · exact h.bnd x hx k hk, List.Pairwise.cons (fun x hx k hk => by cases hk) h.disj⟩
theorem St.ownWSnoc {w : World} {F F' : List Nat} {ts : List Tree} {vs : List Value} {t : Tree} {v : Value} (h : St w0 O (ownWL F ts vs :: ownW F' t v :: C) w) : St w0 O (ownWL (F ++ F') (ts ++ [t]) (vs ++ [v]) :: C) w :=
  h.join (fun k hk => List.mem_append.1 hk) (fun hc hd hdis => ⟨List.nodup_append.2 ⟨hc.1, hd.1, fun a ha b hb e => hdis a ha (e ▸ hb)⟩, rdWL_snoc hc.2 hd.2⟩)
theorem St.ownWNode {w : World} {a : Option Addr} {n cap : Nat} {F : List Nat} {ts : List Tree} {vs : List Value} (op : Int) (name : List UInt8) (hn : n = ts.length) (h : St w0 O (rowc (.slice a n cap) n 25 3 (flat vs) :: ownWL F ts vs :: C) w) :
    ∃ F', St w0 O (ownW F' (.mk op name ts) (.agg #[.int .u8 op, .string (str name), .slice a n cap]) :: C) w := by
  subst hn
  by_cases ht : ts = []
  · subst ht
    refine ⟨[], h.join (fun k hk => by cases hk) (fun _ _ _ => ⟨List.nodup_nil, ?_⟩)⟩
    simp only [rdW]
    exact ⟨_, rfl, .inl ⟨trivial, trivial, a, cap, rfl⟩⟩
  · have hpos : 0 < ts.length := List.length_pos_iff.2 ht
    obtain ⟨g, hg, _, _⟩ := rowc_addr (h.ok (rowc (.slice a ts.length cap) ts.length 25 3 (flat vs)) (List.mem_cons_self ..)) hpos
    subst hg
    refine ⟨g :: F, h.join (fun k hk => ?_) (fun hc hd hdis => ⟨List.nodup_cons.2 ⟨fun hg => hdis g rfl hg, hd.1⟩, ?_⟩)⟩
    · rcases List.mem_cons.1 hk with rfl | hk
      · exact .inl rfl
      · exact .inr hk
    · simp only [rdW]
      exact ⟨_, rfl, .inr ⟨ht, g, cap, F, vs, rfl, rfl, hc, hd.2⟩⟩
theorem St.split {w : World} {x c d : Chunk} (h : St w0 O (x :: C) w) (hc : x.ok w → c.ok w) (hd : x.ok w → d.ok w) (hfc : ∀ k, c.fp k → x.fp k) (hfd : ∀ k, d.fp k → x.fp k) (hdis : x.ok w → ∀ k, c.fp k → ¬ d.fp k) : St w0 O (c :: d :: C) w := by
  have hx := h.ok x (List.mem_cons_self ..)
  have hD := List.pairwise_cons.1 h.disj
  refine ⟨h.os, h.tape, h.output, h.size, h.old, fun y hy => ?_, fun y hy k hk => ?_, ?_⟩
  · rcases List.mem_cons.1 hy with rfl | hy
    · exact hc hx
    · rcases List.mem_cons.1 hy with rfl | hy
      · exact hd hx
      · exact h.ok y (List.mem_cons_of_mem _ hy)
  · rcases List.mem_cons.1 hy with rfl | hy
    · exact h.bnd x (List.mem_cons_self ..) k (hfc k hk)
    · rcases List.mem_cons.1 hy with rfl | hy
      · exact h.bnd x (List.mem_cons_self ..) k (hfd k hk)
      · exact h.bnd y (List.mem_cons_of_mem _ hy) k hk
  · refine List.Pairwise.cons (fun y hy k hk hk' => ?_) (List.Pairwise.cons (fun y hy k hk hk' => hD.1 y hy k (hfd k hk) hk') hD.2)
    rcases List.mem_cons.1 hy with rfl | hy
    · exact hdis hx k hk hk'
    · exact hD.1 y hy k (hfc k hk) hk'
theorem St.ownWOpen {w : World} {F : List Nat} {op : Int} {name : List UInt8} {kids : List Tree} {a : Option Addr} {cap : Nat} (hne : kids ≠ []) (h : St w0 O (ownW F (.mk op name kids) (.agg #[.int .u8 op, .string (str name), .slice a kids.length cap]) :: C) w) :
    ∃ g G vs, a = some ⟨g, 0, none⟩ ∧ F = g :: G ∧ vs.length = kids.length ∧ St w0 O (rowc (.slice (some ⟨g, 0, none⟩) kids.length cap) kids.length 25 3 (flat vs) :: ownWL G kids vs :: C) w := by
  obtain ⟨hnd, hr⟩ := (show F.Nodup ∧ rdW w (.mk op name kids) F _ from h.ok _ (List.mem_cons_self ..))
  simp only [rdW] at hr
  obtain ⟨s, hv, hr⟩ := hr
  have hs : s = .slice a kids.length cap := by
    have := congrArg Value.cells hv
    simp [Value.cells] at this
    exact this.symm
  subst hs
  rcases hr with ⟨h0, _⟩ | ⟨_, g, cap', G, vs, hs, hF, hrow, hl⟩
  · exact absurd h0 hne
  · injection hs with e1 e2 e3
    subst e1; subst e3; subst hF
    refine ⟨g, G, vs, rfl, rfl, rdL_len (rdWL_L hl), h.split (fun _ => hrow) (fun _ => ⟨(List.nodup_cons.1 hnd).2, hl⟩) (fun k hk => ?_) (fun k hk => List.mem_cons_of_mem _ hk) (fun _ k hk hk' => ?_)⟩
    · have : g = k := Option.some.inj hk
      subst this; exact List.mem_cons_self ..
    · have : g = k := Option.some.inj hk
      subst this; exact (List.nodup_cons.1 hnd).1 hk'
theorem St.ownWCons {w : World} {F : List Nat} {t : Tree} {ts : List Tree} {vs : List Value} (h : St w0 O (ownWL F (t :: ts) vs :: C) w) : ∃ F1 F2 v vs', vs = v :: vs' ∧ St w0 O (ownW F1 t v :: ownWL F2 ts vs' :: C) w := by
  obtain ⟨hnd, hr⟩ := (show F.Nodup ∧ rdWL w (t :: ts) F vs from h.ok _ (List.mem_cons_self ..))
  simp only [rdWL] at hr
  obtain ⟨F1, F2, v, vs', hF, hvs, h1, h2⟩ := hr
  subst hF
  obtain ⟨n1, n2, n3⟩ := List.nodup_append.1 hnd
  exact ⟨F1, F2, v, vs', hvs, h.split (fun _ => ⟨n1, h1⟩) (fun _ => ⟨n2, h2⟩) (fun k hk => List.mem_append_left _ hk) (fun k hk => List.mem_append_right _ hk) (fun _ k hk hk' => n3 k hk k hk' rfl)⟩
/-- A head's operation and name are no matter of its rows. -/
theorem St.ownWRename {w : World} {F : List Nat} {op op' : Int} {name name' : List UInt8} {kids : List Tree} {s : Value} (h : St w0 O (ownW F (.mk op name kids) (.agg #[.int .u8 op, .string (str name), s]) :: C) w) : St w0 O (ownW F (.mk op' name' kids) (.agg #[.int .u8 op', .string (str name'), s]) :: C) w :=
  h.swap (fun ⟨hn, hr⟩ => ⟨hn, by
    simp only [rdW] at hr ⊢
    obtain ⟨s', hv, hr⟩ := hr
    have hs : s' = s := by
      have := congrArg Value.cells hv
      simp [Value.cells] at this
      exact this.symm
    subst hs
    exact ⟨s', rfl, hr⟩⟩) (fun k hk => hk)
end
end Go.Eng

namespace Go.Eng
open Go Go.RowKit
theorem SetN.flat1 {a b c x : Value} {v v' : Value} (hu : v.cells.toList = [a, b, c]) (hv : v'.cells.toList = [a, x, c]) : ∀ {vs : List Value} {i : Nat}, vs[i]? = some v → (∀ v ∈ vs, v.cells.toList.length = 3) → SetN (flat vs) (i * 3 + 1) [x] (flat (vs.set i v'))
  | [], i, h, _ => by simp at h
  | v0 :: vs, 0, h, _ => by
    simp at h
    subst h
    rw [flat_cons, hu, List.set_cons_zero, flat_cons, hv]
    exact .skip (.put .done)
  | v0 :: vs, i + 1, h, h3 => by
    have hv3 := h3 v0 (by simp)
    have ih := SetN.flat1 hu hv (vs := vs) (i := i) (by simpa using h) (fun x hx => h3 x (by simp [hx]))
    rw [flat_cons, List.set_cons_succ, flat_cons]
    match hq : v0.cells.toList, hv3 with
    | [p, q, r], _ =>
      rw [show (i + 1) * 3 + 1 = (i * 3 + 1) + 1 + 1 + 1 by omega]
      exact .skip (.skip (.skip ih))
section
variable {P : Program} {w0 : World} {O : List Nat} {ops : Array Oper} {Q : Exit → Act → World → Prop} {N : Nat} {D : List Deferred} {L : FL} {C : List Chunk} {K : Act → World → Prop}
variable {ty : TypeId} {pos : String} {af : Array Edge}
theorem WL.storeRow1 {t : TypeId} {n sz cap : Nat} {x y : Operand} {g off : Nat} {xs xs' : List Value} {v : Value} {e : TypeId} {C' : List Chunk} (ht : One P t) (hx : ev L x = some (.pointer (some ⟨g, off, none⟩))) (hy : ev L y = some v) (hv : v.oneCell' = true)
    (hu : Upd (rowc (.slice (some ⟨g, 0, none⟩) n cap) n e sz xs) (rowc (.slice (some ⟨g, 0, none⟩) n cap) n e sz xs') C C') (hn : SetN xs off [v] xs') (h : WA w0 O K N D L C') :
    WK P w0 O ops Q ⟨none, .store t x y, ty, pos, af, none⟩ K N D L C := fun a w hF hS => by
  obtain ⟨hlen, hr⟩ := (show w.ownsRow 0 e sz (.slice (some ⟨g, 0, none⟩) n cap) n xs from hS.ok _ hu.mem)
  rcases hr with ⟨h1, _⟩ | ⟨g', cap', cur, h1, _, hh, hnc, hcm, hcs, htk⟩
  · cases h1
  · injection h1 with h1 h2 h3
    injection h1 with h1
    injection h1 with h1
    subst h1; subst h3
    have hsplit : cur.toList = xs ++ cur.toList.drop (n * sz) := by rw [← htk, List.take_append_drop]
    have hn' : SetN cur.toList off [v] (xs' ++ cur.toList.drop (n * sz)) := by
      have := hn.append (cur.toList.drop (n * sz))
      rw [← hsplit] at this
      exact this
    have hh' : w.heap[g]? = some (.cells cur.toList.toArray e (0, 0)) := by rw [Array.toArray_toList]; exact hh
    have hr := run_storeN (P := P) (t := t) (vs := [v]) ht.size (cells_one hv) (by simpa using hv) hh' hn'
    have hxl : xs'.length = xs.length := hn.len
    have hSt : St w0 O C' (w.setRow g (xs' ++ cur.toList.drop (n * sz)).toArray) := by
      refine hS.rowUpd (b := g) hu (fun k => ?_) (fun k => ?_) ?_
      · constructor
        · intro hk; exact (Option.some.inj hk).symm
        · intro hk; rw [hk]; rfl
      · constructor
        · intro hk; exact (Option.some.inj hk).symm
        · intro hk; rw [hk]; rfl
      · refine ⟨by rw [hxl, hlen], .inr ⟨g, cap, (xs' ++ cur.toList.drop (n * sz)).toArray, rfl, Nat.zero_le _, setRow_heap w g _ _ e _ hh', hnc, hcm, ?_, ?_⟩⟩
        · have := congrArg List.length hsplit
          simp at this ⊢
          omega
        · have e2 : xs'.length = n * sz := by rw [hxl, hlen]
          show (xs' ++ cur.toList.drop (n * sz)).take (n * sz) = xs'
          rw [List.take_left' e2]
    exact wpo_skip rfl (by simp [execOp, hF.ev hx, hF.ev hy, hr]) (h _ _ hF hSt)
end
end Go.Eng

namespace Fm
open Go Go.Eng
/-! ### the reference's parser: tokens first, then a reader of them -/
abbrev Tk := Nat × List UInt8
/-- The tokens from the one behind (a, x) on, the end's among them; and where the first byte is that begins no token (-1: nowhere). -/
def toks (text : List UInt8) : Nat → Nat → List UInt8 → List Tk × Int
  | 0, _, _ => ([], 0)
  | n + 1, a, x => match next text a x with
    | .bad b => ([], (b : Int))
    | .ok a' x' => if x' = [] then ([(a', [])], -1) else ((a', x') :: (toks text n a' x').1, (toks text n a' x').2)
abbrev RS := Nat × Bool
def rword (T : List Tk) (r : RS) : List UInt8 := if r.2 = true then [] else match T[r.1]? with
  | some t => t.2
  | none => []
def rskip (T : List Tk) (r : RS) (s : List UInt8) : RS × Bool := if rword T r = s then ((r.1 + 1, r.2), true) else (r, false)
inductive RN where
  | choice | implies | row (i : Nat) | rest (i : Nat) (acc : List Tree) | least
def rp (T : List Tk) : Nat → RN → RS → Option (Tree × RS)
  | 0, _, _ => none
  | n + 1, .choice, r => (rp T n .implies r).bind fun q1 =>
      (if (rskip T q1.2 [60, 61, 62]).2 then (rp T n .implies (rskip T q1.2 [60, 61, 62]).1).bind fun q2 => some (Tree.mk 9 [] [q1.1, q2.1], q2.2) else some q1).bind fun q =>
      if (rskip T q.2 [63]).2 then (rp T n .choice (rskip T q.2 [63]).1).bind fun q2 =>
        if (rskip T q2.2 [58]).2 then (rp T n .choice (rskip T q2.2 [58]).1).bind fun q3 => some (Tree.mk 10 [] [q.1, q2.1, q3.1], q3.2)
        else some (q.1, (q2.2.1, true))
      else some q
  | n + 1, .implies, r => (rp T n (.row 0) r).bind fun q => if (rskip T q.2 [61, 62]).2 then (rp T n .implies (rskip T q.2 [61, 62]).1).bind fun q2 => some (Tree.mk 8 [] [q.1, q2.1], q2.2) else some q
  | n + 1, .row i, r => if 3 ≤ i then rp T n .least r else (rp T n (.row (i + 1)) r).bind fun q => rp T n (.rest i [q.1]) q.2
  | n + 1, .rest i acc, r => if (rskip T r (rowSign i)).2 then (rp T n (.row (i + 1)) (rskip T r (rowSign i)).1).bind fun q => rp T n (.rest i (acc ++ [q.1])) q.2 else some (mkRow i acc, r)
  | n + 1, .least, r => if rword T r = [] then some (zeroTree, (r.1, true))
      else if rword T r = [33] then (rp T n .least (r.1 + 1, r.2)).bind fun q => some (Tree.mk 4 [] [q.1], q.2)
      else if rword T r = [40] then (rp T n .choice (r.1 + 1, r.2)).bind fun q => if (rskip T q.2 [41]).2 then some (q.1, (rskip T q.2 [41]).1) else some (q.1, (q.2.1, true))
      else if rword T r = [48] then some (.mk 1 [] [], (r.1 + 1, r.2))
      else if rword T r = [49] then some (.mk 2 [] [], (r.1 + 1, r.2))
      else if isNameB (rword T r) then some (.mk 3 (rword T r) [], (r.1 + 1, r.2))
      else some (zeroTree, (r.1, true))

/-! what is behind a token -/
inductive AtTok (text : List UInt8) (T : List Tk) (e : Int) : Nat → Nat → List UInt8 → Prop
  | mk {I a : Nat} {x : List UInt8} (h : T[I]? = some (a, x)) (hn : x ≠ [] → ∀ (a' : Nat) (x' : List UInt8), next text a x = .ok a' x' → AtTok text T e (I + 1) a' x') (hb : x ≠ [] → ∀ b, next text a x = .bad b → T.length = I + 1 ∧ e = (b : Int))
      (hend : x = [] → T.length = I + 1 ∧ e = -1) : AtTok text T e I a x
section
variable {text : List UInt8} {T : List Tk} {e : Int} {I a : Nat} {x : List UInt8}
theorem AtTok.get (h : AtTok text T e I a x) : T[I]? = some (a, x) := by cases h; assumption
theorem AtTok.next (h : AtTok text T e I a x) (hx : x ≠ []) : (∀ a' x', Fm.next text a x = .ok a' x' → AtTok text T e (I + 1) a' x') ∧ (∀ b, Fm.next text a x = .bad b → T.length = I + 1 ∧ e = (b : Int)) := by
  cases h with
  | mk h1 hn hb _ => exact ⟨hn hx, hb hx⟩
theorem AtTok.last (h : AtTok text T e I a []) : T.length = I + 1 ∧ e = -1 := by
  cases h with
  | mk h1 _ _ hend => exact hend rfl
end
end Fm

namespace Fm
open Go Go.Eng
/-! ### the reader says what the parser says -/
section
variable {text : List UInt8} {T : List Tk} {e : Int} {I a b : Nat} {x s : List UInt8} {r : RS} {q : Tree × RS} {t : Tree}
def OffS (T : List Tk) (r : RS) : Prop := r.2 = true ∨ T.length ≤ r.1
def BadAt (T : List Tk) (e : Int) (b : Nat) (r : RS) : Prop := (r.2 = true ∧ ∃ y, T[r.1]? = some (b, y)) ∨ (T.length ≤ r.1 ∧ e = (b : Int))
theorem BadAt.off (h : BadAt T e b r) : OffS T r := by
  rcases h with h | h
  · exact .inl h.1
  · exact .inr h.1
theorem BadAt.set (h : BadAt T e b r) : BadAt T e b (r.1, true) := by
  rcases h with h | h
  · exact .inl ⟨rfl, h.2⟩
  · exact .inr h
def Rel (text : List UInt8) (T : List Tk) (e : Int) : PR → Tree × RS → Prop
  | .ok t a x, q => q.1 = t ∧ q.2.2 = false ∧ AtTok text T e q.2.1 a x
  | .bad b, q => BadAt T e b q.2
end
def sameP (T : List Tk) (n : Nat) (r : RS) : Option (Tree × RS) := (rp T n .implies r).bind fun q1 => if (rskip T q1.2 [60, 61, 62]).2 then (rp T n .implies (rskip T q1.2 [60, 61, 62]).1).bind fun q2 => some (Tree.mk 9 [] [q1.1, q2.1], q2.2) else some q1
def Sim (text : List UInt8) (T : List Tk) (e : Int) (I : Nat) (x : List UInt8) (p : PR) : NT → Prop
  | .choice => ∃ m q, rp T m .choice (I, false) = some q ∧ Rel text T e p q
  | .same => ∃ m q, sameP T m (I, false) = some q ∧ Rel text T e p q
  | .implies => ∃ m q, rp T m .implies (I, false) = some q ∧ Rel text T e p q
  | .row i => i ≤ 3 → ∃ m q, rp T m (.row i) (I, false) = some q ∧ Rel text T e p q
  | .rest i acc => i ≤ 2 → ∃ m q, rp T m (.rest i acc) (I, false) = some q ∧ Rel text T e p q
  | .not => ∃ m q, rp T m .least (I, false) = some q ∧ Rel text T e p q
  | .least => x ≠ [33] → ∃ m q, rp T m .least (I, false) = some q ∧ Rel text T e p q
/-- Every token in the row is of a kind. -/
def Kinds (x : List UInt8) : Prop := x = [] ∨ x ∈ signs ∨ x = [48] ∨ x = [49] ∨ isNameB x = true
/-- What the reference answers of a text that is not too long, out of its tokens and what its reader says. -/
def refTop (text : List UInt8) (T : List Tk) (e : Int) (q : Tree × RS) : Tree × Int × Int :=
  if q.2.1 < T.length ∧ (q.2.2 = true ∨ (T.getD q.2.1 (0, [])).2 ≠ []) then (zeroTree, ((T.getD q.2.1 (0, [])).1 : Int), 4)
  else if 0 ≤ e then (zeroTree, e, 4) else if validB q.1 then (q.1, 0, 0) else (zeroTree, (text.length : Int), 5)
end Fm

namespace Fm
open Go Go.Eng
end Fm

namespace Fm
open Go Go.Eng
/-- The tokens from a place on, as the reference goes through the text. -/
def scanF (text : List UInt8) : Nat → Nat → List Tk × Int
  | 0, _ => ([], 0)
  | n + 1, i => if text.length ≤ i then ([(text.length, [])], -1) else if text[i]? = some 32 then scanF text n (i + 1) else match tok (text.drop i) with
    | none => ([], (i : Int))
    | some x => ((i, x) :: (scanF text n (i + x.length)).1, (scanF text n (i + x.length)).2)
end Fm

namespace Fm
open Go Go.Eng
def SizeOk (T : List Tk) (r : RS) (q : Tree × RS) : RN → Prop
  | .rest i acc => r.1 ≤ q.2.1 ∧ q.2.1 ≤ T.length ∧ (rowT q.1).length ≤ (rowL acc).length + 2 * (q.2.1 - r.1) + (if acc.length = 1 then 0 else 1)
  | _ => r.1 ≤ q.2.1 ∧ q.2.1 ≤ T.length ∧ (rowT q.1).length ≤ 2 * (q.2.1 - r.1) + 1
mutual
/-- Are two trees equal? -/
def sameT : Tree → Tree → Bool
  | .mk o n k, .mk o' n' k' => decide (o = o') && n == n' && sameL k k'
def sameL : List Tree → List Tree → Bool
  | [], [] => true
  | a :: xs, b :: ys => sameT a b && sameL xs ys
  | _, _ => false
end
mutual
theorem sameT_refl : ∀ t : Tree, sameT t t = true
  | .mk o n k => by simp [sameT, sameL_refl k]
theorem sameL_refl : ∀ ts : List Tree, sameL ts ts = true
  | [] => rfl
  | t :: ts => by simp [sameL, sameT_refl t, sameL_refl ts]
end
theorem sameT_mk (a b : Tree) : sameT a b = (decide (a.op = b.op) && a.name == b.name && sameL a.kids b.kids) := by
  obtain ⟨o, n, k⟩ := a
  obtain ⟨o', n', k'⟩ := b
  simp only [sameT]
  rfl
theorem sameL_len : ∀ {a b : List Tree}, a.length ≠ b.length → sameL a b = false
  | [], [], h => absurd rfl h
  | [], _ :: _, _ => rfl
  | _ :: _, [], _ => rfl
  | a :: xs, b :: ys, h => by simp only [sameL, sameL_len (a := xs) (b := ys) (by simpa using h), Bool.and_false]
/-- Up to a place. -/
theorem sameL_drop : ∀ {a b : List Tree} {i : Nat} {x y : Tree}, a[i]? = some x → b[i]? = some y → sameL (a.drop i) (b.drop i) = (sameT x y && sameL (a.drop (i + 1)) (b.drop (i + 1)))
  | a, b, i, x, y, h1, h2 => by
    obtain ⟨l1, e1⟩ := List.getElem?_eq_some_iff.1 h1
    obtain ⟨l2, e2⟩ := List.getElem?_eq_some_iff.1 h2
    rw [List.drop_eq_getElem_cons l1, List.drop_eq_getElem_cons l2, e1, e2]
    rfl
end Fm

namespace Fm
open Go Go.Eng
/-! ### how great a tree is -/
mutual
def cntT : Nat → Int → Tree → Int
  | lv, left, .mk _ name kids => if lv = 0 ∨ left - 1 < 0 ∨ 100 < name.length then -1 else cntL (lv - 1) (left - 1) kids
def cntL : Nat → Int → List Tree → Int
  | _, left, [] => left
  | lv, left, k :: ks => if left < 0 then left else cntL lv (cntT lv left k) ks
end
mutual
theorem cntT_le : ∀ (lv : Nat) (left : Int) (t : Tree), 0 ≤ left → cntT lv left t ≤ left - 1 ∧ -1 ≤ cntT lv left t
  | lv, left, .mk _ name kids, h => by
    simp only [cntT]
    split
    · omega
    · rename_i hc
      exact cntL_le (lv - 1) (left - 1) kids (by omega)
theorem cntL_le : ∀ (lv : Nat) (left : Int) (ts : List Tree), -1 ≤ left → cntL lv left ts ≤ left ∧ -1 ≤ cntL lv left ts
  | lv, left, [], h => by simp only [cntL]; omega
  | lv, left, k :: ks, h => by
    simp only [cntL]
    split
    · omega
    · have h1 := cntT_le lv left k (by omega)
      have h2 := cntL_le lv (cntT lv left k) ks h1.2
      omega
end
/-- Names of at most so many bytes. -/
def shortN (t : Tree) : Bool := decide (t.name.length ≤ 100)
mutual
theorem cntT_ok : ∀ (lv : Nat) (left : Int) (t : Tree), 0 ≤ cntT lv left t → cntT lv left t = left - (rowT t).length ∧ levT t ≤ lv ∧ (rowT t).all shortN = true
  | lv, left, .mk op name kids, h => by
    simp only [cntT] at h ⊢
    split at h
    · omega
    · rename_i hc
      rw [if_neg hc]
      obtain ⟨h1, h2, h3⟩ := cntL_ok (lv - 1) (left - 1) kids h
      simp only [rowT, levT, List.length_cons, List.all_cons, Bool.and_eq_true, h3, and_true]
      refine ⟨by rw [h1]; omega, ?_, by show decide (name.length ≤ 100) = true; simp; omega⟩
      rcases h2 with h2 | h2
      · subst h2; simp only [levL]; omega
      · omega
theorem cntL_ok : ∀ (lv : Nat) (left : Int) (ts : List Tree), 0 ≤ cntL lv left ts → cntL lv left ts = left - (rowL ts).length ∧ (ts = [] ∨ levL ts ≤ lv) ∧ (rowL ts).all shortN = true
  | lv, left, [], h => by simp [cntL, rowL]
  | lv, left, k :: ks, h => by
    simp only [cntL] at h ⊢
    split at h
    · omega
    · rename_i hc
      rw [if_neg hc]
      obtain ⟨h1, h2, h3⟩ := cntL_ok lv (cntT lv left k) ks h
      have h4 : 0 ≤ cntT lv left k := by omega
      obtain ⟨h5, h6, h7⟩ := cntT_ok lv left k h4
      simp only [rowL, levL, List.length_append, List.all_append, h3, h7, Bool.and_self, and_true]
      refine ⟨by rw [h1, h5]; omega, .inr ?_⟩
      rcases h2 with h2 | h2
      · subst h2; simp only [levL]; omega
      · omega
end
theorem cntT_mk (lv : Nat) (left : Int) (t : Tree) : cntT lv left t = if lv = 0 ∨ left - 1 < 0 ∨ 100 < t.name.length then -1 else cntL (lv - 1) (left - 1) t.kids := by
  obtain ⟨op, name, kids⟩ := t
  simp only [cntT]; rfl
theorem cntL_drop {lv : Nat} {left : Int} {ts : List Tree} {i : Nat} {k : Tree} (h : ts[i]? = some k) (hl : ¬ left < 0) : cntL lv left (ts.drop i) = cntL lv (cntT lv left k) (ts.drop (i + 1)) := by
  obtain ⟨l1, e1⟩ := List.getElem?_eq_some_iff.1 h
  rw [List.drop_eq_getElem_cons l1, e1, cntL, if_neg hl]
theorem cntL_stop {lv : Nat} {left : Int} {ts : List Tree} (hl : left < 0) : cntL lv left ts = left := by
  cases ts with
  | nil => rfl
  | cons k ks => rw [cntL, if_pos hl]
/-- Great: more than 1,200 nodes, or more levels, or a long name. -/
def greatB (t : Tree) (lv : Nat) : Bool := decide (cntT lv 1200 t < 0)
theorem great_no {t : Tree} {lv : Nat} (h : greatB t lv = false) : (rowT t).length ≤ 1200 ∧ levT t ≤ lv ∧ (rowT t).all shortN = true := by
  simp only [greatB, decide_eq_false_iff_not] at h
  obtain ⟨h1, h2, h3⟩ := cntT_ok lv 1200 t (by omega)
  exact ⟨by omega, h2, h3⟩
/-! ### the reference's text -/
def lineOf (op : Int) : Int := if op = 5 then 2 else if op = 7 then 3 else if op = 6 then 4 else if op = 8 then 5 else if op = 9 then 6 else if op = 10 then 7 else 1
def signR (op i : Int) : List UInt8 :=
  if op = 5 then [32, 38, 32] else if op = 7 then [32, 94, 32] else if op = 6 then [32, 124, 32] else if op = 8 then [32, 61, 62, 32] else if op = 9 then [32, 60, 61, 62, 32] else if i = 1 then [32, 63, 32] else [32, 58, 32]
def mostOf (op i : Int) : Int := if (op = 8 ∧ i = 1) ∨ (op = 10 ∧ 0 < i) then lineOf op else if op = 4 then 1 else lineOf op - 1
def headR (op i : Int) : List UInt8 := (if op = 4 then [33] else []) ++ (if 0 < i then signR op i else [])
mutual
def textT : Tree → List UInt8
  | .mk op name kids => if op = 1 then [48] else if op = 2 then [49] else if op = 3 then name else textL op 0 kids
def textL : Int → Int → List Tree → List UInt8
  | _, _, [] => []
  | op, i, k :: ks => headR op i ++ (if mostOf op i < lineOf k.op then [40] ++ textT k ++ [41] else textT k) ++ textL op (i + 1) ks
end
def kidR (op i : Int) (k : Tree) : List UInt8 := if mostOf op i < lineOf k.op then [40] ++ textT k ++ [41] else textT k
/-- What is said of the first kids. -/
def textTo (op : Int) : Nat → List Tree → List UInt8
  | 0, _ => []
  | i + 1, ts => textTo op i ts ++ (match ts[i]? with | some k => headR op i ++ kidR op i k | none => [])
end Fm

namespace Fm
open Go Go.Eng
/-! ### what is printed is parsed -/
/-- The token at a place, behind blanks. -/
def nextP (text : List UInt8) (p : Nat) : NR :=
  match tok (text.drop (p + blanks (text.drop p))) with
  | some x => .ok (p + blanks (text.drop p)) x
  | none => .bad (p + blanks (text.drop p))
def okv (v : List UInt8) : Prop := ∀ c, v.head? = some c → inWordB c = false
/-! levels -/
def opTok : Nat → List UInt8
  | 2 => [38] | 3 => [94] | 4 => [124] | 5 => [61, 62] | 6 => [60, 61, 62] | _ => [63]
def ntOf : Nat → NT
  | 1 => .not | 2 => .row 2 | 3 => .row 1 | 4 => .row 0 | 5 => .implies | 6 => .same | _ => .choice
def follow (l : Nat) (x : List UInt8) : Prop := ∀ m, 2 ≤ m → m ≤ l → x ≠ opTok m
/-- A text that stands at a place is that of t: a token begins there, and at every line of the grammar from l on it is parsed to t. -/
def PutOk (s : List UInt8) (t : Tree) (l : Nat) : Prop := ∀ (text v : List UInt8) (p : Nat), text.drop p = s ++ v → okv v →
  ∃ y, nextP text p = .ok p y ∧ y ≠ [] ∧ ∀ m a' x', l ≤ m → m ≤ 7 → nextP text (p + s.length) = .ok a' x' → follow m x' → ∃ n, parse text n (ntOf m) p y = some (.ok t a' x')
end Fm

namespace Fm
open Go Go.Eng
def lineN (op : Int) : Nat := (lineOf op).toNat
end Fm

namespace Go.Proofs.Ytbippghgkbapnaa
open Go Go.Eng Go.Proofs
theorem name_c (s : List UInt8) (w : World) : Pure Try.prog 44 [.string (str s)] w (.agg [Value.int .u8 3, .string (str s), .slice none 0 0].toArray) := by
  refine enter Try.func44 rfl Try.ntmps44 rfl (St.init _) ?_
  refine WC.seq ?_
  refine WC.region ?_
  refine WL.step ?_
  refine WL.alloc F.zero25 rfl (fun b2 => ?_)
  refine WL.nil ?_
  refine WQ.then_normal ?_
  refine WC.seq ?_
  refine WC.region ?_
  refine WL.step ?_
  refine WL.move rfl rfl ?_
  refine WL.step ?_
  refine WL.build F.stT25 rfl (by repeat (first | exact Built.nil | apply Built.one rfl rfl (by repeat constructor) | apply Built.agg rfl rfl (by repeat constructor))) rfl ?_
  refine WL.step ?_
  refine WL.storeN F.agg25 rfl rfl rfl (by simp [Value.oneCell']) (by repeat (first | exact Upd.here | apply Upd.there)) (by repeat constructor) ?_
  refine WL.nil ?_
  refine WQ.then_normal ?_
  refine WC.ret ?_
  refine WQ.ret (rs := [.cell 2 25]) rfl (.cellN F.agg25 rfl (by repeat (first | exact List.Mem.head _ | apply List.Mem.tail)) rfl .nil) (fun w hS => ⟨rfl, hS.drop⟩)

def T1 : Tree := .mk 5 [] [.mk 3 [97] [], .mk 3 [98] [], .mk 5 [] [.mk 3 [99] [], .mk 3 [100] []]]
def T2 : Tree := .mk 5 [] [.mk 6 [] [.mk 3 [97] [], .mk 3 [98] []], .mk 4 [] [.mk 3 [99] []]]
theorem top1 : Fm.top [97, 32, 38, 32, 98, 32, 38, 32, 40, 99, 32, 38, 32, 100, 41] = (T1, 0, 0) := by kernel_rfl
theorem top2 : Fm.top [97, 32, 60, 61, 62, 32, 98, 32, 60, 61, 62, 32, 99] = (Fm.zeroTree, 8, 4) := by kernel_rfl
theorem print1 : printS T2 = [40, 97, 32, 124, 32, 98, 41, 32, 38, 32, 33, 99] := by kernel_rfl
theorem valid1 : Fm.validB T2 = true := by kernel_rfl
theorem sol1 : Fm.solveF 2 20 false [[1, 2], [-1]] [] [] = some ⟨true, 2, []⟩ := by kernel_rfl
theorem sol2 : Fm.solveF 1 20 false [[1], [-1]] [] [] = some ⟨false, 0, [[]]⟩ := by kernel_rfl
theorem may1 : Fm.mayE 2 [[1, 2], [-1]] = 0 := by kernel_rfl
theorem may2 : Fm.mayE 1 [[1], [-1]] = 0 := by kernel_rfl
/-- Two clauses that the caller laid. -/
theorem RdLL.two {w0 w : World} {O : List Nat} {C : List Chunk} {b1 b2 b3 : Nat} {c1 c2 : List Int} (hS : St w0 O C w) (h1 : pt b1 (c1.map (Value.int .i64)) 3 ∈ C) (h2 : pt b2 (c2.map (Value.int .i64)) 3 ∈ C)
    (h3 : pt b3 [.slice (some ⟨b1, 0, none⟩) c1.length c1.length, .slice (some ⟨b2, 0, none⟩) c2.length c2.length] 54 ∈ C) :
    RdLL w [c1, c2] (some ⟨b3, 0, none⟩) [.slice (some ⟨b1, 0, none⟩) c1.length c1.length, .slice (some ⟨b2, 0, none⟩) c2.length c2.length] := by
  refine ⟨rfl, fun i u hu => ⟨b3, 0, rfl, by rw [Nat.zero_add]; exact hS.cell h3 hu⟩, fun i c u hc hu => ?_⟩
  match i, hc, hu with
  | 0, hc, hu =>
    simp at hc hu
    subst hc; subst hu
    exact ⟨_, _, rfl, fun j x hx => ⟨b1, 0, rfl, by rw [Nat.zero_add]; exact hS.cell h1 (by simp [hx])⟩⟩
  | 1, hc, hu =>
    simp at hc hu
    subst hc; subst hu
    exact ⟨_, _, rfl, fun j x hx => ⟨b2, 0, rfl, by rw [Nat.zero_add]; exact hS.cell h2 (by simp [hx])⟩⟩
  | i + 2, hc, hu => simp at hc

theorem wakes_c (w : World) : Pure Try.prog 13 [] w (.bool true) := by
  refine enter Try.func13 rfl Try.ntmps13 rfl (St.init _) ?_
  refine WC.seq ?_
  refine WC.region ?_
  refine WL.step ?_
  refine WL.assign rfl rfl ?_
  refine WL.nil ?_
  refine WQ.then_normal ?_
  refine WC.seq ?_
  refine WC.region ?_
  refine WL.step ?_
  refine WL.callC (β := List Nat × Option Addr × Nat) (res := fun y => .tuple #[tv T1 y.2.1 y.2.2, .int .i64 0, .int .i64 0]) (cs := fun y => [own y.1 T1 (tv T1 y.2.1 y.2.2)]) (Cs := []) (O' := []) F.fun14 (fun d h => by cases h; rfl) rfl (List.Perm.refl _) (by simp) (by simp) (fun w hS _ => (Parse_c [97, 32, 38, 32, 98, 32, 38, 32, 40, 99, 32, 38, 32, 100, 41] w).mono (fun e w2 h => ?_)) (fun y14 => ?_)
  · rw [top1] at h
    exact h
  refine WL.step ?_
  refine WL.move rfl rfl ?_
  refine WL.step ?_
  refine WL.extract rfl rfl rfl ?_
  refine WL.step ?_
  refine WL.extract rfl rfl rfl ?_
  refine WL.step ?_
  refine WL.extract rfl rfl rfl ?_
  refine WL.step ?_
  refine WL.alloc F.zero25 rfl (fun b1 => ?_)
  refine WL.step ?_
  refine WL.storeN F.agg25 rfl rfl rfl (by simp [Value.oneCell']) (by repeat (first | exact Upd.here | apply Upd.there)) (by repeat constructor) ?_
  refine WL.step ?_
  refine WL.assign rfl rfl ?_
  refine WL.step ?_
  refine WL.assign rfl rfl ?_
  refine WL.nil ?_
  refine WQ.then_normal ?_
  refine WC.seq ?_
  refine WC.region ?_
  refine WL.step ?_
  refine WL.callV F.fun44 rfl rfl (fun w _ => name_c [97] w) ?_
  refine WL.step ?_
  refine WL.callV F.fun44 rfl rfl (fun w _ => name_c [98] w) ?_
  refine WL.step ?_
  refine WL.buildSlice F.sl23 F.ez23 rfl rfl rfl rfl (by repeat (first | exact Built.nil | apply Built.one rfl rfl (by repeat constructor) | apply Built.agg rfl rfl (by repeat constructor))) rfl (fun b21 => ?_)
  refine WL.step ?_
  refine WL.build F.stT25 rfl (by repeat (first | exact Built.nil | apply Built.one rfl rfl (by repeat constructor) | apply Built.agg rfl rfl (by repeat constructor))) rfl ?_
  refine WL.step ?_
  refine WL.callV F.fun44 rfl rfl (fun w _ => name_c [99] w) ?_
  refine WL.step ?_
  refine WL.buildSlice F.sl23 F.ez23 rfl rfl rfl rfl (by repeat (first | exact Built.nil | apply Built.one rfl rfl (by repeat constructor) | apply Built.agg rfl rfl (by repeat constructor))) rfl (fun b24 => ?_)
  refine WL.step ?_
  refine WL.build F.stT25 rfl (by repeat (first | exact Built.nil | apply Built.one rfl rfl (by repeat constructor) | apply Built.agg rfl rfl (by repeat constructor))) rfl ?_
  refine WL.step ?_
  refine WL.buildSlice F.sl23 F.ez23 rfl rfl rfl rfl (by repeat (first | exact Built.nil | apply Built.one rfl rfl (by repeat constructor) | apply Built.agg rfl rfl (by repeat constructor))) rfl (fun b26 => ?_)
  refine WL.step ?_
  refine WL.build F.stT25 rfl (by repeat (first | exact Built.nil | apply Built.one rfl rfl (by repeat constructor) | apply Built.agg rfl rfl (by repeat constructor))) rfl ?_
  refine WA.chunksE (C' := fun x : List Nat => [own x T2 (.agg #[.int .u8 5, .string (str []), .slice (some ⟨b26, 0, none⟩) 2 2]), pt b1 [.int .u8 T1.op, .string (str T1.name), .slice y14.2.1 T1.kids.length y14.2.2] 25]) (fun w hS => ?_) (fun G => ?_)
  · have a1 := St.node0 3 [98] (St.node0 3 [97] hS)
    have a2 := St.pick a1 (c := own [] (Tree.mk 3 [97] []) (.agg #[.int .u8 3, .string (str [97]), .slice none 0 0])) (by repeat (first | exact Rem.here | apply Rem.there))
    obtain ⟨F1, a3⟩ := St.node2 6 (t1 := Tree.mk 3 [97] []) (t2 := Tree.mk 3 [98] []) (a1 := none) (a2 := none) (c1 := 0) (c2 := 0) (St.pick a2 (c := pt b21 [.int .u8 3, .string (str [97]), .slice none 0 0, .int .u8 3, .string (str [98]), .slice none 0 0] 25) (by repeat (first | exact Rem.here | apply Rem.there)))
    have a4 := St.node0 3 [99] a3
    obtain ⟨F2, a5⟩ := St.node1 4 (t1 := Tree.mk 3 [99] []) (a1 := none) (c1 := 0) (St.pick a4 (c := pt b24 [.int .u8 3, .string (str [99]), .slice none 0 0] 25) (by repeat (first | exact Rem.here | apply Rem.there)))
    have a6 := St.pick a5 (c := own F1 (.mk 6 [] [Tree.mk 3 [97] [], Tree.mk 3 [98] []]) (.agg #[.int .u8 6, .string (str []), .slice (some ⟨b21, 0, none⟩) 2 2])) (by repeat (first | exact Rem.here | apply Rem.there))
    obtain ⟨F3, a7⟩ := St.node2 5 (t1 := .mk 6 [] [Tree.mk 3 [97] [], Tree.mk 3 [98] []]) (t2 := .mk 4 [] [Tree.mk 3 [99] []]) (a1 := some ⟨b21, 0, none⟩) (a2 := some ⟨b24, 0, none⟩) (c1 := 2) (c2 := 1) (St.pick a6 (c := pt b26 [.int .u8 6, .string (str []), .slice (some ⟨b21, 0, none⟩) 2 2, .int .u8 4, .string (str []), .slice (some ⟨b24, 0, none⟩) 1 1] 25) (by repeat (first | exact Rem.here | apply Rem.there)))
    exact ⟨F3, ((St.pick (St.pick a7 (c := pt b1 [.int .u8 T1.op, .string (str T1.name), .slice y14.2.1 T1.kids.length y14.2.2] 25) (by repeat (first | exact Rem.here | apply Rem.there))) (c := own F3 T2 (.agg #[.int .u8 5, .string (str []), .slice (some ⟨b26, 0, none⟩) 2 2])) (by repeat (first | exact Rem.here | apply Rem.there)))).two2⟩
  refine WL.step ?_
  refine WL.callV (v := .tuple #[.string (str [40, 97, 32, 124, 32, 98, 41, 32, 38, 32, 33, 99]), .int .i64 0]) F.fun19 rfl rfl (fun w hS => by have h9 := Print_c T2 G (some ⟨b26, 0, none⟩) 2 w (hS.ok _ (List.Mem.head _)).2; rw [print1, valid1] at h9; exact h9) ?_
  refine WL.step ?_
  refine WL.move rfl rfl ?_
  refine WL.step ?_
  refine WL.extract rfl rfl rfl ?_
  refine WL.step ?_
  refine WL.extract rfl rfl rfl ?_
  refine WL.step ?_
  refine WL.assign rfl rfl ?_
  refine WL.step ?_
  refine WL.assign rfl rfl ?_
  refine WL.nil ?_
  refine WQ.then_normal ?_
  refine WC.seq ?_
  refine WC.region ?_
  refine WL.step ?_
  refine WL.callC (β := List Nat × Option Addr × Nat) (res := fun y => .tuple #[tv Fm.zeroTree y.2.1 y.2.2, .int .i64 8, .int .i64 4]) (cs := fun y => [own y.1 Fm.zeroTree (tv Fm.zeroTree y.2.1 y.2.2)]) (Cs := []) (O' := []) F.fun14 (fun d h => by cases h; rfl) rfl (List.Perm.refl _) (by simp) (by simp) (fun w hS _ => (Parse_c [97, 32, 60, 61, 62, 32, 98, 32, 60, 61, 62, 32, 99] w).mono (fun e w2 h => ?_)) (fun y32 => ?_)
  · rw [top2] at h
    exact h
  refine WL.step ?_
  refine WL.move rfl rfl ?_
  refine WL.step ?_
  refine WL.extract rfl rfl rfl ?_
  refine WL.step ?_
  refine WL.extract rfl rfl rfl ?_
  refine WL.step ?_
  refine WL.extract rfl rfl rfl ?_
  refine WL.step ?_
  refine WL.alloc F.zero25 rfl (fun b6 => ?_)
  refine WL.step ?_
  refine WL.storeN F.agg25 rfl rfl rfl (by simp [Value.oneCell']) (by repeat (first | exact Upd.here | apply Upd.there)) (by repeat constructor) ?_
  refine WL.step ?_
  refine WL.assign rfl rfl ?_
  refine WL.step ?_
  refine WL.assign rfl rfl ?_
  refine WL.nil ?_
  refine WQ.then_normal ?_
  refine WC.seq ?_
  refine WC.region ?_
  refine WL.step ?_
  refine WL.buildSlice F.sl54 F.ez54 rfl rfl rfl rfl (by repeat (first | exact Built.nil | apply Built.one rfl rfl (by repeat constructor) | apply Built.agg rfl rfl (by repeat constructor))) rfl (fun b37 => ?_)
  refine WL.step ?_
  refine WL.buildSlice F.sl54 F.ez54 rfl rfl rfl rfl (by repeat (first | exact Built.nil | apply Built.one rfl rfl (by repeat constructor) | apply Built.agg rfl rfl (by repeat constructor))) rfl (fun b38 => ?_)
  refine WL.step ?_
  refine WL.buildSlice F.sl38 F.ez38 rfl rfl rfl rfl (by repeat (first | exact Built.nil | apply Built.one rfl rfl (by repeat constructor) | apply Built.agg rfl rfl (by repeat constructor))) rfl (fun b39 => ?_)
  refine WL.step ?_
  refine WL.callC (β := Option Addr × Nat) (res := fun x => .tuple #[.agg #[.bool true, .int .u32 2, .slice x.1 0 x.2], .int .i64 0]) (cs := fun _ => []) (Cs := []) (O' := []) F.fun24 (fun d h => by cases h; rfl) rfl (List.Perm.refl _) (by simp) (by simp) (fun w hS _ => (Solve_c 2 [[1, 2], [-1]] (some ⟨b39, 0, none⟩) 2 _ (.inr ⟨_, _, rfl⟩) w (RdLL.two (b1 := b37) (b2 := b38) (b3 := b39) (c1 := [1, 2]) (c2 := [-1]) hS (by repeat (first | exact List.Mem.head _ | apply List.Mem.tail)) (by repeat (first | exact List.Mem.head _ | apply List.Mem.tail)) (by repeat (first | exact List.Mem.head _ | apply List.Mem.tail))) 20 ⟨true, 2, []⟩ (by decide) (fun n hn _ => ?_)).mono (fun e w2 h => ?_)) (fun x40 => ?_)
  · have : n = 2 := by omega
    subst this
    exact sol1
  · rcases h with h | h
    · exact absurd may1 h.1
    · obtain ⟨_, x, F, vs, h1, h2⟩ := h
      exact ⟨x, h1, h2.sublist (List.nil_sublist _)⟩
  refine WL.step ?_
  refine WL.move rfl rfl ?_
  refine WL.step ?_
  refine WL.extract rfl rfl rfl ?_
  refine WL.step ?_
  refine WL.extract rfl rfl rfl ?_
  refine WL.step ?_
  refine WL.alloc F.zero43 rfl (fun b9 => ?_)
  refine WL.step ?_
  refine WL.storeN F.agg43 rfl rfl rfl (by simp [Value.oneCell']) (by repeat (first | exact Upd.here | apply Upd.there)) (by repeat constructor) ?_
  refine WL.step ?_
  refine WL.assign rfl rfl ?_
  refine WL.nil ?_
  refine WQ.then_normal ?_
  refine WC.seq ?_
  refine WC.region ?_
  refine WL.step ?_
  refine WL.buildSlice F.sl54 F.ez54 rfl rfl rfl rfl (by repeat (first | exact Built.nil | apply Built.one rfl rfl (by repeat constructor) | apply Built.agg rfl rfl (by repeat constructor))) rfl (fun b44 => ?_)
  refine WL.step ?_
  refine WL.buildSlice F.sl54 F.ez54 rfl rfl rfl rfl (by repeat (first | exact Built.nil | apply Built.one rfl rfl (by repeat constructor) | apply Built.agg rfl rfl (by repeat constructor))) rfl (fun b45 => ?_)
  refine WL.step ?_
  refine WL.buildSlice F.sl38 F.ez38 rfl rfl rfl rfl (by repeat (first | exact Built.nil | apply Built.one rfl rfl (by repeat constructor) | apply Built.agg rfl rfl (by repeat constructor))) rfl (fun b46 => ?_)
  refine WL.step ?_
  refine WL.callC (β := Option Addr × Nat) (res := fun x => .tuple #[.agg #[.bool false, .int .u32 0, .slice x.1 1 x.2], .int .i64 0]) (cs := fun _ => []) (Cs := []) (O' := []) F.fun24 (fun d h => by cases h; rfl) rfl (List.Perm.refl _) (by simp) (by simp) (fun w hS _ => (Solve_c 1 [[1], [-1]] (some ⟨b46, 0, none⟩) 2 _ (.inr ⟨_, _, rfl⟩) w (RdLL.two (b1 := b44) (b2 := b45) (b3 := b46) (c1 := [1]) (c2 := [-1]) hS (by repeat (first | exact List.Mem.head _ | apply List.Mem.tail)) (by repeat (first | exact List.Mem.head _ | apply List.Mem.tail)) (by repeat (first | exact List.Mem.head _ | apply List.Mem.tail))) 20 ⟨false, 0, [[]]⟩ (by decide) (fun n hn _ => ?_)).mono (fun e w2 h => ?_)) (fun x47 => ?_)
  · have : n = 1 := by omega
    subst this
    exact sol2
  · rcases h with h | h
    · exact absurd may2 h.1
    · obtain ⟨_, x, F, vs, h1, h2⟩ := h
      exact ⟨x, h1, h2.sublist (List.nil_sublist _)⟩
  refine WL.step ?_
  refine WL.move rfl rfl ?_
  refine WL.step ?_
  refine WL.extract rfl rfl rfl ?_
  refine WL.step ?_
  refine WL.extract rfl rfl rfl ?_
  refine WL.step ?_
  refine WL.alloc F.zero43 rfl (fun b11 => ?_)
  refine WL.step ?_
  refine WL.storeN F.agg43 rfl rfl rfl (by simp [Value.oneCell']) (by repeat (first | exact Upd.here | apply Upd.there)) (by repeat constructor) ?_
  refine WL.step ?_
  refine WL.assign rfl rfl ?_
  refine WL.nil ?_
  refine WQ.then_normal ?_
  refine WC.seq ?_
  refine WC.region ?_
  refine WL.step ?_
  refine WL.move rfl rfl ?_
  refine WL.step ?_
  refine WL.eqI rfl rfl rfl ?_
  refine WL.step ?_
  refine WL.move rfl rfl ?_
  refine WA.splitB (i := 52) rfl (fun g52 => ?_) (fun g52 => ?_)
  · skip
    refine WL.step (WL.guardT rfl rfl rfl ?_)
    refine WL.move rfl rfl ?_
    refine WL.step (WL.guardT rfl rfl rfl ?_)
    refine WL.eqI rfl rfl rfl ?_
    refine WL.step ?_
    refine WL.pickT rfl rfl rfl ?_
    refine WL.step ?_
    refine WL.move rfl rfl ?_
    refine WA.splitB (i := 56) rfl (fun g56 => ?_) (fun g56 => ?_)
    · skip
      refine WL.step (WL.guardT rfl rfl rfl ?_)
      refine WL.fieldAddr0 F.fld25_0 rfl rfl ?_
      refine WL.step (WL.guardT rfl rfl rfl ?_)
      refine WL.loadP F.one5 rfl rfl (by repeat (first | exact List.Mem.head _ | apply List.Mem.tail)) rfl ?_
      refine WL.step (WL.guardT rfl rfl rfl ?_)
      refine WL.eqI rfl rfl rfl ?_
      refine WL.step ?_
      refine WL.pickT rfl rfl rfl ?_
      refine WL.step ?_
      refine WL.move rfl rfl ?_
      refine WA.splitB (i := 61) rfl (fun g61 => ?_) (fun g61 => ?_)
      · skip
        refine WL.step (WL.guardT rfl rfl rfl ?_)
        refine WL.fieldAddr0 F.fld25_2 rfl rfl ?_
        refine WL.step (WL.guardT rfl rfl rfl ?_)
        refine WL.loadP F.one23 rfl rfl (by repeat (first | exact List.Mem.head _ | apply List.Mem.tail)) rfl ?_
        refine WL.step (WL.guardT rfl rfl rfl ?_)
        refine WL.lenSl F.und23 rfl rfl ?_
        refine WL.step (WL.guardT rfl rfl rfl ?_)
        refine WL.eqI rfl rfl rfl ?_
        refine WL.step ?_
        refine WL.pickT rfl rfl rfl ?_
        refine WL.step ?_
        refine WL.move rfl rfl ?_
        refine WA.splitB (i := 67) rfl (fun g67 => ?_) (fun g67 => ?_)
        · skip
          refine WL.step (WL.guardT rfl rfl rfl ?_)
          refine WL.move rfl rfl ?_
          refine WL.step (WL.guardT rfl rfl rfl ?_)
          refine WL.eqI rfl rfl rfl ?_
          refine WL.step ?_
          refine WL.pickT rfl rfl rfl ?_
          refine WL.step ?_
          refine WL.move rfl rfl ?_
          refine WA.splitB (i := 71) rfl (fun g71 => ?_) (fun g71 => ?_)
          · skip
            refine WL.step (WL.guardT rfl rfl rfl ?_)
            refine WL.move rfl rfl ?_
            refine WL.step (WL.guardT rfl rfl rfl ?_)
            refine WL.eqS rfl rfl rfl ?_
            refine WL.step ?_
            refine WL.pickT rfl rfl rfl ?_
            refine WL.step ?_
            refine WL.move rfl rfl ?_
            refine WA.splitB (i := 75) rfl (fun g75 => ?_) (fun g75 => ?_)
            · skip
              refine WL.step (WL.guardT rfl rfl rfl ?_)
              refine WL.move rfl rfl ?_
              refine WL.step (WL.guardT rfl rfl rfl ?_)
              refine WL.eqI rfl rfl rfl ?_
              refine WL.step ?_
              refine WL.pickT rfl rfl rfl ?_
              refine WL.step ?_
              refine WL.move rfl rfl ?_
              refine WA.splitB (i := 79) rfl (fun g79 => ?_) (fun g79 => ?_)
              · skip
                refine WL.step (WL.guardT rfl rfl rfl ?_)
                refine WL.move rfl rfl ?_
                refine WL.step (WL.guardT rfl rfl rfl ?_)
                refine WL.eqI rfl rfl rfl ?_
                refine WL.step ?_
                refine WL.pickT rfl rfl rfl ?_
                refine WL.step ?_
                refine WL.move rfl rfl ?_
                refine WA.splitB (i := 83) rfl (fun g83 => ?_) (fun g83 => ?_)
                · skip
                  refine WL.step (WL.guardT rfl rfl rfl ?_)
                  refine WL.move rfl rfl ?_
                  refine WL.step (WL.guardT rfl rfl rfl ?_)
                  refine WL.eqI rfl rfl rfl ?_
                  refine WL.step ?_
                  refine WL.pickT rfl rfl rfl ?_
                  refine WL.step ?_
                  refine WL.move rfl rfl ?_
                  refine WA.splitB (i := 87) rfl (fun g87 => ?_) (fun g87 => ?_)
                  · skip
                    refine WL.step (WL.guardT rfl rfl rfl ?_)
                    refine WL.fieldAddr0 F.fld43_0 rfl rfl ?_
                    refine WL.step (WL.guardT rfl rfl rfl ?_)
                    refine WL.loadP F.one4 rfl rfl (by repeat (first | exact List.Mem.head _ | apply List.Mem.tail)) rfl ?_
                    refine WL.step ?_
                    refine WL.pickT rfl rfl rfl ?_
                    refine WL.step ?_
                    refine WL.move rfl rfl ?_
                    refine WA.splitB (i := 91) rfl (fun g91 => ?_) (fun g91 => ?_)
                    · skip
                      refine WL.step (WL.guardT rfl rfl rfl ?_)
                      refine WL.fieldAddr0 F.fld43_1 rfl rfl ?_
                      refine WL.step (WL.guardT rfl rfl rfl ?_)
                      refine WL.loadP F.one41 rfl rfl (by repeat (first | exact List.Mem.head _ | apply List.Mem.tail)) rfl ?_
                      refine WL.step (WL.guardT rfl rfl rfl ?_)
                      refine WL.eqI rfl rfl rfl ?_
                      refine WL.step ?_
                      refine WL.pickT rfl rfl rfl ?_
                      refine WL.step ?_
                      refine WL.move rfl rfl ?_
                      refine WA.splitB (i := 96) rfl (fun g96 => ?_) (fun g96 => ?_)
                      · skip
                        refine WL.step (WL.guardT rfl rfl rfl ?_)
                        refine WL.move rfl rfl ?_
                        refine WL.step (WL.guardT rfl rfl rfl ?_)
                        refine WL.eqI rfl rfl rfl ?_
                        refine WL.step ?_
                        refine WL.pickT rfl rfl rfl ?_
                        refine WL.step ?_
                        refine WL.move rfl rfl ?_
                        refine WA.splitB (i := 100) rfl (fun g100 => ?_) (fun g100 => ?_)
                        · skip
                          refine WL.step (WL.guardT rfl rfl rfl ?_)
                          refine WL.fieldAddr0 F.fld43_0 rfl rfl ?_
                          refine WL.step (WL.guardT rfl rfl rfl ?_)
                          refine WL.loadP F.one4 rfl rfl (by repeat (first | exact List.Mem.head _ | apply List.Mem.tail)) rfl ?_
                          refine WL.step (WL.guardT rfl rfl rfl ?_)
                          refine WL.not rfl rfl ?_
                          refine WL.step ?_
                          refine WL.pickT rfl rfl rfl ?_
                          refine WL.step ?_
                          refine WL.move rfl rfl ?_
                          refine WA.splitB (i := 105) rfl (fun g105 => ?_) (fun g105 => ?_)
                          · skip
                            refine WL.step (WL.guardT rfl rfl rfl ?_)
                            refine WL.fieldAddr0 F.fld43_2 rfl rfl ?_
                            refine WL.step (WL.guardT rfl rfl rfl ?_)
                            refine WL.loadP F.one38 rfl rfl (by repeat (first | exact List.Mem.head _ | apply List.Mem.tail)) rfl ?_
                            refine WL.step (WL.guardT rfl rfl rfl ?_)
                            refine WL.lenSl F.und38 rfl rfl ?_
                            refine WL.step (WL.guardT rfl rfl rfl ?_)
                            refine WL.gtI rfl rfl rfl ?_
                            refine WL.step ?_
                            refine WL.pickT rfl rfl rfl ?_
                            refine WL.step ?_
                            refine WL.assign rfl rfl ?_
                            refine WL.nil ?_
                            refine WQ.then_normal ?_
                            refine WC.ret ?_
                            exact WQ.ret (rs := [.tmp 0]) rfl (.tmp rfl .nil) (fun w hS => ⟨rfl, hS.sublist (List.nil_sublist _)⟩)
                          · skip
                            exact absurd g105 (by decide)
                        · skip
                          exact absurd g100 (by decide)
                      · skip
                        exact absurd g96 (by decide)
                    · skip
                      exact absurd g91 (by decide)
                  · skip
                    exact absurd g87 (by decide)
                · skip
                  exact absurd g83 (by decide)
              · skip
                exact absurd g79 (by decide)
            · skip
              exact absurd g75 (by decide)
          · skip
            exact absurd g71 (by decide)
        · skip
          exact absurd g67 (by decide)
      · skip
        exact absurd g61 (by decide)
    · skip
      exact absurd g56 (by decide)
  · skip
    exact absurd g52 (by decide)

end Go.Proofs.Ytbippghgkbapnaa

namespace Go.Proofs.Ytbippghgkbapnaa
open Go Go.Eng Go.Proofs
/-- Tokens in memory. -/
def RdTk (w : World) (T : List Fm.Tk) (a : Option Addr) : Prop := ∀ i t, T[i]? = some t → ∃ b off, a = some ⟨b, off, none⟩ ∧ w.cell? ⟨b, off + i * 2, none⟩ = some (.int .i64 (t.1 : Int)) ∧ w.cell? ⟨b, off + i * 2 + 1, none⟩ = some (.string (str t.2))
theorem RdTk.next {w0 w : World} {C : List Chunk} {T : List Fm.Tk} {a : Option Addr} (h : RdTk w0 T a) (hS : St w0 [] C w) : RdTk w T a := fun i t hx => by
  obtain ⟨b, off, ha, hc, hd⟩ := h i t hx
  exact ⟨b, off, ha, hS.oldc hc (by simp), hS.oldc hd (by simp)⟩
abbrev rdv (T : List Fm.Tk) (a : Option Addr) (c : Nat) (r : Fm.RS) : Value := .agg [.slice a T.length c, .int .i64 (r.1 : Int), .bool r.2].toArray
end Go.Proofs.Ytbippghgkbapnaa

namespace Go.Proofs.Ytbippghgkbapnaa
open Go Go.Eng Go.Proofs
def RRpost (T : List Fm.Tk) (a : Option Addr) (c : Nat) (w : World) (q : Tree × Fm.RS) (e : Ending) (w' : World) : Prop :=
  ∃ y : List Nat × Option Addr × Nat, e = .returned (.tuple #[tv q.1 y.2.1 y.2.2, rdv T a c q.2]) ∧ St w [] [own y.1 q.1 (tv q.1 y.2.1 y.2.2)] w'
def RC (T : List Fm.Tk) (a : Option Addr) (c : Nat) (f : Nat) (args : List Value) (nt : Fm.RN) (n : Nat) : Prop := ∀ r q w, RdTk w T a → Fm.rp T n nt r = some q → Calls Try.prog f (rdv T a c r :: args).toArray w (RRpost T a c w q)

end Go.Proofs.Ytbippghgkbapnaa

namespace Go.Proofs.Ytbippghgkbapnaa
open Go Go.Eng Go.Proofs
structure RG2 where
  m : Nat
  acc : List Tree
  F : List Nat
  vs : List Value
  len : Nat
  cells : List Value
  ad : Option Addr
  cap : Nat
  r : Fm.RS
  ev : List Value

end Go.Proofs.Ytbippghgkbapnaa

namespace Go.Proofs.Ytbippghgkbapnaa
open Go Go.Eng Go.Proofs
def tkc (T : List Fm.Tk) : List Value := T.flatMap fun t => [.int .i64 (t.1 : Int), .string (str t.2)]
structure TG where
  n : Nat
  i : Nat
  out : List Fm.Tk
  ad : Option Addr
  cap : Nat
def lim (wd rest : List UInt8) : Nat := if wd = [] then (Fm.word rest).length else 0

end Go.Proofs.Ytbippghgkbapnaa

namespace Go.Proofs.Ytbippghgkbapnaa
open Go Go.Eng Go.Proofs
def RowC (n : Nat) : Prop := ∀ (t : Tree) (wb : World) (G : List Nat) (a : Option Addr) (c : Nat) (w : World), (Fm.rowT t).length ≤ n → rdT wb t G (tv t a c) → Ext wb w →
  Calls Try.prog 38 [tv t a c].toArray w fun e w' => ∃ x : { y : Option Addr × Nat × List Value // NodesOk wb (Fm.rowT t) y.2.2 }, e = .returned (.slice x.1.1 (Fm.rowT t).length x.1.2.1) ∧ St w [] [rowc (.slice x.1.1 (Fm.rowT t).length x.1.2.1) (Fm.rowT t).length 25 3 (flat x.1.2.2)] w'

theorem Row_step (n : Nat) (hn : n ≤ 1099511627776) (hrec : RowC n) : RowC (n + 1) := by
  intro t wb G a c w hsz hr hE
  refine enter Try.func38 rfl Try.ntmps38 rfl (St.init _) ?_
  refine WC.seq ?_
  refine WC.region ?_
  refine WL.step ?_
  refine WL.boxN rfl rfl (fun b1 => ?_)
  refine WL.step ?_
  refine WL.assign rfl rfl ?_
  refine WL.nil ?_
  refine WQ.then_normal ?_
  refine WC.seq ?_
  refine WC.region ?_
  refine WL.step ?_
  refine WL.loadW F.agg25 rfl rfl (by repeat (first | exact List.Mem.head _ | apply List.Mem.tail)) rfl ?_
  refine WL.step ?_
  refine WL.buildSlice F.sl23 F.ez23 rfl rfl rfl rfl (by repeat (first | exact Built.nil | apply Built.one rfl rfl (by repeat constructor) | apply Built.agg rfl rfl (by repeat constructor))) rfl (fun b6 => ?_)
  refine WL.step ?_
  refine WL.assign rfl rfl ?_
  refine WL.nil ?_
  refine WQ.then_normal ?_
  refine WC.seq ?_
  refine WC.seq ?_
  refine WC.region ?_
  refine WL.step ?_
  refine WL.assign rfl rfl ?_
  refine WL.nil ?_
  refine WQ.then_normal ?_
  refine WC.block ?_
  refine WC.chunks (C' := [pt b1 [Value.int .u8 t.op, .string (str t.name), .slice a t.kids.length c] 25, rowc (.slice (some ⟨b6, 0, none⟩) 1 1) 1 25 3 (flat [tv t a c])]) (fun w hS => ?_) ?_
  · exact ((St.pick (St.pick (St.rowOf (n := 1) (sz := 3) (St.pick hS (c := pt b6 [Value.int .u8 t.op, .string (str t.name), .slice a t.kids.length c] 25) (by repeat (first | exact Rem.here | apply Rem.there))) rfl (by decide)) (c := rowc (.slice (some ⟨b6, 0, none⟩) 1 1) 1 25 3 [Value.int .u8 t.op, .string (str t.name), .slice a t.kids.length c]) (by repeat (first | exact Rem.here | apply Rem.there))) (c := pt b1 [Value.int .u8 t.op, .string (str t.name), .slice a t.kids.length c] 25) (by repeat (first | exact Rem.here | apply Rem.there)))).sublist (List.Sublist.cons_cons _ (List.Sublist.cons_cons _ (List.nil_sublist _)))
  refine WC.loop (α := Nat × List Value × Option Addr × Nat) (fun g => g.1 ≤ t.kids.length ∧ NodesOk wb (t :: Fm.rowL (t.kids.take g.1)) g.2.1) (fun g => [(1, pp b1), (3, .slice g.2.2.1 (t :: Fm.rowL (t.kids.take g.1)).length g.2.2.2), (4, .int .i64 (g.1 : Int))]) (fun g => [pt b1 [Value.int .u8 t.op, .string (str t.name), .slice a t.kids.length c] 25, rowc (.slice g.2.2.1 (t :: Fm.rowL (t.kids.take g.1)).length g.2.2.2) (t :: Fm.rowL (t.kids.take g.1)).length 25 3 (flat g.2.1)]) (fun g => t.kids.length - g.1) ((0, [tv t a c], some ⟨b6, 0, none⟩, 1)) ?_ ?_ ?_ ?_
  · exact ⟨Nat.zero_le _, NodesOk.one hr⟩
  · exact ⟨rfl, rfl, rfl, trivial⟩
  · rfl
  rintro ⟨i, vs, ad, cap⟩ ⟨hi, hok⟩
  dsimp only at hi hok
  show WC _ _ _ _ _ _ _ [(1, pp b1), (3, .slice ad (t :: Fm.rowL (t.kids.take i)).length cap), (4, .int .i64 (i : Int))] [pt b1 [Value.int .u8 t.op, .string (str t.name), .slice a t.kids.length c] 25, rowc (.slice ad (t :: Fm.rowL (t.kids.take i)).length cap) (t :: Fm.rowL (t.kids.take i)).length 25 3 (flat vs)]
  refine WC.seq ?_
  refine WC.seq ?_
  refine WC.region ?_
  refine WL.step ?_
  refine WL.move rfl rfl ?_
  refine WL.step ?_
  refine WL.fieldAddr0 F.fld25_2 rfl rfl ?_
  refine WL.step ?_
  refine WL.loadP F.one23 rfl rfl (by repeat (first | exact List.Mem.head _ | apply List.Mem.tail)) rfl ?_
  refine WL.step ?_
  refine WL.lenSl F.und23 rfl rfl ?_
  refine WL.step ?_
  refine WL.ltI rfl rfl rfl ?_
  refine WL.nil ?_
  refine WQ.then_normal ?_
  refine WC.cond rfl (fun h11 => ?_) (fun h11 => ?_)
  · skip
    have hlt : i < t.kids.length := by simpa using h11
    obtain ⟨k, hk⟩ : ∃ k, t.kids[i]? = some k := ⟨_, List.getElem?_eq_getElem hlt⟩
    obtain ⟨b, off, F1, a1, c1, rfl, hb, hF1, hrk, hck⟩ := rdT_at hr hk
    have hks := Fm.rowT_kid hk
    have hkl := Fm.kids_le t
    have hN : (t :: Fm.rowL (t.kids.take i)).length + (Fm.rowT k).length = (t :: Fm.rowL (t.kids.take (i + 1))).length := by rw [Fm.rowL_take hk]; simp; omega
    have hN2 : (t :: Fm.rowL (t.kids.take (i + 1))).length ≤ (Fm.rowT t).length := by rw [Fm.rowT_eq t]; have := Fm.rowL_take_le t.kids (i + 1); simp; omega
    refine WC.skip ?_
    refine WQ.then_normal ?_
    refine WC.seq ?_
    refine WC.block ?_
    refine WC.region ?_
    refine WL.step ?_
    refine WL.move rfl rfl ?_
    refine WL.step ?_
    refine WL.fieldAddr0 F.fld25_2 rfl rfl ?_
    refine WL.step ?_
    refine WL.loadP F.one23 rfl rfl (by repeat (first | exact List.Mem.head _ | apply List.Mem.tail)) rfl ?_
    refine WL.step ?_
    refine WL.move rfl rfl ?_
    refine WL.step ?_
    refine WL.indexAddr F.sl23 rfl rfl rfl hlt ?_
    refine WL.step ?_
    refine WL.loadN F.agg25 rfl rfl (vs := [Value.int .u8 k.op, .string (str k.name), .slice a1 k.kids.length c1]) rfl (fun w hS j v hv => (hE.st hS).cell (hck j v hv)) ?_
    refine WL.step ?_
    refine WL.callC (β := { y : Option Addr × Nat × List Value // NodesOk wb (Fm.rowT k) y.2.2 }) (res := fun x => .slice x.1.1 (Fm.rowT k).length x.1.2.1) (cs := fun x => [rowc (.slice x.1.1 (Fm.rowT k).length x.1.2.1) (Fm.rowT k).length 25 3 (flat x.1.2.2)]) (Cs := []) (O' := []) F.fun38 (fun d h => by cases h; rfl) rfl (List.Perm.refl _) (by simp) (by simp) (fun w hS _ => hrec k wb F1 a1 c1 w (by omega) hrk (hE.st hS)) (fun y20 => ?_)
    obtain ⟨⟨ad2, cap2, vs2⟩, hok2⟩ := y20
    refine WA.know (φ := ∃ g, ad2 = some ⟨g, 0, none⟩ ∧ (Fm.rowT k).length = (Fm.rowT k).length ∧ (Fm.rowT k).length ≤ cap2) (fun w hS => rowc_addr (hS.ok (rowc (.slice ad2 (Fm.rowT k).length cap2) (Fm.rowT k).length 25 3 (flat vs2)) (by repeat (first | exact List.Mem.head _ | apply List.Mem.tail))) (by rw [Fm.rowT_eq]; simp)) (fun ⟨g, hg, _, _⟩ => ?_)
    subst hg
    refine WL.step ?_
    refine WL.appendE (n := (t :: Fm.rowL (t.kids.take i)).length) (m := (Fm.rowT k).length) (news := flat vs2) F.el23 rfl rfl rfl (by repeat (first | exact Rem.here | apply Rem.there)) (fun w hS j u hu => by rw [Nat.zero_add]; exact rowc_cells (hS.ok (rowc (.slice (some ⟨g, 0, none⟩) (Fm.rowT k).length cap2) (Fm.rowT k).length 25 3 (flat vs2)) (by repeat (first | exact List.Mem.head _ | apply List.Mem.tail))) hu) hok2.flat_len hok2.flat_one (Nat.le_trans (m := 1099511627777) (by omega) (by decide)) (by omega) (fun ad3 cap3 => ?_)
    refine WL.step ?_
    refine WL.assign rfl rfl ?_
    refine WL.nil ?_
    refine WQ.block_normal ?_
    refine WQ.then_normal ?_
    refine WC.region ?_
    refine WL.step ?_
    refine WL.move rfl rfl ?_
    refine WL.step ?_
    refine WL.add rfl rfl rfl ⟨by omega, by omega⟩ ?_
    refine WL.step ?_
    refine WL.assign rfl rfl ?_
    refine WL.nil ?_
    rw [hN, ← flat_append]
    refine WQ.chunks (C' := [pt b1 [Value.int .u8 t.op, .string (str t.name), .slice (some ⟨b, off, none⟩) t.kids.length c] 25, rowc (.slice ad3 (t :: Fm.rowL (t.kids.take (i + 1))).length cap3) (t :: Fm.rowL (t.kids.take (i + 1))).length 25 3 (flat (vs ++ vs2))]) (fun w hS => ((St.pick (St.pick hS (c := rowc (.slice ad3 (t :: Fm.rowL (t.kids.take (i + 1))).length cap3) (t :: Fm.rowL (t.kids.take (i + 1))).length 25 3 (flat (vs ++ vs2))) (by repeat (first | exact Rem.here | apply Rem.there))) (c := pt b1 [Value.int .u8 t.op, .string (str t.name), .slice (some ⟨b, off, none⟩) t.kids.length c] 25) (by repeat (first | exact Rem.here | apply Rem.there)))).sublist (List.Sublist.cons_cons _ (List.Sublist.cons_cons _ (List.nil_sublist _)))) ?_
    refine WQ.back ((i + 1, vs ++ vs2, ad3, cap3)) ?_ ?_ ?_ ?_
    · exact ⟨by show i + 1 ≤ _; omega, by show NodesOk wb (t :: Fm.rowL (t.kids.take (i + 1))) (vs ++ vs2); rw [Fm.rowL_take hk, ← List.cons_append]; exact hok.append hok2⟩
    · (show t.kids.length - (i + 1) < t.kids.length - i; omega)
    · exact ⟨rfl, rfl, rfl, trivial⟩
    · rfl
  · skip
    have hie : i = t.kids.length := by simp at h11; omega
    subst hie
    rw [List.take_length, ← Fm.rowT_eq] at hok ⊢
    refine WC.exit ?_
    refine WQ.then_exit ?_
    refine WQ.then_exit ?_
    refine WQ.block_exit ?_
    refine WQ.then_normal ?_
    refine WC.seq ?_
    refine WC.region ?_
    refine WL.step ?_
    refine WL.move rfl rfl ?_
    refine WL.step ?_
    refine WL.assign rfl rfl ?_
    refine WL.nil ?_
    refine WQ.then_normal ?_
    refine WC.ret ?_
    exact WQ.ret (rs := [.tmp 2]) rfl (.tmp rfl .nil) (fun w hS => ⟨⟨(ad, cap, vs), hok⟩, rfl, ((St.pick hS (c := rowc (.slice ad (Fm.rowT t).length cap) (Fm.rowT t).length 25 3 (flat vs)) (by repeat (first | exact Rem.here | apply Rem.there)))).one1⟩)

theorem Row_c : ∀ n, n ≤ 1099511627776 → RowC n
  | 0, _ => fun t wb G a c w hsz _ _ => by rw [Fm.rowT_eq] at hsz; simp at hsz
  | n + 1, h => Row_step n (by omega) (Row_c n (by omega))
def LevC (n : Nat) : Prop := ∀ (t : Tree) (wb : World) (G : List Nat) (a : Option Addr) (c : Nat) (w : World), (Fm.rowT t).length ≤ n → rdT wb t G (tv t a c) → Ext wb w → Pure Try.prog 39 [tv t a c] w (.int .i64 (Fm.levT t : Int))

end Go.Proofs.Ytbippghgkbapnaa

namespace Go.Proofs.Ytbippghgkbapnaa
open Go Go.Eng Go.Proofs
def SameC (f n : Nat) : Prop := ∀ (x y : Tree) (wb : World) (G H : List Nat) (a a2 : Option Addr) (c c2 : Nat) (w : World), (Fm.rowT x).length ≤ n → rdT wb x G (tv x a c) → rdT wb y H (tv y a2 c2) → Ext wb w → Pure Try.prog f [tv x a c, tv y a2 c2] w (.bool (Fm.sameT x y))

theorem rSame_step (n : Nat) (hn : n ≤ 1099511627776) (hrec : SameC 16 n) : SameC 16 (n + 1) := by
  intro x y wb G H a a2 c c2 w hsz hr hr2 hE
  refine enter Try.func16 rfl Try.ntmps16 rfl (St.init _) ?_
  refine WC.seq ?_
  refine WC.region ?_
  refine WL.step ?_
  refine WL.boxN rfl rfl (fun b2 => ?_)
  refine WL.step ?_
  refine WL.boxN rfl rfl (fun b3 => ?_)
  refine WL.step ?_
  refine WL.assign rfl rfl ?_
  refine WL.nil ?_
  refine WQ.then_normal ?_
  refine WC.seq ?_
  refine WC.seq ?_
  refine WC.cutF [(26, .bool (!(x.op == y.op) || !(x.name == y.name) || !((x.kids.length : Int) == y.kids.length))), (2, pp b2), (3, pp b3)] (fun Q' hQ => ?_) ?_
  · skip
    refine WC.region ?_
    refine WL.step ?_
    refine WL.fieldAddr0 F.fld25_0 rfl rfl ?_
    refine WL.step ?_
    refine WL.loadP F.one5 rfl rfl (by repeat (first | exact List.Mem.head _ | apply List.Mem.tail)) rfl ?_
    refine WL.step ?_
    refine WL.fieldAddr0 F.fld25_0 rfl rfl ?_
    refine WL.step ?_
    refine WL.loadP F.one5 rfl rfl (by repeat (first | exact List.Mem.head _ | apply List.Mem.tail)) rfl ?_
    refine WL.step ?_
    refine WL.neI rfl rfl rfl ?_
    refine WL.step ?_
    refine WL.move rfl rfl ?_
    refine WA.splitB (i := 11) rfl (fun g11 => ?_) (fun g11 => ?_)
    · skip
      refine WL.step (WL.guardF rfl rfl rfl rfl rfl rfl ?_)
      refine WL.step (WL.guardF rfl rfl rfl rfl rfl rfl ?_)
      refine WL.step (WL.guardF rfl rfl rfl rfl rfl rfl ?_)
      refine WL.step (WL.guardF rfl rfl rfl rfl rfl rfl ?_)
      refine WL.step (WL.guardF rfl rfl rfl rfl rfl rfl ?_)
      refine WL.step ?_
      refine WL.pickT rfl rfl rfl ?_
      refine WL.step ?_
      refine WL.move rfl rfl ?_
      refine WL.step (WL.guardF rfl rfl rfl rfl rfl rfl ?_)
      refine WL.step (WL.guardF rfl rfl rfl rfl rfl rfl ?_)
      refine WL.step (WL.guardF rfl rfl rfl rfl rfl rfl ?_)
      refine WL.step (WL.guardF rfl rfl rfl rfl rfl rfl ?_)
      refine WL.step (WL.guardF rfl rfl rfl rfl rfl rfl ?_)
      refine WL.step (WL.guardF rfl rfl rfl rfl rfl rfl ?_)
      refine WL.step (WL.guardF rfl rfl rfl rfl rfl rfl ?_)
      refine WL.step ?_
      refine WL.pickT rfl rfl rfl ?_
      refine WL.nil ?_
      refine WQ.byCut hQ (subF_bool ?_ ⟨rfl, rfl, trivial⟩ rfl)
      simp_all [bne]
    · skip
      refine WL.step (WL.guardT rfl rfl rfl ?_)
      refine WL.fieldAddr0 F.fld25_1 rfl rfl ?_
      refine WL.step (WL.guardT rfl rfl rfl ?_)
      refine WL.loadP F.one9 rfl rfl (by repeat (first | exact List.Mem.head _ | apply List.Mem.tail)) rfl ?_
      refine WL.step (WL.guardT rfl rfl rfl ?_)
      refine WL.fieldAddr0 F.fld25_1 rfl rfl ?_
      refine WL.step (WL.guardT rfl rfl rfl ?_)
      refine WL.loadP F.one9 rfl rfl (by repeat (first | exact List.Mem.head _ | apply List.Mem.tail)) rfl ?_
      refine WL.step (WL.guardT rfl rfl rfl ?_)
      refine WL.neS rfl rfl rfl ?_
      refine WL.step ?_
      refine WL.pickF rfl rfl rfl ?_
      refine WL.step ?_
      refine WL.move rfl rfl ?_
      refine WA.splitB (i := 18) rfl (fun g18 => ?_) (fun g18 => ?_)
      · skip
        refine WL.step (WL.guardF rfl rfl rfl rfl rfl rfl ?_)
        refine WL.step (WL.guardF rfl rfl rfl rfl rfl rfl ?_)
        refine WL.step (WL.guardF rfl rfl rfl rfl rfl rfl ?_)
        refine WL.step (WL.guardF rfl rfl rfl rfl rfl rfl ?_)
        refine WL.step (WL.guardF rfl rfl rfl rfl rfl rfl ?_)
        refine WL.step (WL.guardF rfl rfl rfl rfl rfl rfl ?_)
        refine WL.step (WL.guardF rfl rfl rfl rfl rfl rfl ?_)
        refine WL.step ?_
        refine WL.pickT rfl rfl rfl ?_
        refine WL.nil ?_
        refine WQ.byCut hQ (subF_bool ?_ ⟨rfl, rfl, trivial⟩ rfl)
        simp_all [bne]
      · skip
        refine WL.step (WL.guardT rfl rfl rfl ?_)
        refine WL.fieldAddr0 F.fld25_2 rfl rfl ?_
        refine WL.step (WL.guardT rfl rfl rfl ?_)
        refine WL.loadP F.one23 rfl rfl (by repeat (first | exact List.Mem.head _ | apply List.Mem.tail)) rfl ?_
        refine WL.step (WL.guardT rfl rfl rfl ?_)
        refine WL.lenSl F.und23 rfl rfl ?_
        refine WL.step (WL.guardT rfl rfl rfl ?_)
        refine WL.fieldAddr0 F.fld25_2 rfl rfl ?_
        refine WL.step (WL.guardT rfl rfl rfl ?_)
        refine WL.loadP F.one23 rfl rfl (by repeat (first | exact List.Mem.head _ | apply List.Mem.tail)) rfl ?_
        refine WL.step (WL.guardT rfl rfl rfl ?_)
        refine WL.lenSl F.und23 rfl rfl ?_
        refine WL.step (WL.guardT rfl rfl rfl ?_)
        refine WL.neI rfl rfl rfl ?_
        refine WL.step ?_
        refine WL.pickF rfl rfl rfl ?_
        refine WL.nil ?_
        refine WQ.byCut hQ (subF_bool ?_ ⟨rfl, rfl, trivial⟩ rfl)
        simp_all [bne]
  refine WQ.then_normal ?_
  refine WC.cond rfl (fun h26 => ?_) (fun h26 => ?_)
  · skip
    have hne : Fm.sameT x y = false := by
      rw [Fm.sameT_mk]
      by_cases h1 : x.op = y.op
      · by_cases h2 : x.name = y.name
        · rw [Fm.sameL_len (by intro h3; simp [h1, h2, h3] at h26)]; simp
        · simp [h2]
      · simp [h1]
    refine WC.seq ?_
    refine WC.region ?_
    refine WL.step ?_
    refine WL.assign rfl rfl ?_
    refine WL.nil ?_
    refine WQ.then_normal ?_
    refine WC.ret ?_
    refine WQ.then_ret ?_
    exact WQ.ret (rs := [.tmp 4]) rfl (.tmp rfl .nil) (fun w hS => ⟨by rw [hne]; rfl, hS.drop.drop⟩)
  · skip
    have hop : x.op = y.op := by simp at h26; omega
    have hnm : x.name = y.name := by simp at h26; exact h26.1.2
    have hln : x.kids.length = y.kids.length := by simp at h26; omega
    have hkl := Fm.kids_le x
    have hsm : Fm.sameT x y = Fm.sameL x.kids y.kids := by rw [Fm.sameT_mk]; simp [hop, hnm]
    refine WC.skip ?_
    refine WQ.then_normal ?_
    refine WC.seq ?_
    refine WC.seq ?_
    refine WC.region ?_
    refine WL.step ?_
    refine WL.assign rfl rfl ?_
    refine WL.nil ?_
    refine WQ.then_normal ?_
    refine WC.block ?_
    refine WC.loop (α := Nat) (fun i => i ≤ x.kids.length ∧ Fm.sameL (x.kids.drop i) (y.kids.drop i) = Fm.sameL x.kids y.kids) (fun i => [(2, pp b2), (3, pp b3), (5, .int .i64 (i : Int))]) (fun _ => [pt b3 [Value.int .u8 y.op, .string (str y.name), .slice a2 y.kids.length c2] 25, pt b2 [Value.int .u8 x.op, .string (str x.name), .slice a x.kids.length c] 25]) (fun i => x.kids.length - i) (0) ?_ ?_ ?_ ?_
    · exact ⟨Nat.zero_le _, rfl⟩
    · exact ⟨rfl, rfl, rfl, trivial⟩
    · rfl
    rintro i ⟨hi, hsl⟩
    refine WC.seq ?_
    refine WC.seq ?_
    refine WC.region ?_
    refine WL.step ?_
    refine WL.move rfl rfl ?_
    refine WL.step ?_
    refine WL.fieldAddr0 F.fld25_2 rfl rfl ?_
    refine WL.step ?_
    refine WL.loadP F.one23 rfl rfl (by repeat (first | exact List.Mem.head _ | apply List.Mem.tail)) rfl ?_
    refine WL.step ?_
    refine WL.lenSl F.und23 rfl rfl ?_
    refine WL.step ?_
    refine WL.ltI rfl rfl rfl ?_
    refine WL.nil ?_
    refine WQ.then_normal ?_
    refine WC.cond rfl (fun h31 => ?_) (fun h31 => ?_)
    · skip
      have hlt : i < x.kids.length := by simpa using h31
      have hlt2 : i < y.kids.length := by omega
      obtain ⟨k, hk⟩ : ∃ k, x.kids[i]? = some k := ⟨_, List.getElem?_eq_getElem hlt⟩
      obtain ⟨l, hl⟩ : ∃ k, y.kids[i]? = some k := ⟨_, List.getElem?_eq_getElem hlt2⟩
      obtain ⟨b, off, F1, a1, c1, rfl, hb, hF1, hrk, hck⟩ := rdT_at hr hk
      obtain ⟨e, eoff, F3, a3, c3, rfl, hb3, hF3, hrl, hcl⟩ := rdT_at hr2 hl
      have hks := Fm.rowT_kid hk
      refine WC.skip ?_
      refine WQ.then_normal ?_
      refine WC.seq ?_
      refine WC.block ?_
      refine WC.seq ?_
      refine WC.drawsL (by kernel_rfl) (FactsOk.cons (ds := [10]) (LoadOk.one (t := 2) (off := 2) rfl (by repeat (first | exact List.Mem.head _ | apply List.Mem.tail)) rfl) (FactsOk.cons (ds := [10]) (LoadOk.by (Y := fun w => ∀ j v, [Value.int .u8 k.op, .string (str k.name), .slice a1 k.kids.length c1][j]? = some v → w.cell? ⟨b, off + i * 3 + j, none⟩ = some v) (fun w hS => fun j v hv => (hE.st hS).cell (hck j v hv))) (FactsOk.cons (ds := [10]) (LoadOk.one (t := 3) (off := 2) rfl (by repeat (first | exact List.Mem.head _ | apply List.Mem.tail)) rfl) (FactsOk.cons (ds := [10]) (LoadOk.by (Y := fun w => ∀ j v, [Value.int .u8 l.op, .string (str l.name), .slice a3 l.kids.length c3][j]? = some v → w.cell? ⟨e, eoff + i * 3 + j, none⟩ = some v) (fun w hS => fun j v hv => (hE.st hS).cell (hcl j v hv))) (FactsOk.nil))))) ?_
      refine WD.take (i := 0) rfl rfl rfl rfl (by kernel_rfl) (by kernel_rfl) (by kernel_rfl) (fun _ _ _ h => h) (by kernel_rfl) need_none (Yl.fieldAddr0 F.fld25_2 rfl) ?_
      refine WD.take (i := 1) rfl rfl rfl rfl (by kernel_rfl) (by kernel_rfl) (by kernel_rfl) (fun _ _ _ h => h) (by kernel_rfl) (need_at 0 12 rfl (by kernel_rfl)) (Yl.load1 F.one23 rfl) ?_
      refine WD.take (i := 2) rfl rfl rfl rfl (by kernel_rfl) (by kernel_rfl) (by kernel_rfl) (fun _ _ _ h => h) (by kernel_rfl) need_none (Yl.move rfl) ?_
      refine WD.take (i := 3) rfl rfl rfl rfl (by kernel_rfl) (by kernel_rfl) (by kernel_rfl) (fun _ _ _ h => h) (by kernel_rfl) need_none (Yl.indexAddr F.sl23 rfl rfl hlt) ?_
      refine WD.take (i := 4) rfl rfl rfl rfl (by kernel_rfl) (by kernel_rfl) (by kernel_rfl) (fun _ _ _ h => h) (by kernel_rfl) (need_at 1 12 rfl (by kernel_rfl)) (Yl.loadN F.agg25 rfl rfl) ?_
      refine WD.take (i := 5) rfl rfl rfl rfl (by kernel_rfl) (by kernel_rfl) (by kernel_rfl) (fun _ _ _ h => h) (by kernel_rfl) need_none (Yl.fieldAddr0 F.fld25_2 rfl) ?_
      refine WD.take (i := 6) rfl rfl rfl rfl (by kernel_rfl) (by kernel_rfl) (by kernel_rfl) (fun _ _ _ h => h) (by kernel_rfl) (need_at 2 12 rfl (by kernel_rfl)) (Yl.load1 F.one23 rfl) ?_
      refine WD.take (i := 7) rfl rfl rfl rfl (by kernel_rfl) (by kernel_rfl) (by kernel_rfl) (fun _ _ _ h => h) (by kernel_rfl) need_none (Yl.move rfl) ?_
      refine WD.take (i := 8) rfl rfl rfl rfl (by kernel_rfl) (by kernel_rfl) (by kernel_rfl) (fun _ _ _ h => h) (by kernel_rfl) need_none (Yl.indexAddr F.sl23 rfl rfl hlt2) ?_
      refine WD.take (i := 9) rfl rfl rfl rfl (by kernel_rfl) (by kernel_rfl) (by kernel_rfl) (fun _ _ _ h => h) (by kernel_rfl) (need_at 3 12 rfl (by kernel_rfl)) (Yl.loadN F.agg25 rfl rfl) ?_
      refine WD.one (i := 10) (by kernel_rfl) rfl ?_
      refine WL.callV F.fun16 rfl rfl (fun w hS => hrec k l wb F1 F3 a1 a3 c1 c3 w (by omega) hrk hrl (hE.st hS)) ?_
      refine WD.on (closed_of (by kernel_rfl)) (fun w hS => Sx.gone rfl (Sx.gone rfl (Sx.gone rfl (Sx.gone rfl (Sx.none))))) ?_
      refine WD.take (i := 11) rfl rfl rfl rfl (by kernel_rfl) (by kernel_rfl) (by kernel_rfl) (fun _ _ _ h => h) (by kernel_rfl) need_none (Yl.not rfl) ?_
      refine WD.done (by kernel_rfl) ?_
      refine WQ.then_normal ?_
      refine WC.cond rfl (fun h45 => ?_) (fun h45 => ?_)
      · skip
        have hne : Fm.sameT x y = false := by
          rw [hsm, ← hsl, Fm.sameL_drop hk hl, show Fm.sameT k l = false by simpa using h45]; rfl
        refine WC.seq ?_
        refine WC.region ?_
        refine WL.step ?_
        refine WL.assign rfl rfl ?_
        refine WL.nil ?_
        refine WQ.then_normal ?_
        refine WC.ret ?_
        refine WQ.block_ret ?_
        refine WQ.then_ret ?_
        refine WQ.then_ret ?_
        refine WQ.block_ret ?_
        refine WQ.then_ret ?_
        exact WQ.ret (rs := [.tmp 4]) rfl (.tmp rfl .nil) (fun w hS => ⟨by rw [hne]; rfl, hS.drop.drop⟩)
      · skip
        refine WC.skip ?_
        refine WQ.block_normal ?_
        refine WQ.then_normal ?_
        refine WC.region ?_
        refine WL.step ?_
        refine WL.move rfl rfl ?_
        refine WL.step ?_
        refine WL.add rfl rfl rfl ⟨by omega, by omega⟩ ?_
        refine WL.step ?_
        refine WL.assign rfl rfl ?_
        refine WL.nil ?_
        refine WQ.back (i + 1) ?_ ?_ ?_ ?_
        · exact ⟨by omega, by rw [Fm.sameL_drop hk hl, show Fm.sameT k l = true by simpa using h45, Bool.true_and] at hsl; exact hsl⟩
        · omega
        · exact ⟨rfl, rfl, rfl, trivial⟩
        · rfl
    · skip
      have hie : i = x.kids.length := by simp at h31; omega
      subst hie
      have hst : Fm.sameT x y = true := by rw [hsm, ← hsl, List.drop_length, hln, List.drop_length]; rfl
      refine WC.exit ?_
      refine WQ.then_exit ?_
      refine WQ.then_exit ?_
      refine WQ.block_exit ?_
      refine WQ.then_normal ?_
      refine WC.seq ?_
      refine WC.region ?_
      refine WL.step ?_
      refine WL.assign rfl rfl ?_
      refine WL.nil ?_
      refine WQ.then_normal ?_
      refine WC.ret ?_
      exact WQ.ret (rs := [.tmp 4]) rfl (.tmp rfl .nil) (fun w hS => ⟨by rw [hst]; rfl, hS.drop.drop⟩)

theorem rSame_c : ∀ n, n ≤ 1099511627776 → SameC 16 n
  | 0, _ => fun x y wb G H a a2 c c2 w hsz _ _ _ => by rw [Fm.rowT_eq] at hsz; simp at hsz
  | n + 1, h => rSame_step n (by omega) (rSame_c n (by omega))

/-- What the reference's Parse answers. -/
def refParse (text : List UInt8) : Tree × Int × Int := ((Fm.top text).1, ((Fm.top text).2.1 : Int), (Fm.top text).2.2)

end Go.Proofs.Ytbippghgkbapnaa

namespace Go.Proofs.Ytbippghgkbapnaa
open Go Go.Eng Go.Proofs
def CntC (lv : Nat) : Prop := ∀ (t : Tree) (left : Int) (wb : World) (G : List Nat) (a : Option Addr) (c : Nat) (w : World), -1 ≤ left → left ≤ 1200 → rdT wb t G (tv t a c) → Ext wb w → Pure Try.prog 50 [tv t a c, .int .i64 (lv : Int), .int .i64 left] w (.int .i64 (Fm.cntT lv left t))

theorem count_step (lv : Nat) (hlv : lv ≤ 1000) (hrec : 0 < lv → CntC (lv - 1)) : CntC lv := by
  intro t left wb G a c w hl0 hl1 hr hE
  refine enter Try.func50 rfl Try.ntmps50 rfl (St.init _) ?_
  refine WC.seq ?_
  refine WC.region ?_
  refine WL.step ?_
  refine WL.boxN rfl rfl (fun b3 => ?_)
  refine WL.step ?_
  refine WL.assign rfl rfl ?_
  refine WL.nil ?_
  refine WQ.then_normal ?_
  refine WC.seq ?_
  refine WC.region ?_
  refine WL.step ?_
  refine WL.move rfl rfl ?_
  refine WL.step ?_
  refine WL.sub rfl rfl rfl ⟨by omega, by omega⟩ ?_
  refine WL.step ?_
  refine WL.assign rfl rfl ?_
  refine WL.nil ?_
  refine WQ.then_normal ?_
  refine WC.seq ?_
  refine WC.seq ?_
  refine WC.cutF [(21, .bool (decide (lv = 0) || decide (left - 1 < 0) || decide (100 < t.name.length))), (1, .int .i64 (lv : Int)), (2, .int .i64 (left - 1)), (3, pp b3)] (fun Q' hQ => ?_) ?_
  · skip
    refine WC.region ?_
    refine WL.step ?_
    refine WL.move rfl rfl ?_
    refine WL.step ?_
    refine WL.eqI rfl rfl rfl ?_
    refine WL.step ?_
    refine WL.move rfl rfl ?_
    refine WA.splitB (i := 12) rfl (fun g12 => ?_) (fun g12 => ?_)
    · skip
      refine WL.step (WL.guardF rfl rfl rfl rfl rfl rfl ?_)
      refine WL.step (WL.guardF rfl rfl rfl rfl rfl rfl ?_)
      refine WL.step ?_
      refine WL.pickT rfl rfl rfl ?_
      refine WL.step ?_
      refine WL.move rfl rfl ?_
      refine WL.step (WL.guardF rfl rfl rfl rfl rfl rfl ?_)
      refine WL.step (WL.guardF rfl rfl rfl rfl rfl rfl ?_)
      refine WL.step (WL.guardF rfl rfl rfl rfl rfl rfl ?_)
      refine WL.step (WL.guardF rfl rfl rfl rfl rfl rfl ?_)
      refine WL.step ?_
      refine WL.pickT rfl rfl rfl ?_
      refine WL.nil ?_
      refine WQ.byCut hQ (subF_bool ?_ ⟨rfl, rfl, rfl, trivial⟩ rfl)
      have e0 : ((lv : Int) == 0) = decide (lv = 0) := by rw [Bool.eq_iff_iff]; simp
      have e1 : decide ((100 : Int) < (t.name.length : Int)) = decide (100 < t.name.length) := by rw [Bool.eq_iff_iff]; simp; omega
      first | (simp_all; done) | (simp_all; omega)
    · skip
      refine WL.step (WL.guardT rfl rfl rfl ?_)
      refine WL.move rfl rfl ?_
      refine WL.step (WL.guardT rfl rfl rfl ?_)
      refine WL.ltI rfl rfl rfl ?_
      refine WL.step ?_
      refine WL.pickF rfl rfl rfl ?_
      refine WL.step ?_
      refine WL.move rfl rfl ?_
      refine WA.splitB (i := 16) rfl (fun g16 => ?_) (fun g16 => ?_)
      · skip
        refine WL.step (WL.guardF rfl rfl rfl rfl rfl rfl ?_)
        refine WL.step (WL.guardF rfl rfl rfl rfl rfl rfl ?_)
        refine WL.step (WL.guardF rfl rfl rfl rfl rfl rfl ?_)
        refine WL.step (WL.guardF rfl rfl rfl rfl rfl rfl ?_)
        refine WL.step ?_
        refine WL.pickT rfl rfl rfl ?_
        refine WL.nil ?_
        refine WQ.byCut hQ (subF_bool ?_ ⟨rfl, rfl, rfl, trivial⟩ rfl)
        have e0 : ((lv : Int) == 0) = decide (lv = 0) := by rw [Bool.eq_iff_iff]; simp
        have e1 : decide ((100 : Int) < (t.name.length : Int)) = decide (100 < t.name.length) := by rw [Bool.eq_iff_iff]; simp; omega
        first | (simp_all; done) | (simp_all; omega)
      · skip
        refine WL.step (WL.guardT rfl rfl rfl ?_)
        refine WL.fieldAddr0 F.fld25_1 rfl rfl ?_
        refine WL.step (WL.guardT rfl rfl rfl ?_)
        refine WL.loadP F.one9 rfl rfl (by repeat (first | exact List.Mem.head _ | apply List.Mem.tail)) rfl ?_
        refine WL.step (WL.guardT rfl rfl rfl ?_)
        refine WL.lenS F.und9 rfl rfl ?_
        refine WL.step (WL.guardT rfl rfl rfl ?_)
        refine WL.gtI rfl rfl rfl ?_
        refine WL.step ?_
        refine WL.pickF rfl rfl rfl ?_
        refine WL.nil ?_
        refine WQ.byCut hQ (subF_bool ?_ ⟨rfl, rfl, rfl, trivial⟩ rfl)
        have e0 : ((lv : Int) == 0) = decide (lv = 0) := by rw [Bool.eq_iff_iff]; simp
        have e1 : decide ((100 : Int) < (t.name.length : Int)) = decide (100 < t.name.length) := by rw [Bool.eq_iff_iff]; simp; omega
        first | (simp_all; done) | (simp_all; omega)
  refine WQ.then_normal ?_
  refine WC.cond rfl (fun h21 => ?_) (fun h21 => ?_)
  · skip
    have hc : Fm.cntT lv left t = -1 := by rw [Fm.cntT_mk, if_pos]; simpa [or_assoc] using h21
    refine WC.seq ?_
    refine WC.region ?_
    refine WL.step ?_
    refine WL.assign rfl rfl ?_
    refine WL.nil ?_
    refine WQ.then_normal ?_
    refine WC.ret ?_
    refine WQ.then_ret ?_
    exact WQ.ret (rs := [.tmp 6]) rfl (.tmp rfl .nil) (fun w hS => ⟨by rw [hc]; rfl, hS.drop⟩)
  · skip
    have hcn : ¬ (lv = 0 ∨ left - 1 < 0 ∨ 100 < t.name.length) := by intro h0; have h9 : (decide (lv = 0) || decide (left - 1 < 0) || decide (100 < t.name.length)) = true := (by simpa [or_assoc] using h0); rw [h9] at h21; cases h21
    have hc : Fm.cntT lv left t = (Fm.cntL (lv - 1) (left - 1) t.kids) := by rw [Fm.cntT_mk, if_neg hcn]
    simp only [not_or] at hcn
    refine WC.skip ?_
    refine WQ.then_normal ?_
    refine WC.seq ?_
    refine WC.seq ?_
    refine WC.region ?_
    refine WL.step ?_
    refine WL.assign rfl rfl ?_
    refine WL.nil ?_
    refine WQ.then_normal ?_
    refine WC.block ?_
    refine WC.loop (α := Nat × Int) (fun g => g.1 ≤ t.kids.length ∧ -1 ≤ g.2 ∧ (g.1 : Int) + g.2 ≤ 1200 ∧ Fm.cntL (lv - 1) g.2 (t.kids.drop g.1) = (Fm.cntL (lv - 1) (left - 1) t.kids)) (fun g => [(1, .int .i64 (lv : Int)), (2, .int .i64 g.2), (3, pp b3), (7, .int .i64 (g.1 : Int))]) (fun _ => [pt b3 [Value.int .u8 t.op, .string (str t.name), .slice a t.kids.length c] 25]) (fun g => t.kids.length - g.1) ((0, left - 1)) ?_ ?_ ?_ ?_
    · exact ⟨Nat.zero_le _, by dsimp only; omega, by dsimp only; omega, rfl⟩
    · exact ⟨rfl, rfl, rfl, rfl, trivial⟩
    · rfl
    rintro ⟨i, l⟩ ⟨hi, hl2, hl3, hcl⟩
    dsimp only at hi hl2 hl3 hcl
    show WC _ _ _ _ _ _ _ [(1, .int .i64 (lv : Int)), (2, .int .i64 l), (3, pp b3), (7, .int .i64 (i : Int))] [pt b3 [Value.int .u8 t.op, .string (str t.name), .slice a t.kids.length c] 25]
    refine WC.seq ?_
    refine WC.seq ?_
    refine WC.region ?_
    refine WL.step ?_
    refine WL.move rfl rfl ?_
    refine WL.step ?_
    refine WL.fieldAddr0 F.fld25_2 rfl rfl ?_
    refine WL.step ?_
    refine WL.loadP F.one23 rfl rfl (by repeat (first | exact List.Mem.head _ | apply List.Mem.tail)) rfl ?_
    refine WL.step ?_
    refine WL.lenSl F.und23 rfl rfl ?_
    refine WL.step ?_
    refine WL.ltI rfl rfl rfl ?_
    refine WL.step ?_
    refine WL.move rfl rfl ?_
    refine WA.splitB (i := 27) rfl (fun h27 => ?_) (fun h27 => ?_)
    · skip
      have hlt : i < t.kids.length := by simpa using h27
      refine WL.step (WL.guardT rfl rfl rfl ?_)
      refine WL.move rfl rfl ?_
      refine WL.step (WL.guardT rfl rfl rfl ?_)
      refine WL.geI rfl rfl rfl ?_
      refine WL.step ?_
      refine WL.pickT rfl rfl rfl ?_
      refine WL.nil ?_
      refine WQ.then_normal ?_
      refine WC.cond rfl (fun h30 => ?_) (fun h30 => ?_)
      · skip
        have hl4 : 0 ≤ l := by simpa using h30
        obtain ⟨k, hk⟩ : ∃ k, t.kids[i]? = some k := ⟨_, List.getElem?_eq_getElem hlt⟩
        obtain ⟨b, off, F1, a1, c1, rfl, hb, hF1, hrk, hck⟩ := rdT_at hr hk
        have hkb := Fm.cntT_le (lv - 1) l k hl4
        refine WC.skip ?_
        refine WQ.then_normal ?_
        refine WC.seq ?_
        refine WC.block ?_
        refine WC.region ?_
        refine WL.step ?_
        refine WL.fieldAddr0 F.fld25_2 rfl rfl ?_
        refine WL.step ?_
        refine WL.loadP F.one23 rfl rfl (by repeat (first | exact List.Mem.head _ | apply List.Mem.tail)) rfl ?_
        refine WL.step ?_
        refine WL.move rfl rfl ?_
        refine WL.step ?_
        refine WL.indexAddr F.sl23 rfl rfl rfl hlt ?_
        refine WL.step ?_
        refine WL.loadN F.agg25 rfl rfl (vs := [Value.int .u8 k.op, .string (str k.name), .slice a1 k.kids.length c1]) rfl (fun w hS j v hv => (hE.st hS).cell (hck j v hv)) ?_
        refine WL.step ?_
        refine WL.move rfl rfl ?_
        refine WL.step ?_
        refine WL.sub rfl rfl rfl ⟨by omega, by omega⟩ ?_
        refine WA.say 39 (.int .i64 ((lv - 1 : Nat) : Int)) (congrArg (fun z => some (Value.int .i64 z)) (show (lv : Int) - 1 = ((lv - 1 : Nat) : Int) by omega)) ?_
        refine WL.step ?_
        refine WL.move rfl rfl ?_
        refine WL.step ?_
        refine WL.callV F.fun50 rfl rfl (fun w hS => hrec (by omega) k l wb F1 a1 c1 w (by omega) (by omega) hrk (hE.st hS)) ?_
        refine WL.step ?_
        refine WL.assign rfl rfl ?_
        refine WL.nil ?_
        refine WQ.block_normal ?_
        refine WQ.then_normal ?_
        refine WC.region ?_
        refine WL.step ?_
        refine WL.move rfl rfl ?_
        refine WL.step ?_
        refine WL.add rfl rfl rfl ⟨by omega, by omega⟩ ?_
        refine WL.step ?_
        refine WL.assign rfl rfl ?_
        refine WL.nil ?_
        refine WQ.back ((i + 1, Fm.cntT (lv - 1) l k)) ?_ ?_ ?_ ?_
        · exact ⟨by show i + 1 ≤ _; omega, hkb.2, by show ((i + 1 : Nat) : Int) + Fm.cntT (lv - 1) l k ≤ 1200; omega, by rw [← hcl, Fm.cntL_drop hk (by omega)]⟩
        · (show t.kids.length - (i + 1) < t.kids.length - i; omega)
        · exact ⟨rfl, rfl, rfl, rfl, trivial⟩
        · rfl
      · skip
        have hl5 : l = (Fm.cntL (lv - 1) (left - 1) t.kids) := by rw [← hcl]; exact (Fm.cntL_stop (by simp at h30; omega)).symm
        refine WC.exit ?_
        refine WQ.then_exit ?_
        refine WQ.then_exit ?_
        refine WQ.block_exit ?_
        refine WQ.then_normal ?_
        refine WC.seq ?_
        refine WC.region ?_
        refine WL.step ?_
        refine WL.move rfl rfl ?_
        refine WL.step ?_
        refine WL.assign rfl rfl ?_
        refine WL.nil ?_
        refine WQ.then_normal ?_
        refine WC.ret ?_
        exact WQ.ret (rs := [.tmp 6]) rfl (.tmp rfl .nil) (fun w hS => ⟨by rw [hc, ← hl5]; rfl, hS.drop⟩)
    · skip
      have hie : i = t.kids.length := by simp at h27; omega
      have hl5 : l = (Fm.cntL (lv - 1) (left - 1) t.kids) := by rw [← hcl, hie, List.drop_length]; rfl
      refine WL.step (WL.guardF rfl rfl rfl rfl rfl rfl ?_)
      refine WL.step (WL.guardF rfl rfl rfl rfl rfl rfl ?_)
      refine WL.step ?_
      refine WL.pickF rfl rfl rfl ?_
      refine WL.nil ?_
      refine WQ.then_normal ?_
      refine WC.condF rfl ?_
      refine WC.exit ?_
      refine WQ.then_exit ?_
      refine WQ.then_exit ?_
      refine WQ.block_exit ?_
      refine WQ.then_normal ?_
      refine WC.seq ?_
      refine WC.region ?_
      refine WL.step ?_
      refine WL.move rfl rfl ?_
      refine WL.step ?_
      refine WL.assign rfl rfl ?_
      refine WL.nil ?_
      refine WQ.then_normal ?_
      refine WC.ret ?_
      exact WQ.ret (rs := [.tmp 6]) rfl (.tmp rfl .nil) (fun w hS => ⟨by rw [hc, ← hl5]; rfl, hS.drop⟩)

theorem count_c : ∀ lv, lv ≤ 1000 → CntC lv
  | 0, h => count_step 0 h (fun h0 => absurd h0 (by decide))
  | lv + 1, h => count_step (lv + 1) h (fun _ => count_c lv (by omega))

theorem great_c (t : Tree) (lv : Nat) (hlv : lv ≤ 1000) (wb : World) (G : List Nat) (a : Option Addr) (c : Nat) (w : World) (hr : rdT wb t G (tv t a c)) (hE : Ext wb w) : Pure Try.prog 17 [tv t a c, .int .i64 (lv : Int)] w (.bool (Fm.greatB t lv)) := by
  refine enter Try.func17 rfl Try.ntmps17 rfl (St.init _) ?_
  refine WC.seq ?_
  refine WC.region ?_
  refine WL.step ?_
  refine WL.boxN rfl rfl (fun b2 => ?_)
  refine WL.step ?_
  refine WL.assign rfl rfl ?_
  refine WL.nil ?_
  refine WQ.then_normal ?_
  refine WC.seq ?_
  refine WC.region ?_
  refine WL.step ?_
  refine WL.loadW F.agg25 rfl rfl (by repeat (first | exact List.Mem.head _ | apply List.Mem.tail)) rfl ?_
  refine WL.step ?_
  refine WL.move rfl rfl ?_
  refine WL.step ?_
  refine WL.callV F.fun50 rfl rfl (fun w hS => count_c lv hlv t 1200 wb G a c w (by omega) (by omega) hr (hE.st hS)) ?_
  refine WL.step ?_
  refine WL.ltI rfl rfl rfl ?_
  refine WL.step ?_
  refine WL.assign rfl rfl ?_
  refine WL.nil ?_
  refine WQ.then_normal ?_
  refine WC.ret ?_
  exact WQ.ret (rs := [.tmp 4]) rfl (.tmp rfl .nil) (fun w hS => ⟨rfl, hS.drop⟩)

def CopC (n : Nat) : Prop := ∀ (t : Tree) (wb : World) (G : List Nat) (a : Option Addr) (c : Nat) (w : World), (Fm.rowT t).length ≤ n → rdT wb t G (tv t a c) → Ext wb w →
  Calls Try.prog 18 [tv t a c].toArray w fun e w' => ∃ y : List Nat × Option Addr × Nat, e = .returned (tv t y.2.1 y.2.2) ∧ St w [] [own y.1 t (tv t y.2.1 y.2.2)] w'
structure CG where
  i : Nat
  F : List Nat
  vs : List Value
  ad : Option Addr
  cap : Nat

end Go.Proofs.Ytbippghgkbapnaa

namespace Go.Proofs.Ytbippghgkbapnaa
open Go Go.Eng Go.Proofs
def TxC (n : Nat) : Prop := ∀ (t : Tree) (wb : World) (G : List Nat) (a : Option Addr) (c : Nat) (w : World), (Fm.rowT t).length ≤ n → (Fm.textT t).length ≤ 1099511627776 → rdT wb t G (tv t a c) → Ext wb w → Pure Try.prog 21 [tv t a c] w (.string (str (Fm.textT t)))

end Go.Proofs.Ytbippghgkbapnaa

namespace Go.Proofs.Ytbippghgkbapnaa
open Go Go.Eng Go.Proofs
theorem valid_all {t : Tree} (h : Fm.validB t = true) : (Fm.rowT t).all Fm.rightB = true ∧ (Fm.rowT t).length ≤ 1000 := by
  have h1 := h
  rw [← Fm.refValid_eq, Fm.refValid] at h1
  simp only [Bool.and_eq_true, decide_eq_true_eq] at h1
  refine ⟨?_, h1.1.2⟩
  have he : (Fm.rowT t).all Fm.oneB = (Fm.rowT t).all Fm.rightB := by congr 1; funext x; exact Fm.oneB_right x
  rw [← he]; exact h1.1.1
end Go.Proofs.Ytbippghgkbapnaa

namespace Go.Proofs.Ytbippghgkbapnaa
open Go Go.Eng Go.Proofs
end Go.Proofs.Ytbippghgkbapnaa

namespace Fm
open Go Go.Eng
/-! ### consequences -/
/-- What follows from clauses and literals. -/
inductive Der (ls : List (List Int)) (fixed : List Int) : Int → Prop
  | fix {x : Int} (h : x ∈ fixed) : Der ls fixed x
  | unit {c : List Int} {x : Int} (hc : c ∈ ls) (hx : x ∈ c) (h : ∀ m ∈ c, m ≠ x → Der ls fixed (-m)) : Der ls fixed x
/-- There is a conflict. -/
def Conf (ls : List (List Int)) (fixed : List Int) : Prop := [] ∈ ls ∨ ∃ x, Der ls fixed x ∧ Der ls fixed (-x)

/-! the program's sets of literals -/
theorem hasK_with {k : Kn} {l z : Int} (hl : l ≠ 0) (hz : z ≠ 0) : hasK (withK k l) z = (decide (z = l) || hasK k z) := by
  unfold hasK withK
  by_cases h1 : 0 < l
  · rw [if_pos h1]
    by_cases h2 : 0 < z
    · rw [if_pos h2, if_pos h2]
      simp only [Nat.testBit_or, Nat.testBit_two_pow]
      rw [Bool.or_comm]
      congr 1
      rw [Bool.eq_iff_iff]; simp; omega
    · rw [if_neg h2, if_neg h2]
      have : ¬ z = l := by omega
      simp [this]
  · rw [if_neg h1]
    by_cases h2 : 0 < z
    · rw [if_pos h2, if_pos h2]
      have : ¬ z = l := by omega
      simp [this]
    · rw [if_neg h2, if_neg h2]
      simp only [Nat.testBit_or, Nat.testBit_two_pow]
      rw [Bool.or_comm]
      congr 1
      rw [Bool.eq_iff_iff]; simp; omega
theorem clash_iff {k : Kn} : clash k = true ↔ ∃ z : Int, 0 < z ∧ hasK k z = true ∧ hasK k (-z) = true := by
  unfold clash
  constructor
  · intro h
    have h1 : k.1 &&& k.2 ≠ 0 := by simpa using h
    obtain ⟨j, hj⟩ := Nat.exists_testBit_of_ne_zero h1
    rw [Nat.testBit_and, Bool.and_eq_true] at hj
    refine ⟨(j : Int) + 1, by omega, ?_, ?_⟩
    · unfold hasK; rw [if_pos (by omega), show ((j : Int) + 1 - 1).toNat = j by omega]; exact hj.1
    · unfold hasK; rw [if_neg (by omega), show (-(-((j : Int) + 1)) - 1).toNat = j by omega]; exact hj.2
  · rintro ⟨z, hz, h1, h2⟩
    unfold hasK at h1 h2
    rw [if_pos hz] at h1
    rw [if_neg (by omega)] at h2
    rw [show (- -z - 1).toNat = (z - 1).toNat by omega] at h2
    have h3 : (k.1 &&& k.2).testBit (z - 1).toNat = true := by rw [Nat.testBit_and, h1, h2]; rfl
    have h4 : k.1 &&& k.2 ≠ 0 := by intro h0; rw [h0] at h3; simp at h3
    simpa using h4

/-- What unit says: a literal that is open, all the others being false; 0: all are. -/
theorem unitG_true {k : Kn} : ∀ {c : List Int} {op x : Int}, (∀ m ∈ c, m ≠ 0) → unitG k op c = (x, true) → (∀ m ∈ c, hasK k m = false ∧ (hasK k (-m) = true ∨ m = x)) ∧ (op ≠ 0 → x = op) ∧ (x ≠ 0 → x = op ∨ x ∈ c)
  | [], op, x, _, h => by
    simp only [unitG, Prod.mk.injEq, and_true] at h
    subst h
    exact ⟨fun m hm => (by cases hm), fun _ => rfl, fun _ => .inl rfl⟩
  | l :: ls, op, x, h0, h => by
    have hl := h0 l (List.mem_cons_self ..)
    have hls := fun m hm => h0 m (List.mem_cons_of_mem _ hm)
    simp only [unitG] at h
    split at h
    · simp at h
    rename_i h1
    split at h
    · rename_i h2
      obtain ⟨i1, i2, i3⟩ := unitG_true hls h
      refine ⟨fun m hm => ?_, i2, fun hx => ?_⟩
      · rcases List.mem_cons.1 hm with e | hm
        · subst e
          refine ⟨by simpa using h1, ?_⟩
          simp only [Bool.or_eq_true, beq_iff_eq] at h2
          rcases h2 with h2 | h2
          · exact .inl h2
          · exact .inr (by rw [h2, i2 (by rw [← h2]; exact hl)])
        · exact i1 m hm
      · rcases i3 hx with h3 | h3
        · exact .inl h3
        · exact .inr (List.mem_cons_of_mem _ h3)
    rename_i h2
    split at h
    · simp at h
    rename_i h3
    have h3' : op = 0 := by simpa using h3
    obtain ⟨i1, i2, i3⟩ := unitG_true hls h
    refine ⟨fun m hm => ?_, fun h0 => absurd h3' h0, fun hx => ?_⟩
    · rcases List.mem_cons.1 hm with e | hm
      · subst e
        exact ⟨by simpa using h1, .inr (i2 hl).symm⟩
      · exact i1 m hm
    · exact .inr (by rw [i2 hl]; exact List.mem_cons_self ..)
/-- Whatever the set has follows. -/
def SoundK (ls : List (List Int)) (fixed : List Int) (k : Kn) : Prop := ∀ z : Int, z ≠ 0 → hasK k z = true → Der ls fixed z
theorem SoundK.unit {ls : List (List Int)} {fixed : List Int} {k : Kn} {c : List Int} (h : SoundK ls fixed k) (hc : c ∈ ls) (hn : ∀ m ∈ c, m ≠ 0) {x : Int} (hu : unitK k c = (x, true)) : (x ≠ 0 → SoundK ls fixed (withK k x)) ∧ (x = 0 → Conf ls fixed) := by
  obtain ⟨i1, i2, i3⟩ := unitG_true hn hu
  refine ⟨fun hx z hz hh => ?_, fun hx => ?_⟩
  · rw [hasK_with hx hz] at hh
    simp only [Bool.or_eq_true, decide_eq_true_eq] at hh
    rcases hh with hh | hh
    · subst hh
      rcases i3 hx with h3 | h3
      · exact absurd h3 hx
      · exact .unit hc h3 (fun m hm hne => by
          rcases (i1 m hm).2 with h4 | h4
          · exact h _ (by have := hn m hm; omega) h4
          · exact absurd h4 hne)
    · exact h z hz hh
  · cases c with
    | nil => exact .inl hc
    | cons y r =>
      have hf : ∀ m ∈ y :: r, hasK k (-m) = true := fun m hm => by
        rcases (i1 m hm).2 with h4 | h4
        · exact h4
        · exact absurd (h4.trans hx) (hn m hm)
      have hy := List.mem_cons_self (a := y) (l := r)
      refine .inr ⟨y, .unit hc hy (fun m hm _ => h _ (by have := hn m hm; omega) (hf m hm)), h _ (by have := hn y hy; omega) (hf y hy)⟩
theorem SoundK.clash {ls : List (List Int)} {fixed : List Int} {k : Kn} (h : SoundK ls fixed k) (hc : clash k = true) : Conf ls fixed := by
  obtain ⟨z, hz, h1, h2⟩ := clash_iff.1 hc
  exact .inr ⟨z, h z (by omega) h1, h (-z) (by omega) h2⟩
end Fm

namespace Fm
open Go Go.Eng
/-! ### the reference's consequences -/
def aloneB (c out : List Int) (x : Int) : Bool := !out.contains x && c.all (fun m => m == x || out.contains (-m))
def stepL (c out : List Int) (x : Int) : List Int := if aloneB c out x then out ++ [x] else out
def passC (out c : List Int) : List Int := c.foldl (stepL c) out
def consPass (ls : List (List Int)) (out : List Int) : List Int := ls.foldl passC out
def consF : Nat → List (List Int) → List Int → Option (List Int)
  | 0, _, _ => none
  | n + 1, ls, out => if (consPass ls out).length = out.length then some (consPass ls out) else consF n ls (consPass ls out)
/-- The reference's conflict. -/
def conflictB (ls : List (List Int)) (out : List Int) : Bool := ls.any (·.isEmpty) || out.any (fun x => out.contains (-x))
/-! ### that they end -/
def Rg : List Int := (List.range 65).map fun (i : Nat) => (i : Int) - 32
def openC (p : Int → Bool) : Nat := (Rg.filter p).length
def openL (out : List Int) : Nat := openC fun z => !out.contains z
def openKn (k : Kn) : Nat := openC fun z => z != 0 && !hasK k z
end Fm

namespace Go.Proofs.Ytbippghgkbapnaa
open Go Go.Eng Go.Proofs
end Go.Proofs.Ytbippghgkbapnaa

namespace Go.Proofs.Ytbippghgkbapnaa
open Go Go.Eng Go.Proofs
structure C1 where
  f : Nat
  out : List Int
  ad : Option Addr
  ac : Nat
structure C2 where
  i : Nat
  out : List Int
  ad : Option Addr
  ac : Nat
structure C3 where
  k : Nat
  out : List Int
  ad : Option Addr
  ac : Nat

end Go.Proofs.Ytbippghgkbapnaa

namespace Go.Proofs.Ytbippghgkbapnaa
open Go Go.Eng Go.Proofs
def refuted (ls : List (List Int)) (c : List Int) : Bool := match Fm.consF 66 ls (c.map (fun x => -x)) with | some o => Fm.conflictB ls o | none => false
def verF : List (List Int) → List (List Int) → Nat → Int
  | _, [], i => i
  | ls, c :: ps, i => if refuted ls c then (if c.isEmpty then -1 else verF (ls ++ [c]) ps (i + 1)) else i
def verE (n : Int) (ls ps : List (List Int)) : Int × Int := if Fm.mayE n ls = 0 then (if ps.all (Fm.fitsB n) then (verF ls ps 0, 0) else (0, 2)) else (0, Fm.mayE n ls)
end Go.Proofs.Ytbippghgkbapnaa

namespace Go.Proofs.Ytbippghgkbapnaa
open Go Go.Eng Go.Proofs
theorem RdLL.at2 {w : World} {ls : List (List Int)} {a : Option Addr} {us : List Value} {i : Nat} (h : RdLL w ls a us) (hi : i < ls.length) : ∃ c b off a1 cap, ls[i]? = some c ∧ us[i]? = some (.slice a1 c.length cap) ∧ a = some ⟨b, off, none⟩ ∧ w.cell? ⟨b, off + i, none⟩ = some (.slice a1 c.length cap) ∧ RdC w c a1 := by
  have hi' : i < us.length := by rw [h.len]; exact hi
  have h1 : us[i]? = some us[i] := List.getElem?_eq_getElem hi'
  have h2 : ls[i]? = some ls[i] := List.getElem?_eq_getElem hi
  obtain ⟨b, off, ha, hc⟩ := h.hd i _ h1
  obtain ⟨a1, cap, hu, hr⟩ := h.rd i _ _ h2 h1
  exact ⟨ls[i], b, off, a1, cap, h2, by rw [h1, hu], ha, by rw [hc, hu], hr⟩
structure V2 where
  i : Nat
  N : Nat
  hs : List Value
  aa : Option Addr
  ca : Nat

end Go.Proofs.Ytbippghgkbapnaa

/-
  The search: it ends, its model is the least, and its proof is one.
-/
namespace Go.Proofs.Ytbippghgkbapnaa
open Go Go.Eng Go.Proofs

def satL (M : Nat) (x : Int) : Bool := if 0 < x then M.testBit (x - 1).toNat else !M.testBit (-x - 1).toNat
def satC (M : Nat) (c : List Int) : Bool := c.any (satL M)
def holdsB (ls : List (List Int)) (M : Nat) : Bool := ls.all (satC M)
/-! ### the search -/
structure SI (n : Nat) (ls : List (List Int)) (path : List Int) (proof : List (List Int)) : Prop where
  lit : ∀ x ∈ path, x ≠ 0 ∧ x.natAbs ≤ n
  dec : path.Pairwise (fun x y => y.natAbs < x.natAbs)
  hi : ∀ i x, path[i]? = some x → ∀ v : Nat, x.natAbs < v → v ≤ n → Fm.Der (ls ++ proof) (path.take i) (v : Int) ∨ Fm.Der (ls ++ proof) (path.take i) (-(v : Int))
  pos : ∀ i x, path[i]? = some x → 0 < x → ((path.take i).map (fun y => -y) ++ [x]) ∈ ls ++ proof
  ver : ∀ i c, proof[i]? = some c → refuted (ls ++ proof.take i) c = true ∧ c ≠ []
  fit : ∀ c ∈ proof, (∀ x ∈ c, x ≠ 0 ∧ x.natAbs ≤ n) ∧ c.length ≤ 64
  mdl : ∀ M, holdsB ls M = true → holdsB (ls ++ proof) M = true
theorem SI.all {n : Nat} {ls proof : List (List Int)} {path : List Int} (h : SI n ls path proof) (hls : ∀ c ∈ ls, ∀ x ∈ c, x ≠ 0 ∧ x.natAbs ≤ n) : ∀ c ∈ ls ++ proof, ∀ x ∈ c, x ≠ 0 ∧ x.natAbs ≤ n := fun c hc => by
  rcases List.mem_append.1 hc with hc | hc
  · exact hls c hc
  · exact (h.fit c hc).1
def tS (v : Nat) : Nat := 4 * 2 ^ v - 3
def rS (x : Int) : Nat := if x < 0 then tS (x.natAbs - 1) + 2 else 1
def remS (n : Nat) (path : List Int) : Nat := match path.getLast? with | none => n | some x => x.natAbs - 1
def muS (n : Nat) (mode : Bool) (path : List Int) : Nat := (path.map rS).sum + 1 + (if mode then 0 else tS (remS n path))
def GoodS (n : Nat) (ls : List (List Int)) (r : Fm.Ans) : Prop :=
  (r.ok = true ∧ r.proof = [] ∧ r.model < 2 ^ n ∧ holdsB ls r.model = true ∧ ∀ M, M < 2 ^ n → holdsB ls M = true → r.model ≤ M) ∨
  (r.ok = false ∧ r.model = 0 ∧ verF ls r.proof 0 = -1 ∧ (∀ c ∈ r.proof, (∀ x ∈ c, x ≠ 0 ∧ x.natAbs ≤ n) ∧ c.length ≤ 64) ∧ ∀ M, holdsB ls M = false)
/-- A new decision. -/
theorem SI.push {n : Nat} {ls proof : List (List Int)} {p : List Int} {y : Int} (h : SI n ls p proof) (hy : y ≠ 0 ∧ y.natAbs ≤ n) (hd : ∀ x ∈ p, y.natAbs < x.natAbs) (hh : ∀ v : Nat, y.natAbs < v → v ≤ n → Fm.Der (ls ++ proof) p (v : Int) ∨ Fm.Der (ls ++ proof) p (-(v : Int)))
    (hp : 0 < y → (p.map (fun z => -z) ++ [y]) ∈ ls ++ proof) : SI n ls (p ++ [y]) proof := by
  have hidx : ∀ i x, (p ++ [y])[i]? = some x → (p[i]? = some x ∧ (p ++ [y]).take i = p.take i) ∨ (x = y ∧ (p ++ [y]).take i = p) := fun i x hi => by
    by_cases hlt : i < p.length
    · rw [List.getElem?_append_left hlt] at hi
      exact .inl ⟨hi, by rw [List.take_append_of_le_length (by omega)]⟩
    · rw [List.getElem?_append_right (by omega)] at hi
      have hie : i = p.length := by
        have := (List.getElem?_eq_some_iff.1 hi).1
        simp at this; omega
      subst hie
      rw [Nat.sub_self] at hi
      injection hi with hi
      exact .inr ⟨hi.symm, List.take_left' rfl⟩
  refine ⟨fun x hx => ?_, ?_, fun i x hi v h1 h2 => ?_, fun i x hi h1 => ?_, h.ver, h.fit, h.mdl⟩
  · rcases List.mem_append.1 hx with hx | hx
    · exact h.lit x hx
    · rw [List.mem_singleton] at hx; rw [hx]; exact hy
  · refine List.pairwise_append.2 ⟨h.dec, List.pairwise_singleton _ _, fun x hx z hz => ?_⟩
    rw [List.mem_singleton] at hz; rw [hz]; exact hd x hx
  · rcases hidx i x hi with ⟨g1, g2⟩ | ⟨rfl, g2⟩
    · rw [g2]; exact h.hi i x g1 v h1 h2
    · rw [g2]; exact hh v h1 h2
  · rcases hidx i x hi with ⟨g1, g2⟩ | ⟨rfl, g2⟩
    · rw [g2]; exact h.pos i x g1 h1
    · rw [g2]; exact hp h1
end Go.Proofs.Ytbippghgkbapnaa

namespace Go.Proofs.Ytbippghgkbapnaa
open Go Go.Eng Go.Proofs
def largeB (ls : List (List Int)) : Bool := decide (40 < ls.length) || ls.any (fun c => decide (80 < c.length))
structure RW where
  i : Nat
  G : List Nat
  vs : List Value
  ss : List (List Int)
  aa : Option Addr
  ca : Nat
def Shaped (a : Option Addr) : Prop := a = none ∨ ∃ b off, a = some ⟨b, off, none⟩
abbrev RowsX := { x : (List Nat × List Value) × Option Addr × Nat // Shaped x.2.1 }
def rowsC (x : RowsX) (ls : List (List Int)) : List Chunk := [rowc (.slice x.1.2.1 ls.length x.1.2.2) ls.length 54 1 x.1.1.2, stepsC x.1.1.1 x.1.1.2 ls]

end Go.Proofs.Ytbippghgkbapnaa

namespace Go.Proofs.Ytbippghgkbapnaa
open Go Go.Eng Go.Proofs
def propL (q : Int → Bool) : Nat → List Int
  | 0 => []
  | n + 1 => propL q n ++ (if q ((n : Int) + 1) then [(n : Int) + 1] else if q (-((n : Int) + 1)) then [-((n : Int) + 1)] else [])
def propE (n : Int) (ls : List (List Int)) (fixed : List Int) : List Int × Int :=
  if Fm.mayE n ls = 0 then (if fixed.all (Fm.litB n) then (match Fm.consF 66 ls fixed with
    | some o => if Fm.conflictB ls o then ([], 9) else (propL (fun z => o.contains z) n.toNat, 0)
    | none => ([], 0)) else ([], 2)) else ([], Fm.mayE n ls)
def PropPost (n : Int) (ls : List (List Int)) (fixed : List Int) (w : World) (e : Ending) (w' : World) : Prop :=
  ∃ x : Option Addr × Nat, e = .returned (.tuple #[.slice x.1 (propE n ls fixed).1.length x.2, .int .i64 (propE n ls fixed).2]) ∧
    St w [] [rowc (.slice x.1 (propE n ls fixed).1.length x.2) (propE n ls fixed).1.length 3 1 ((propE n ls fixed).1.map (Value.int .i64))] w'
theorem RdC.one {w : World} {b off : Nat} {x : Int} (h : w.cell? ⟨b, off, none⟩ = some (.int .i64 x)) : RdC w [x] (some ⟨b, off, none⟩) := fun j y hy => by
  match j, hy with
  | 0, hy => simp at hy; subst hy; exact ⟨b, off, rfl, h⟩
  | j + 1, hy => simp at hy

structure P2 where
  j : Nat
  out : List Int
  ad : Option Addr
  ac : Nat

end Go.Proofs.Ytbippghgkbapnaa

namespace Go.Proofs.Ytbippghgkbapnaa
open Go Go.Eng Go.Proofs
end Go.Proofs.Ytbippghgkbapnaa

namespace Go.Proofs.Ytbippghgkbapnaa
open Go Go.Eng Go.Proofs
end Go.Proofs.Ytbippghgkbapnaa

namespace Go.Proofs.Ytbippghgkbapnaa
open Go Go.Eng Go.Proofs
def modelsL (n : Nat) (ls : List (List Int)) : List Nat := (List.range (2 ^ n)).filter (holdsB ls)
def u32s (l : List Nat) : List Value := l.map (fun m : Nat => Value.int .u32 (m : Int))
structure MD where
  M : Nat
  out : List Nat
  ad : Option Addr
  ac : Nat

end Go.Proofs.Ytbippghgkbapnaa

namespace Go.Proofs.Ytbippghgkbapnaa
open Go Go.Eng Go.Proofs
end Go.Proofs.Ytbippghgkbapnaa

namespace Go.Proofs.Ytbippghgkbapnaa
open Go Go.Eng Go.Proofs
def SizeC (n : Nat) : Prop := ∀ (t : Tree) (wb : World) (G : List Nat) (a : Option Addr) (c : Nat) (w : World), (Fm.rowT t).length ≤ n → rdT wb t G (tv t a c) → Ext wb w →
  Pure Try.prog 35 [tv t a c] w (.tuple #[.int .i64 ((Fm.rowT t).length : Int), .int .i64 (Fm.levT t : Int)])

theorem Size_step (n : Nat) (hn : n ≤ 1099511627776) (hrec : SizeC n) : SizeC (n + 1) := by
  intro t wb G a c w hsz hr hE
  refine enter Try.func35 rfl Try.ntmps35 rfl (St.init _) ?_
  refine WC.seq ?_
  refine WC.region ?_
  refine WL.step ?_
  refine WL.boxN rfl rfl (fun b1 => ?_)
  refine WL.step ?_
  refine WL.assign rfl rfl ?_
  refine WL.step ?_
  refine WL.assign rfl rfl ?_
  refine WL.nil ?_
  refine WQ.then_normal ?_
  refine WC.seq ?_
  refine WC.region ?_
  refine WL.step ?_
  refine WL.assign rfl rfl ?_
  refine WL.nil ?_
  refine WQ.then_normal ?_
  refine WC.seq ?_
  refine WC.seq ?_
  refine WC.region ?_
  refine WL.step ?_
  refine WL.fieldAddr0 F.fld25_2 rfl rfl ?_
  refine WL.step ?_
  refine WL.loadP F.one23 rfl rfl (by repeat (first | exact List.Mem.head _ | apply List.Mem.tail)) rfl ?_
  refine WL.step ?_
  refine WL.lenSl F.und23 rfl rfl ?_
  refine WL.step ?_
  refine WL.move rfl rfl ?_
  refine WL.nil ?_
  refine WQ.then_normal ?_
  refine WC.block ?_
  refine WC.loop (α := Nat) (fun i => i ≤ t.kids.length) (fun i => [(1, pp b1), (2, .int .i64 ((1 + (Fm.rowL (t.kids.take i)).length : Nat) : Int)), (3, .int .i64 (Fm.levL (t.kids.take i) : Int)), (9, .slice a t.kids.length c), (10, .int .i64 (t.kids.length : Int)), (11, .int .i64 (i : Int))]) (fun _ => [pt b1 [Value.int .u8 t.op, .string (str t.name), .slice a t.kids.length c] 25]) (fun i => t.kids.length - i) (0) ?_ ?_ ?_ ?_
  · exact Nat.zero_le _
  · exact ⟨rfl, rfl, rfl, rfl, rfl, rfl, trivial⟩
  · rfl
  rintro i hi
  refine WC.seq ?_
  refine WC.region ?_
  refine WL.step ?_
  refine WL.ltI rfl rfl rfl ?_
  refine WL.nil ?_
  refine WQ.then_normal ?_
  refine WC.seq ?_
  refine WC.cond rfl (fun h12 => ?_) (fun h12 => ?_)
  · skip
    have hlt : i < t.kids.length := by simpa using h12
    obtain ⟨k, hk⟩ : ∃ k, t.kids[i]? = some k := ⟨_, List.getElem?_eq_getElem hlt⟩
    obtain ⟨b, off, F1, a1, c1, rfl, hb, hF1, hrk, hck⟩ := rdT_at hr hk
    have hks := Fm.rowT_kid hk
    have hkl := Fm.kids_le t
    have hN2 : 1 + (Fm.rowL (t.kids.take (i + 1))).length ≤ (Fm.rowT t).length := by rw [Fm.rowT_eq t]; have := Fm.rowL_take_le t.kids (i + 1); simp; omega
    have hN3 := Fm.rowL_take hk
    have hN4 : (Fm.rowL (t.kids.take (i + 1))).length = (Fm.rowL (t.kids.take i)).length + (Fm.rowT k).length := by rw [hN3, List.length_append]
    refine WC.skip ?_
    refine WQ.then_normal ?_
    refine WC.seq ?_
    refine WC.block ?_
    refine WC.seq ?_
    refine WC.region ?_
    refine WL.step ?_
    refine WL.indexAddr F.sl23 rfl rfl rfl hlt ?_
    refine WL.step ?_
    refine WL.loadN F.agg25 rfl rfl (vs := [Value.int .u8 k.op, .string (str k.name), .slice a1 k.kids.length c1]) rfl (fun w hS j v hv => (hE.st hS).cell (hck j v hv)) ?_
    refine WL.step ?_
    refine WL.alloc F.zero25 rfl (fun b5 => ?_)
    refine WL.step ?_
    refine WL.storeN F.agg25 rfl rfl rfl (by simp [Value.oneCell']) (by repeat (first | exact Upd.here | apply Upd.there)) (by repeat constructor) ?_
    refine WL.nil ?_
    refine WQ.then_normal ?_
    refine WC.seq ?_
    refine WC.region ?_
    refine WL.step ?_
    refine WL.loadW F.agg25 rfl rfl (by repeat (first | exact List.Mem.head _ | apply List.Mem.tail)) rfl ?_
    refine WL.step ?_
    refine WL.callV F.fun35 rfl rfl (fun w hS => hrec k wb F1 a1 c1 w (by omega) hrk (hE.st hS)) ?_
    refine WL.step ?_
    refine WL.move rfl rfl ?_
    refine WL.step ?_
    refine WL.extract rfl rfl rfl ?_
    refine WL.step ?_
    refine WL.extract rfl rfl rfl ?_
    refine WL.step ?_
    refine WL.assign rfl rfl ?_
    refine WL.step ?_
    refine WL.assign rfl rfl ?_
    refine WL.nil ?_
    refine WQ.then_normal ?_
    refine WC.seq ?_
    refine WC.region ?_
    refine WL.step ?_
    refine WL.move rfl rfl ?_
    refine WL.step ?_
    refine WL.move rfl rfl ?_
    refine WL.step ?_
    refine WL.add rfl rfl rfl ⟨by omega, by omega⟩ ?_
    refine WL.step ?_
    refine WL.assign rfl rfl ?_
    refine WL.nil ?_
    refine WQ.then_normal ?_
    refine WC.region ?_
    refine WL.step ?_
    refine WL.move rfl rfl ?_
    refine WL.step ?_
    refine WL.move rfl rfl ?_
    refine WL.step ?_
    refine WL.maxI (r := (Fm.levL (t.kids.take (i + 1)) : Int)) rfl rfl rfl (by rw [Fm.levL_take hk]; split <;> omega) ?_
    refine WL.step ?_
    refine WL.assign rfl rfl ?_
    refine WL.nil ?_
    refine WQ.block_normal ?_
    refine WQ.then_normal ?_
    refine WC.region ?_
    refine WL.step ?_
    refine WL.add rfl rfl rfl ⟨by omega, by omega⟩ ?_
    refine WL.step ?_
    refine WL.move rfl rfl ?_
    refine WL.nil ?_
    refine WQ.chunks (C' := [pt b1 [Value.int .u8 t.op, .string (str t.name), .slice (some ⟨b, off, none⟩) t.kids.length c] 25]) (fun w hS => ((St.pick hS (c := pt b1 [Value.int .u8 t.op, .string (str t.name), .slice (some ⟨b, off, none⟩) t.kids.length c] 25) (by repeat (first | exact Rem.here | apply Rem.there)))).sublist (List.Sublist.cons_cons _ (List.nil_sublist _))) ?_
    rw [show ((1 + (Fm.rowL (t.kids.take i)).length : Nat) : Int) + ((Fm.rowT k).length : Int) = ((1 + (Fm.rowL (t.kids.take (i + 1))).length : Nat) : Int) by rw [Fm.rowL_take hk, List.length_append]; omega]
    refine WQ.back (i + 1) ?_ ?_ ?_ ?_
    · exact by omega
    · omega
    · exact ⟨rfl, rfl, rfl, rfl, rfl, rfl, trivial⟩
    · rfl
  · skip
    have hie : i = t.kids.length := by simp at h12; omega
    subst hie
    rw [List.take_length]
    have hll := Fm.levT_le t
    rw [Fm.levT_eq] at hll
    refine WC.exit ?_
    refine WQ.then_exit ?_
    refine WQ.then_exit ?_
    refine WQ.block_exit ?_
    refine WQ.then_normal ?_
    refine WC.seq ?_
    refine WC.region ?_
    refine WL.step ?_
    refine WL.move rfl rfl ?_
    refine WL.step ?_
    refine WL.move rfl rfl ?_
    refine WL.step ?_
    refine WL.add rfl rfl rfl ⟨by omega, by omega⟩ ?_
    refine WL.step ?_
    refine WL.assign rfl rfl ?_
    refine WL.step ?_
    refine WL.assign rfl rfl ?_
    refine WL.nil ?_
    refine WQ.then_normal ?_
    refine WC.ret ?_
    exact WQ.ret (rs := [.tmp 2, .tmp 3]) rfl (.tmp rfl (.tmp rfl .nil)) (fun w hS => ⟨by rw [Fm.levT_eq, Fm.rowT_eq t, List.length_cons, Nat.add_comm]; rfl, hS.drop⟩)

theorem Size_c : ∀ n, n ≤ 1099511627776 → SizeC n
  | 0, _ => fun t wb G a c w hsz _ _ => by rw [Fm.rowT_eq] at hsz; simp at hsz
  | n + 1, h => Size_step n (by omega) (Size_c n (by omega))

/-- Strings in memory. -/
def RdS (w : World) (l : List (List UInt8)) (a : Option Addr) : Prop := ∀ j x, l[j]? = some x → ∃ b off, a = some ⟨b, off, none⟩ ∧ w.cell? ⟨b, off + j, none⟩ = some (.string (str x))
theorem RdS.next {w0 w : World} {C : List Chunk} {l : List (List UInt8)} {a : Option Addr} (h : RdS w0 l a) (hS : St w0 [] C w) : RdS w l a := fun j x hx => by
  obtain ⟨b, off, ha, hc⟩ := h j x hx
  exact ⟨b, off, ha, hS.oldc hc (by simp)⟩
def strs (l : List (List UInt8)) : List Value := l.map (fun s => Value.string (str s))
end Go.Proofs.Ytbippghgkbapnaa

namespace Go.Proofs.Ytbippghgkbapnaa
open Go Go.Eng Go.Proofs
def usedStep (acc : List (List UInt8)) (t : Tree) : List (List UInt8) := if t.op == 3 && !acc.contains t.name then acc ++ [t.name] else acc
def usedF (ts : List Tree) : List (List UInt8) := ts.foldl usedStep []
structure US where
  i : Nat
  out : List (List UInt8)
  ad2 : Option Addr
  ac2 : Nat

end Go.Proofs.Ytbippghgkbapnaa

namespace Go.Proofs.Ytbippghgkbapnaa
open Go Go.Eng Go.Proofs
def NC (bx bn bm : Nat) (ks : List (List UInt8)) (ad : Option Addr) (ac : Nat) : List Chunk := [pt bx [.map (some bm)] 119, pt bn [.slice ad ks.length ac] 61, mpc bm ks, rowc (.slice ad ks.length ac) ks.length 9 1 (strs ks)]
def NO (bx bn bm n : Nat) (ad : Option Addr) (ac : Nat) : List Nat := bx :: bn :: bm :: ob (.slice ad n ac)
end Go.Proofs.Ytbippghgkbapnaa

namespace Go.Proofs.Ytbippghgkbapnaa
open Go Go.Eng Go.Proofs
def WalkN (n : Nat) : Prop := ∀ (t : Tree) (G : List Nat) (a : Option Addr) (c : Nat) (bx bn bm : Nat) (ks : List (List UInt8)) (ad : Option Addr) (ac : Nat) (w : World) (O : List Nat), (Fm.rowT t).length ≤ n → ks.length + (Fm.rowT t).length ≤ 1099511627776 → rdT w t G (tv t a c) → (∀ k ∈ G, k ∉ O) → St w O (NC bx bn bm ks ad ac) w →
  Calls Try.prog 76 [tv t a c, Value.func (.func 77) [].toArray [pp bx, pp bn].toArray].toArray w fun e w' => ∃ x : Option Addr × Nat, e = .returned (.tuple #[]) ∧ St w O (NC bx bn bm ((Fm.rowT t).foldl usedStep ks) x.1 x.2) w'
structure WN where
  i : Nat
  ks : List (List UInt8)
  ad : Option Addr
  ac : Nat

end Go.Proofs.Ytbippghgkbapnaa

namespace Go.Proofs.Ytbippghgkbapnaa
open Go Go.Eng Go.Proofs
end Go.Proofs.Ytbippghgkbapnaa

namespace Go.Proofs.Ytbippghgkbapnaa
open Go Go.Eng Go.Proofs
theorem rdL_nodes {w : World} : ∀ {ts : List Tree} {F : List Nat} {vs : List Value}, rdL w ts F vs → NodesOk w ts vs
  | [], F, vs, h => by
    simp only [rdL] at h
    obtain ⟨_, rfl⟩ := h
    exact ⟨rfl, fun i t v h => by simp at h⟩
  | t :: ts, F, vs, h => by
    simp only [rdL] at h
    obtain ⟨F1, F2, v, vs', rfl, rfl, h1, h2⟩ := h
    obtain ⟨a, n, c, hv, hn⟩ : ∃ a n c, v = Value.agg [Value.int .u8 t.op, .string (str t.name), .slice a n c].toArray ∧ n = t.kids.length := by
      cases t with
      | mk op name kids =>
        simp only [rdT] at h1
        obtain ⟨s, hv, hs⟩ := h1
        rcases hs with ⟨hk, _, a, c, hs⟩ | ⟨_, b, off, cap, G, ws, hs, _⟩
        · exact ⟨a, _, c, by rw [hv, hs]; rfl, by rw [hk]; rfl⟩
        · exact ⟨_, _, cap, by rw [hv, hs]; rfl, rfl⟩
    subst hn
    subst hv
    exact NodesOk.append (NodesOk.one h1) (rdL_nodes h2)
theorem rdT_nodes {w : World} {t : Tree} {G : List Nat} {a : Option Addr} {c : Nat} (h : rdT w t G (tv t a c)) : ∃ vs, NodesOk w t.kids vs ∧ (t.kids.length ≠ 0 → ∃ b off, a = some ⟨b, off, none⟩ ∧ cellsAt w b off (flat vs)) := by
  cases t with
  | mk op name kids =>
    simp only [rdT] at h
    obtain ⟨s, hv, hs⟩ := h
    have hs' : s = .slice a kids.length c := by
      have := congrArg Value.cells hv
      simp [tv, Value.cells, Tree.kids] at this
      exact this.2.2.symm
    rcases hs with ⟨hk, _⟩ | ⟨hne, b, off, cap, G', vs, h1, _, h3, h4⟩
    · subst hk
      exact ⟨[], ⟨rfl, fun i t v h => by simp [Tree.kids] at h⟩, fun h => absurd rfl h⟩
    · refine ⟨vs, rdL_nodes h4, fun _ => ⟨b, off, ?_, h3⟩⟩
      rw [hs'] at h1
      injection h1
theorem flat_get {l : List Value} {i j : Nat} {v u : Value} (h3 : ∀ v ∈ l, v.cells.toList.length = 3) (hi : l[i]? = some v) (hj : v.cells.toList[j]? = some u) : (flat l)[i * 3 + j]? = some u := by
  induction l generalizing i with
  | nil => simp at hi
  | cons v0 l ih =>
    have hv0 := h3 v0 (by simp)
    rw [flat_cons]
    cases i with
    | zero =>
      simp at hi
      subst hi
      rw [Nat.zero_mul, Nat.zero_add, List.getElem?_append_left (List.getElem?_eq_some_iff.1 hj).1]
      exact hj
    | succ i =>
      rw [List.getElem?_append_right (by omega), show (i + 1) * 3 + j - v0.cells.toList.length = i * 3 + j by omega]
      exact ih (fun v hv => h3 v (by simp [hv])) (by simpa using hi)
theorem NodesOk.three {wb : World} {ts : List Tree} {vs : List Value} (h : NodesOk wb ts vs) : ∀ v ∈ vs, v.cells.toList.length = 3 := fun v hv => by
  obtain ⟨i, hi⟩ := List.getElem?_of_mem hv
  have hlt := (List.getElem?_eq_some_iff.1 hi).1
  obtain ⟨F, a, c, h1, _⟩ := h.2 i _ v (List.getElem?_eq_getElem (by rw [← h.1]; exact hlt)) hi
  rw [h1]; rfl
theorem set_mid {vn vs : List Value} {i : Nat} {v : Value} (hl : vn.length = i) (hi : i < vs.length) : (vn ++ vs.drop i).set i v = (vn ++ [v]) ++ vs.drop (i + 1) := by
  subst hl
  rw [List.set_append_right _ _ (Nat.le_refl _), Nat.sub_self, List.drop_eq_getElem_cons hi, List.set_cons_zero, List.append_assoc]
  rfl
theorem get_mid {vn vs : List Value} {i : Nat} {v : Value} (hl : vn.length = i) (hi : vs[i]? = some v) : (vn ++ vs.drop i)[i]? = some v := by
  subst hl
  rw [List.getElem?_append_right (Nat.le_refl _), Nat.sub_self, List.getElem?_drop]
  simpa using hi

theorem CloneE_c (n : Nat) (vs : List Value) (a : Option Addr) (cap : Nat) (w : World) (hn : n ≤ 1099511627776) (hl : (flat vs).length = n * 3) (h1 : ∀ u ∈ flat vs, u.oneCell' = true) (hr : n ≠ 0 → ∃ b off, a = some ⟨b, off, none⟩ ∧ cellsAt w b off (flat vs)) :
    Calls Try.prog 103 [.slice a n cap].toArray w fun e w' => ∃ x : Option Addr × Nat, e = .returned (.slice x.1 n x.2) ∧ St w [] [rowc (.slice x.1 n x.2) n 25 3 (flat vs)] w' := by
  refine enter Try.func103 rfl Try.ntmps103 rfl (St.init _) ?_
  refine WC.seq ?_
  refine WC.region ?_
  refine WL.step ?_
  refine WL.assign rfl rfl ?_
  refine WL.nil ?_
  refine WQ.then_normal ?_
  refine WC.seq ?_
  refine WC.seq ?_
  rcases a with _ | a0
  · skip
    obtain rfl : n = 0 := by
      by_cases h0 : n = 0
      · exact h0
      · obtain ⟨b, off, ha, _⟩ := hr h0
        cases ha
    have hfe : flat vs = [] := List.eq_nil_of_length_eq_zero (by simpa using hl)
    refine WC.region ?_
    refine WL.step ?_
    refine WL.move rfl rfl ?_
    refine WL.step ?_
    refine WL.bin rfl rfl rfl (v := .bool true) (fun w => by kernel_rfl) ?_
    refine WL.nil ?_
    refine WQ.then_normal ?_
    refine WC.condT rfl ?_
    refine WC.seq ?_
    refine WC.region ?_
    refine WL.step ?_
    refine WL.assign rfl rfl ?_
    refine WL.nil ?_
    refine WQ.then_normal ?_
    refine WC.ret ?_
    refine WQ.then_ret ?_
    exact WQ.ret (rs := [.tmp 2]) rfl (.tmp rfl .nil) (fun w hS => ⟨(none, 0), rfl, by rw [hfe]; exact hS.rowNil 25 3⟩)
  · skip
    refine WC.region ?_
    refine WL.step ?_
    refine WL.move rfl rfl ?_
    refine WL.step ?_
    refine WL.bin rfl rfl rfl (v := .bool false) (fun w => by kernel_rfl) ?_
    refine WL.nil ?_
    refine WQ.then_normal ?_
    refine WC.condF rfl ?_
    refine WC.skip ?_
    refine WQ.then_normal ?_
    refine WC.seq ?_
    refine WC.region ?_
    refine WL.step ?_
    refine WL.buildSlice0 F.sl23 rfl (fun b5 => ?_)
    refine WA.chunks (fun w hS => hS.rowOf (n := 0) (sz := 3) rfl (by decide)) ?_
    refine WL.step ?_
    refine WL.move rfl rfl ?_
    refine WL.step ?_
    refine WL.appendC (n := 0) (v := .slice (some ⟨b5, 0, none⟩) 0 0) (xs := []) (news := flat vs) F.el23 rfl rfl rfl (by repeat (first | exact Rem.here | apply Rem.there)) (fun w hS hm => by obtain ⟨b, off, ha, hc⟩ := hr hm; exact ⟨b, off, ha, fun j u hu => hS.oldc (hc j u hu) (by simp)⟩) hl h1 (Nat.le_trans (m := 1099511627776) (by omega) (by decide)) (by omega) (fun a2 cap2 => ?_)
    rw [Nat.zero_add, List.nil_append]
    refine WL.step ?_
    refine WL.assign rfl rfl ?_
    refine WL.nil ?_
    refine WQ.then_normal ?_
    refine WC.ret ?_
    exact WQ.ret (rs := [.tmp 2]) rfl (.tmp rfl .nil) (fun w hS => ⟨(a2, cap2), rfl, ((St.pick hS (c := rowc (.slice a2 n cap2) n 25 3 (flat vs)) (by repeat (first | exact Rem.here | apply Rem.there)))).sublist (List.Sublist.cons_cons _ (List.nil_sublist _))⟩)

end Go.Proofs.Ytbippghgkbapnaa

namespace Go.Proofs.Ytbippghgkbapnaa
open Go Go.Eng Go.Proofs
def CloC (n : Nat) : Prop := ∀ (t : Tree) (wb : World) (G : List Nat) (a : Option Addr) (c : Nat) (w : World), (Fm.rowT t).length ≤ n → rdT wb t G (tv t a c) → Ext wb w →
  Calls Try.prog 102 [tv t a c].toArray w fun e w' => ∃ y : List Nat × Option Addr × Nat, e = .returned (tv t y.2.1 y.2.2) ∧ St w [] [own y.1 t (tv t y.2.1 y.2.2)] w'
structure KG where
  i : Nat
  F : List Nat
  vn : List Value

end Go.Proofs.Ytbippghgkbapnaa

namespace Go.Proofs.Ytbippghgkbapnaa
open Go Go.Eng Go.Proofs
mutual
def replT (nm : List UInt8) (u : Tree) : Tree → Tree
  | .mk op name kids => if op == 3 && name == nm then u else .mk op name (replL nm u kids)
def replL (nm : List UInt8) (u : Tree) : List Tree → List Tree
  | [] => []
  | k :: ks => replT nm u k :: replL nm u ks
end
theorem replL_map (nm : List UInt8) (u : Tree) : ∀ ks : List Tree, replL nm u ks = ks.map (replT nm u)
  | [] => by simp [replL]
  | k :: ks => by simp [replL, replL_map nm u ks]
theorem replT_eq (nm : List UInt8) (u t : Tree) : replT nm u t = if t.op == 3 && t.name == nm then u else .mk t.op t.name (t.kids.map (replT nm u)) := by
  cases t with
  | mk op name kids =>
    unfold replT
    rw [replL_map]
    rfl
def RepC (n : Nat) : Prop := ∀ (t u : Tree) (nm : List UInt8) (wb : World) (G H : List Nat) (a a2 : Option Addr) (c c2 : Nat) (w : World), (Fm.rowT t).length ≤ n → (Fm.rowT u).length ≤ 1099511627776 → rdT wb t G (tv t a c) → rdT wb u H (tv u a2 c2) → Ext wb w →
  Calls Try.prog 81 [tv t a c, .string (str nm), tv u a2 c2].toArray w fun e w' => ∃ y : List Nat × Option Addr × Nat, e = .returned (tv (replT nm u t) y.2.1 y.2.2) ∧ St w [] [own y.1 (replT nm u t) (tv (replT nm u t) y.2.1 y.2.2)] w'

end Go.Proofs.Ytbippghgkbapnaa

namespace Go.Proofs.Ytbippghgkbapnaa
open Go Go.Eng Go.Proofs
def stepR (nm : List UInt8) (d acc : Int) (t : Tree) : Int := if t.op == 3 && t.name == nm then acc + d else acc
def RqC (e4 e8 e10 : Nat) (nm : List UInt8) (acc d : Int) : List Chunk := [pt e4 [.string (str nm)] 9, pt e8 [.int .i64 acc] 3, pt e10 [.int .i64 (d + 1)] 3]
theorem RqC_O1 {e4 e8 e10 : Nat} {nm : List UInt8} {acc d : Int} : ∀ c ∈ RqC e4 e8 e10 nm acc d, ∀ k, c.fp k → k ∈ [e4, e8, e10] := by
  intro c hc k hk
  simp only [RqC, List.mem_cons, List.not_mem_nil, or_false] at hc
  rcases hc with rfl | rfl | rfl
  · have : k = e4 := hk
    simp [this]
  · have : k = e8 := hk
    simp [this]
  · have : k = e10 := hk
    simp [this]
theorem RqC_O2 {e4 e8 e10 : Nat} {nm : List UInt8} {acc d : Int} : ∀ k ∈ [e4, e8, e10], ∃ c ∈ RqC e4 e8 e10 nm acc d, c.fp k := by
  intro k hk
  simp only [List.mem_cons, List.not_mem_nil, or_false] at hk
  rcases hk with rfl | rfl | rfl
  · exact ⟨pt k [.string (str nm)] 9, by simp [RqC], rfl⟩
  · exact ⟨pt k [.int .i64 acc] 3, by simp [RqC], rfl⟩
  · exact ⟨pt k [.int .i64 (d + 1)] 3, by simp [RqC], rfl⟩
theorem RqC_sep {e4 e8 e10 : Nat} {nm : List UInt8} {acc d : Int} {z : Nat} {w0 w : World} {O : List Nat} {C : List Chunk} (hS : St w0 O (RqC e4 e8 e10 nm acc d ++ C) w) (h1 : z < w0.heap.size) (h2 : z ∉ O) : z ∉ [e4, e8, e10] := fun hz => by
  obtain ⟨c, hc, hf⟩ := RqC_O2 (nm := nm) (acc := acc) (d := d) z hz
  exact h2 ((hS.bnd c (List.mem_append_left _ hc) z hf).2 h1)
theorem stepR_le (nm : List UInt8) {d acc : Int} (hd : 0 ≤ d ∧ d ≤ 2000) (t : Tree) : acc ≤ stepR nm d acc t ∧ stepR nm d acc t ≤ acc + 2000 := by
  unfold stepR; split <;> omega
theorem foldR_le (nm : List UInt8) {d : Int} (hd : 0 ≤ d ∧ d ≤ 2000) : ∀ (ts : List Tree) (acc : Int), acc ≤ ts.foldl (stepR nm d) acc ∧ ts.foldl (stepR nm d) acc ≤ acc + 2000 * (ts.length : Int)
  | [], acc => by simp
  | t :: ts, acc => by
    have h1 := stepR_le nm hd t (acc := acc)
    have h2 := foldR_le nm hd ts (stepR nm d acc t)
    simp only [List.foldl_cons, List.length_cons]
    omega

theorem RepF_c (t : Tree) (a : Option Addr) (c : Nat) (nm : List UInt8) (acc d : Int) (e4 e8 e10 : Nat) (w : World) (O : List Nat) (hd : 0 ≤ d ∧ d ≤ 2000) (hacc : 0 ≤ acc ∧ acc ≤ 1000000000000) (hS0 : St w O (RqC e4 e8 e10 nm acc d) w) :
    Calls Try.prog 80 [tv t a c, pp e4, pp e8, pp e10].toArray w fun e w' => ∃ x : Unit, e = .returned (.tuple #[]) ∧ St w O (RqC e4 e8 e10 nm (stepR nm d acc t) d) w' := by
  refine enter Try.func80 rfl Try.ntmps80 rfl (C := [pt e4 [.string (str nm)] 9, pt e8 [.int .i64 acc] 3, pt e10 [.int .i64 (d + 1)] 3]) hS0 ?_
  refine WC.seq ?_
  refine WC.region ?_
  refine WL.step ?_
  refine WL.boxN rfl rfl (fun b4 => ?_)
  refine WL.nil ?_
  refine WQ.then_normal ?_
  refine WC.seq ?_
  refine WC.cutF [(13, .bool (t.op == 3 && t.name == nm)), (1, pp e4), (2, pp e8), (3, pp e10), (4, pp b4)] (fun Q' hQ => ?_) ?_
  · skip
    refine WC.region ?_
    refine WL.step ?_
    refine WL.fieldAddr0 F.fld25_0 rfl rfl ?_
    refine WL.step ?_
    refine WL.loadP F.one5 rfl rfl (by repeat (first | exact List.Mem.head _ | apply List.Mem.tail)) rfl ?_
    refine WL.step ?_
    refine WL.eqI rfl rfl rfl ?_
    refine WL.step ?_
    refine WL.move rfl rfl ?_
    refine WA.splitB (i := 8) rfl (fun g8 => ?_) (fun g8 => ?_)
    · skip
      refine WL.step (WL.guardT rfl rfl rfl ?_)
      refine WL.fieldAddr0 F.fld25_1 rfl rfl ?_
      refine WL.step (WL.guardT rfl rfl rfl ?_)
      refine WL.loadP F.one9 rfl rfl (by repeat (first | exact List.Mem.head _ | apply List.Mem.tail)) rfl ?_
      refine WL.step (WL.guardT rfl rfl rfl ?_)
      refine WL.loadP F.one9 rfl rfl (by repeat (first | exact List.Mem.head _ | apply List.Mem.tail)) rfl ?_
      refine WL.step (WL.guardT rfl rfl rfl ?_)
      refine WL.eqS rfl rfl rfl ?_
      refine WL.step ?_
      refine WL.pickT rfl rfl rfl ?_
      refine WL.nil ?_
      refine WQ.byCut hQ (subF_bool ?_ ⟨rfl, rfl, rfl, rfl, trivial⟩ rfl)
      first | (rw [g8, Bool.true_and]) | (rw [g8, Bool.false_and])
    · skip
      refine WL.step (WL.guardF rfl rfl rfl rfl rfl rfl ?_)
      refine WL.step (WL.guardF rfl rfl rfl rfl rfl rfl ?_)
      refine WL.step (WL.guardF rfl rfl rfl rfl rfl rfl ?_)
      refine WL.step (WL.guardF rfl rfl rfl rfl rfl rfl ?_)
      refine WL.step ?_
      refine WL.pickF rfl rfl rfl ?_
      refine WL.nil ?_
      refine WQ.byCut hQ (subF_bool ?_ ⟨rfl, rfl, rfl, rfl, trivial⟩ rfl)
      first | (rw [g8, Bool.true_and]) | (rw [g8, Bool.false_and])
  refine WQ.then_normal ?_
  refine WC.cond rfl (fun h13 => ?_) (fun h13 => ?_)
  · skip
    refine WC.region ?_
    refine WL.step ?_
    refine WL.loadP F.one3 rfl rfl (by repeat (first | exact List.Mem.head _ | apply List.Mem.tail)) rfl ?_
    refine WL.step ?_
    refine WL.loadP F.one3 rfl rfl (by repeat (first | exact List.Mem.head _ | apply List.Mem.tail)) rfl ?_
    refine WL.step ?_
    refine WL.sub rfl rfl rfl ⟨by omega, by omega⟩ ?_
    refine WL.step ?_
    refine WL.add rfl rfl rfl ⟨by omega, by omega⟩ ?_
    refine WL.step ?_
    refine WL.store1 F.one3 rfl rfl rfl (by repeat (first | exact Upd.here | apply Upd.there)) (by repeat constructor) ?_
    refine WL.nil ?_
    refine WQ.fin (rs := []) rfl .nil (fun w hS => ?_)
    have hst : stepR nm d acc t = acc + (d + 1 - 1) := by unfold stepR; rw [if_pos h13]; omega
    refine ⟨(), rfl, ?_⟩
    rw [hst]
    exact ((St.pick (St.pick (St.pick hS (c := pt e10 [.int .i64 (d + 1)] 3) (by repeat (first | exact Rem.here | apply Rem.there))) (c := pt e8 [.int .i64 (acc + (d + 1 - 1))] 3) (by repeat (first | exact Rem.here | apply Rem.there))) (c := pt e4 [.string (str nm)] 9) (by repeat (first | exact Rem.here | apply Rem.there)))).sublist (List.Sublist.cons_cons _ (List.Sublist.cons_cons _ (List.Sublist.cons_cons _ (List.nil_sublist _))))
  · skip
    refine WC.skip ?_
    refine WQ.fin (rs := []) rfl .nil (fun w hS => ?_)
    have hst : stepR nm d acc t = acc := by unfold stepR; rw [if_neg (by rw [h13]; decide)]
    refine ⟨(), rfl, ?_⟩
    rw [hst]
    exact ((St.pick (St.pick (St.pick hS (c := pt e10 [.int .i64 (d + 1)] 3) (by repeat (first | exact Rem.here | apply Rem.there))) (c := pt e8 [.int .i64 acc] 3) (by repeat (first | exact Rem.here | apply Rem.there))) (c := pt e4 [.string (str nm)] 9) (by repeat (first | exact Rem.here | apply Rem.there)))).sublist (List.Sublist.cons_cons _ (List.Sublist.cons_cons _ (List.Sublist.cons_cons _ (List.nil_sublist _))))

def WalkR (n : Nat) : Prop := ∀ (t : Tree) (G : List Nat) (a : Option Addr) (c : Nat) (nm : List UInt8) (acc d : Int) (e4 e8 e10 : Nat) (w : World) (O : List Nat), (Fm.rowT t).length ≤ n → (0 ≤ d ∧ d ≤ 2000) → (0 ≤ acc ∧ acc + 2000 * ((Fm.rowT t).length : Int) ≤ 1000000000000) → rdT w t G (tv t a c) → (∀ k ∈ G, k ∉ O) → St w O (RqC e4 e8 e10 nm acc d) w →
  Calls Try.prog 76 [tv t a c, Value.func (.func 80) [].toArray [pp e4, pp e8, pp e10].toArray].toArray w fun e w' => ∃ x : Unit, e = .returned (.tuple #[]) ∧ St w O (RqC e4 e8 e10 nm ((Fm.rowT t).foldl (stepR nm d) acc) d) w'

theorem WalkR_step (n : Nat) (hn : n ≤ 1099511627776) (hrec : WalkR n) : WalkR (n + 1) := by
  intro t G a c nm acc d e4 e8 e10 w O hsz hd hacc hr hGO hS0
  have hrl : (Fm.rowT t).length = (Fm.rowL t.kids).length + 1 := by rw [Fm.rowT_eq t]; rfl
  have hu1 := stepR_le nm hd t (acc := acc)
  refine enter Try.func76 rfl Try.ntmps76 rfl (C := [pt e4 [.string (str nm)] 9, pt e8 [.int .i64 acc] 3, pt e10 [.int .i64 (d + 1)] 3]) hS0 ?_
  refine WC.seq ?_
  refine WC.region ?_
  refine WL.step ?_
  refine WL.boxN rfl rfl (fun b2 => ?_)
  refine WL.nil ?_
  refine WQ.then_normal ?_
  refine WC.seq ?_
  refine WC.region ?_
  refine WL.step ?_
  refine WL.move rfl rfl ?_
  refine WL.step ?_
  refine WL.loadW F.agg25 rfl rfl (by repeat (first | exact List.Mem.head _ | apply List.Mem.tail)) rfl ?_
  refine WL.step ?_
  refine WA.chunks (C' := [pt e4 [.string (str nm)] 9, pt e8 [.int .i64 acc] 3, pt e10 [.int .i64 (d + 1)] 3, pt b2 [Value.int .u8 t.op, .string (str t.name), .slice a t.kids.length c] 25]) (fun w hS => ((St.pick (St.pick (St.pick (St.pick hS (c := pt b2 [Value.int .u8 t.op, .string (str t.name), .slice a t.kids.length c] 25) (by repeat (first | exact Rem.here | apply Rem.there))) (c := pt e10 [.int .i64 (d + 1)] 3) (by repeat (first | exact Rem.here | apply Rem.there))) (c := pt e8 [.int .i64 acc] 3) (by repeat (first | exact Rem.here | apply Rem.there))) (c := pt e4 [.string (str nm)] 9) (by repeat (first | exact Rem.here | apply Rem.there)))).sublist (List.Sublist.cons_cons _ (List.Sublist.cons_cons _ (List.Sublist.cons_cons _ (List.Sublist.cons_cons _ (List.nil_sublist _)))))) ?_
  refine WL.callFC (β := Unit) (res := fun _ => .tuple #[]) (cs := fun _ => [pt e4 [.string (str nm)] 9, pt e8 [.int .i64 (stepR nm d acc t)] 3, pt e10 [.int .i64 (d + 1)] 3]) (Cs := [pt e4 [.string (str nm)] 9, pt e8 [.int .i64 acc] 3, pt e10 [.int .i64 (d + 1)] 3]) (C1 := [pt b2 [Value.int .u8 t.op, .string (str t.name), .slice a t.kids.length c] 25]) (O' := [e4, e8, e10]) (us := []) (cap := [pp e4, pp e8, pp e10]) F.fun80 (fun d h => by cases h; rfl) rfl rfl (List.Perm.refl _) RqC_O1 (RqC_O2 (nm := nm) (acc := acc) (d := d)) (fun w hS hS2 => RepF_c t a c nm acc d e4 e8 e10 w _ hd (by omega) hS2) (fun x8 => ?_)
  refine WL.nil ?_
  refine WQ.then_normal ?_
  refine WC.seq ?_
  refine WC.region ?_
  refine WL.step ?_
  refine WL.fieldAddr0 F.fld25_2 rfl rfl ?_
  refine WL.step ?_
  refine WL.loadP F.one23 rfl rfl (by repeat (first | exact List.Mem.head _ | apply List.Mem.tail)) rfl ?_
  refine WL.step ?_
  refine WL.lenSl F.und23 rfl rfl ?_
  refine WL.step ?_
  refine WL.move rfl rfl ?_
  refine WL.nil ?_
  refine WQ.then_normal ?_
  refine WC.block ?_
  refine WC.loop (α := Nat × Int) (fun g => g.1 ≤ t.kids.length ∧ g.2 = ((Fm.rowL (t.kids.take g.1)).foldl (stepR nm d) (stepR nm d acc t))) (fun g => [(1, Value.func (.func 80) [].toArray [pp e4, pp e8, pp e10].toArray), (2, pp b2), (10, .slice a t.kids.length c), (11, .int .i64 (t.kids.length : Int)), (12, .int .i64 (g.1 : Int))]) (fun g => [pt e4 [.string (str nm)] 9, pt e8 [.int .i64 g.2] 3, pt e10 [.int .i64 (d + 1)] 3, pt b2 [Value.int .u8 t.op, .string (str t.name), .slice a t.kids.length c] 25]) (fun g => t.kids.length - g.1) ((0, stepR nm d acc t)) ?_ ?_ ?_ ?_
  · exact ⟨Nat.zero_le _, rfl⟩
  · exact ⟨rfl, rfl, rfl, rfl, rfl, trivial⟩
  · rfl
  rintro ⟨i, at2⟩ ⟨hi, hkt⟩
  dsimp only at hi hkt
  show WC _ _ _ _ _ _ _ [(1, Value.func (.func 80) [].toArray [pp e4, pp e8, pp e10].toArray), (2, pp b2), (10, .slice a t.kids.length c), (11, .int .i64 (t.kids.length : Int)), (12, .int .i64 (i : Int))] [pt e4 [.string (str nm)] 9, pt e8 [.int .i64 at2] 3, pt e10 [.int .i64 (d + 1)] 3, pt b2 [Value.int .u8 t.op, .string (str t.name), .slice a t.kids.length c] 25]
  have hul := foldR_le nm hd (Fm.rowL (t.kids.take i)) (stepR nm d acc t)
  rw [← hkt] at hul
  have htl := Fm.rowL_take_le t.kids i
  refine WC.seq ?_
  refine WC.region ?_
  refine WL.step ?_
  refine WL.ltI rfl rfl rfl ?_
  refine WL.nil ?_
  refine WQ.then_normal ?_
  refine WC.seq ?_
  refine WC.cond rfl (fun h13 => ?_) (fun h13 => ?_)
  · skip
    have hlt : i < t.kids.length := by simpa using h13
    obtain ⟨k, hk⟩ : ∃ k, t.kids[i]? = some k := ⟨_, List.getElem?_eq_getElem hlt⟩
    obtain ⟨b, off, F1, a1, c1, rfl, hb, hF1, hrk, hck⟩ := rdT_at hr hk
    have hks := Fm.rowT_kid hk
    have hkl := Fm.kids_le t
    have hbO := hGO b hb
    have htl2 := Fm.rowL_take_le t.kids (i + 1)
    rw [Fm.rowL_take hk, List.length_append] at htl2
    refine WC.skip ?_
    refine WQ.then_normal ?_
    refine WC.seq ?_
    refine WC.block ?_
    refine WC.seq ?_
    refine WC.region ?_
    refine WL.step ?_
    refine WL.indexAddr F.sl23 rfl rfl rfl hlt ?_
    refine WL.step ?_
    refine WL.loadN F.agg25 rfl rfl (vs := [Value.int .u8 k.op, .string (str k.name), .slice a1 k.kids.length c1]) rfl (fun w hS j v hv => hS.oldc (hck j v hv) hbO) ?_
    refine WL.step ?_
    refine WL.alloc F.zero25 rfl (fun b5 => ?_)
    refine WL.step ?_
    refine WL.storeN F.agg25 rfl rfl rfl (by simp [Value.oneCell']) (by repeat (first | exact Upd.here | apply Upd.there)) (by repeat constructor) ?_
    refine WL.nil ?_
    refine WQ.then_normal ?_
    refine WC.region ?_
    refine WL.step ?_
    refine WL.loadW F.agg25 rfl rfl (by repeat (first | exact List.Mem.head _ | apply List.Mem.tail)) rfl ?_
    refine WL.step ?_
    refine WL.move rfl rfl ?_
    refine WL.step ?_
    refine WA.chunks (C' := [pt e4 [.string (str nm)] 9, pt e8 [.int .i64 at2] 3, pt e10 [.int .i64 (d + 1)] 3, pt b5 [Value.int .u8 k.op, .string (str k.name), .slice a1 k.kids.length c1] 25, pt b2 [Value.int .u8 t.op, .string (str t.name), .slice (some ⟨b, off, none⟩) t.kids.length c] 25]) (fun w hS => ((St.pick (St.pick (St.pick (St.pick (St.pick hS (c := pt b2 [Value.int .u8 t.op, .string (str t.name), .slice (some ⟨b, off, none⟩) t.kids.length c] 25) (by repeat (first | exact Rem.here | apply Rem.there))) (c := pt b5 [Value.int .u8 k.op, .string (str k.name), .slice a1 k.kids.length c1] 25) (by repeat (first | exact Rem.here | apply Rem.there))) (c := pt e10 [.int .i64 (d + 1)] 3) (by repeat (first | exact Rem.here | apply Rem.there))) (c := pt e8 [.int .i64 at2] 3) (by repeat (first | exact Rem.here | apply Rem.there))) (c := pt e4 [.string (str nm)] 9) (by repeat (first | exact Rem.here | apply Rem.there)))).sublist (List.Sublist.cons_cons _ (List.Sublist.cons_cons _ (List.Sublist.cons_cons _ (List.Sublist.cons_cons _ (List.Sublist.cons_cons _ (List.nil_sublist _))))))) ?_
    refine WL.callC (β := Unit) (res := fun _ => .tuple #[]) (cs := fun _ => [pt e4 [.string (str nm)] 9, pt e8 [.int .i64 ((Fm.rowT k).foldl (stepR nm d) at2)] 3, pt e10 [.int .i64 (d + 1)] 3]) (Cs := [pt e4 [.string (str nm)] 9, pt e8 [.int .i64 at2] 3, pt e10 [.int .i64 (d + 1)] 3]) (C1 := [pt b5 [Value.int .u8 k.op, .string (str k.name), .slice a1 k.kids.length c1] 25, pt b2 [Value.int .u8 t.op, .string (str t.name), .slice (some ⟨b, off, none⟩) t.kids.length c] 25]) (O' := [e4, e8, e10]) F.fun76 (fun d h => by cases h; rfl) rfl (List.Perm.refl _) RqC_O1 (RqC_O2 (nm := nm) (acc := at2) (d := d)) (fun w hS hS2 => hrec k F1 a1 c1 nm at2 d e4 e8 e10 w _ (by omega) hd (by omega) (hS.oldT hrk (fun z hz => ⟨rdT_lt hrk z hz, hGO z (hF1 z hz)⟩)) (fun z hz => RqC_sep (nm := nm) (acc := at2) (d := d) hS (rdT_lt hrk z hz) (hGO z (hF1 z hz))) hS2) (fun x18 => ?_)
    refine WL.nil ?_
    refine WQ.block_normal ?_
    refine WQ.then_normal ?_
    refine WC.region ?_
    refine WL.step ?_
    refine WL.add rfl rfl rfl ⟨by omega, by omega⟩ ?_
    refine WL.step ?_
    refine WL.move rfl rfl ?_
    refine WL.nil ?_
    refine WQ.chunks (C' := [pt e4 [.string (str nm)] 9, pt e8 [.int .i64 ((Fm.rowT k).foldl (stepR nm d) at2)] 3, pt e10 [.int .i64 (d + 1)] 3, pt b2 [Value.int .u8 t.op, .string (str t.name), .slice (some ⟨b, off, none⟩) t.kids.length c] 25]) (fun w hS => ((St.pick (St.pick (St.pick (St.pick hS (c := pt b2 [Value.int .u8 t.op, .string (str t.name), .slice (some ⟨b, off, none⟩) t.kids.length c] 25) (by repeat (first | exact Rem.here | apply Rem.there))) (c := pt e10 [.int .i64 (d + 1)] 3) (by repeat (first | exact Rem.here | apply Rem.there))) (c := pt e8 [.int .i64 ((Fm.rowT k).foldl (stepR nm d) at2)] 3) (by repeat (first | exact Rem.here | apply Rem.there))) (c := pt e4 [.string (str nm)] 9) (by repeat (first | exact Rem.here | apply Rem.there)))).sublist (List.Sublist.cons_cons _ (List.Sublist.cons_cons _ (List.Sublist.cons_cons _ (List.Sublist.cons_cons _ (List.nil_sublist _)))))) ?_
    refine WQ.back ((i + 1, (Fm.rowT k).foldl (stepR nm d) at2)) ?_ ?_ ?_ ?_
    · exact ⟨by show i + 1 ≤ _; omega, by show _ = ((Fm.rowL (t.kids.take (i + 1))).foldl (stepR nm d) (stepR nm d acc t)); rw [Fm.rowL_take hk, List.foldl_append, ← hkt]⟩
    · (show t.kids.length - (i + 1) < t.kids.length - i; omega)
    · exact ⟨rfl, rfl, rfl, rfl, rfl, trivial⟩
    · rfl
  · skip
    have hie : i = t.kids.length := by simp at h13; omega
    subst hie
    rw [List.take_length] at hkt
    refine WC.exit ?_
    refine WQ.then_exit ?_
    refine WQ.then_exit ?_
    refine WQ.block_exit ?_
    refine WQ.fin (rs := []) rfl .nil (fun w hS => ?_)
    refine ⟨(), rfl, ?_⟩
    rw [Fm.rowT_eq t, List.foldl_cons, ← hkt]
    exact ((St.pick (St.pick (St.pick hS (c := pt e10 [.int .i64 (d + 1)] 3) (by repeat (first | exact Rem.here | apply Rem.there))) (c := pt e8 [.int .i64 at2] 3) (by repeat (first | exact Rem.here | apply Rem.there))) (c := pt e4 [.string (str nm)] 9) (by repeat (first | exact Rem.here | apply Rem.there)))).sublist (List.Sublist.cons_cons _ (List.Sublist.cons_cons _ (List.Sublist.cons_cons _ (List.nil_sublist _))))

theorem WalkR_c : ∀ n, n ≤ 1099511627776 → WalkR n
  | 0, _ => fun t G a c nm acc d e4 e8 e10 w O hsz => by rw [Fm.rowT_eq] at hsz; simp at hsz
  | n + 1, h => WalkR_step n (by omega) (WalkR_c n (by omega))

end Go.Proofs.Ytbippghgkbapnaa

namespace Go.Proofs.Ytbippghgkbapnaa
open Go Go.Eng Go.Proofs
mutual
theorem fold_T {nm : List UInt8} {u : Tree} : ∀ (t : Tree) (acc : Int), (∀ x ∈ Fm.rowT t, x.op = 3 → x.kids = []) → (Fm.rowT t).foldl (stepR nm (((Fm.rowT u).length : Int) - 1)) acc = acc + ((Fm.rowT (replT nm u t)).length : Int) - ((Fm.rowT t).length : Int)
  | .mk op name kids, acc, h => by
    have h0 : op = 3 → kids = [] := h (.mk op name kids) (by rw [Fm.rowT_eq]; simp)
    have hL := fold_L (nm := nm) (u := u) kids
    have e1 : Fm.rowT (.mk op name kids) = .mk op name kids :: Fm.rowL kids := by simp [Fm.rowT]
    have e2 : replT nm u (.mk op name kids) = if op == 3 && name == nm then u else .mk op name (replL nm u kids) := by simp only [replT]
    have e3 : ∀ d, stepR nm d acc (.mk op name kids) = if op == 3 && name == nm then acc + d else acc := fun d => rfl
    rw [e1, e2, List.foldl_cons, e3]
    cases hc : (op == 3 && name == nm) with
    | true =>
      have hk : kids = [] := h0 (by simp at hc; exact hc.1)
      subst hk
      simp [Fm.rowL]
      omega
    | false =>
      have h1 := hL acc (fun x hx => h x (by rw [e1]; simp [hx]))
      have e4 : Fm.rowT (.mk op name (replL nm u kids)) = .mk op name (replL nm u kids) :: Fm.rowL (replL nm u kids) := by simp [Fm.rowT]
      simp only [Bool.false_eq_true, if_false]
      rw [h1, e4]
      simp only [List.length_cons]
      omega
theorem fold_L {nm : List UInt8} {u : Tree} : ∀ (ks : List Tree) (acc : Int), (∀ x ∈ Fm.rowL ks, x.op = 3 → x.kids = []) → (Fm.rowL ks).foldl (stepR nm (((Fm.rowT u).length : Int) - 1)) acc = acc + ((Fm.rowL (replL nm u ks)).length : Int) - ((Fm.rowL ks).length : Int)
  | [], acc, _ => by simp [Fm.rowL, replL]
  | k :: ks, acc, h => by
    have h1 := fold_T (nm := nm) (u := u) k acc (fun x hx => h x (by simp [Fm.rowL, hx]))
    have h2 := fold_L (nm := nm) (u := u) ks (acc + ((Fm.rowT (replT nm u k)).length : Int) - ((Fm.rowT k).length : Int)) (fun x hx => h x (by simp [Fm.rowL, hx]))
    simp only [Fm.rowL, replL, List.foldl_append, List.length_append]
    rw [h1, h2]
    omega
end
theorem valid_leaf {t : Tree} (h : Fm.validB t = true) : ∀ x ∈ Fm.rowT t, x.op = 3 → x.kids = [] := by
  intro x hx h3
  rw [← Fm.refValid_eq, Fm.refValid] at h
  simp only [Bool.and_eq_true, decide_eq_true_eq, List.all_eq_true] at h
  have h1 := h.1.1 x hx
  unfold Fm.oneB at h1
  rw [if_pos h3] at h1
  simp at h1
  exact h1.1
def repE (nm : List UInt8) (u t : Tree) : Tree × Int :=
  if !Fm.validB t || !Fm.validB u then (Fm.zeroTree, 2) else if !Fm.isNameB nm then (Fm.zeroTree, 6) else if Fm.validB (replT nm u t) then (replT nm u t, 0) else (Fm.zeroTree, 5)

end Go.Proofs.Ytbippghgkbapnaa
