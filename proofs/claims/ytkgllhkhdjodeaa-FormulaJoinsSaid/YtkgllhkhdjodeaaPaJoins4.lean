import Derived.Test.YtkgllhkhdjodeaaPaJoins3
import Derived.MapKept
import Derived.WideMake
import Derived.ChangeKeysEq
import Derived.WideKeyRuns
set_option linter.unusedSimpArgs false
set_option linter.unusedVariables false
namespace Go.Proofs.Ytkgllhkhdjodeaa
open Go Go.Eng Go.Proofs
theorem Clone_c (ls : List (List Int)) (a : Option Addr) (cap : Nat) (us : List Value) (hlen : ls.length ≤ 1099511627776) (ha : a = none ∨ ∃ b off, a = some ⟨b, off, none⟩) (w : World) (hr : RdLL w ls a us) :
    Calls Try.prog 42 [.slice a ls.length cap].toArray w fun e w' => ∃ x : Option Addr × Nat, e = .returned (.slice x.1 ls.length x.2) ∧ St w [] [rowc (.slice x.1 ls.length x.2) ls.length 23 1 us] w' := by
  refine enter Try.func42 rfl Try.ntmps42 rfl (St.init _) ?_
  refine WC.seq ?_
  refine WC.region ?_
  refine WL.step ?_
  refine WL.assign rfl rfl ?_
  refine WL.nil ?_
  refine WQ.then_normal ?_
  refine WC.seq ?_
  refine WC.seq ?_
  rcases ha with rfl | ⟨b, off, rfl⟩
  · skip
    have hus : us = [] := by
      cases us with
      | nil => rfl
      | cons u r =>
        obtain ⟨b, off, h1, _⟩ := hr.hd 0 u rfl
        cases h1
    have hl0 : ls = [] := by (have := hr.len; rw [hus] at this; exact List.eq_nil_of_length_eq_zero this.symm)
    subst hus; subst hl0
    refine WC.region ?_
    refine WL.step ?_
    refine WL.move rfl rfl ?_
    refine WL.step ?_
    refine WL.bin rfl rfl rfl (v := .bool true) (fun w => by kernel_rfl) ?_
    refine WL.nil ?_
    refine WQ.then_normal ?_
    refine WC.condT rfl ?_
    refine WC.seq ?_
    refine WC.region ?_
    refine WL.step ?_
    refine WL.assign rfl rfl ?_
    refine WL.nil ?_
    refine WQ.then_normal ?_
    refine WC.ret ?_
    refine WQ.then_ret ?_
    exact WQ.ret (rs := [.tmp 2]) rfl (.tmp rfl .nil) (fun w hS => ⟨(none, 0), rfl, hS.rowNil 23 1⟩)
  · skip
    refine WC.region ?_
    refine WL.step ?_
    refine WL.move rfl rfl ?_
    refine WL.step ?_
    refine WL.bin rfl rfl rfl (v := .bool false) (fun w => by kernel_rfl) ?_
    refine WL.nil ?_
    refine WQ.then_normal ?_
    refine WC.condF rfl ?_
    refine WC.skip ?_
    refine WQ.then_normal ?_
    refine WC.seq ?_
    refine WC.region ?_
    refine WL.step ?_
    refine WL.buildSlice0 F.sl33 rfl (fun b5 => ?_)
    refine WA.chunks (fun w hS => hS.rowOf (n := 0) (sz := 1) rfl (by decide)) ?_
    refine WL.step ?_
    refine WL.move rfl rfl ?_
    refine WL.step ?_
    refine WL.appendE (news := us) F.el33 rfl rfl rfl (by repeat (first | exact Rem.here | apply Rem.there)) (fun w hS i u hu => ?_) (by rw [hr.len, Nat.mul_one]) (fun u hu => ?_) (Nat.le_trans (m := 1099511627776) (by omega) (by decide)) (by omega) (fun a2 cap2 => ?_)
    · obtain ⟨b2, off2, h1, h2⟩ := hr.hd i u hu
      injection h1 with h1
      injection h1 with h1 h3
      subst h1; subst h3
      exact hS.oldc h2 (by simp)
    · obtain ⟨i, hi, he⟩ := List.getElem_of_mem hu
      have h1 : us[i]? = some u := by rw [List.getElem?_eq_getElem hi, he]
      have h2 : ls[i]? = some (ls[i]'(by rw [← hr.len]; exact hi)) := List.getElem?_eq_getElem _
      obtain ⟨a1, c1, h3, _⟩ := hr.rd i _ u h2 h1
      subst h3
      rfl
    refine WL.step ?_
    refine WL.assign rfl rfl ?_
    refine WL.nil ?_
    refine WQ.then_normal ?_
    refine WC.ret ?_
    refine WQ.ret (rs := [.tmp 2]) rfl (.tmp rfl .nil) (fun w hS => ⟨(a2, cap2), ?_, ?_⟩)
    · simp [tup]
    · simpa using hS

theorem passK_KB : ∀ {ls : List (List Int)} {k : Fm.Kn} {ag : Bool}, KB k → (∀ c ∈ ls, ∀ x ∈ c, Lit x) → (∀ k', Fm.passK ls k ag = .inl k' → KB k') ∧ (∀ k' b, Fm.passK ls k ag = .inr (k', b) → KB k')
  | [], k, ag, hk, _ => ⟨fun k' h => by simp [Fm.passK] at h, fun k' b h => by simp only [Fm.passK, Sum.inr.injEq, Prod.mk.injEq] at h; rw [← h.1]; exact hk⟩
  | c :: cs, k, ag, hk, hl => by
    have hcs : ∀ c ∈ cs, ∀ x ∈ c, Lit x := fun c' h => hl c' (List.mem_cons_of_mem _ h)
    simp only [Fm.passK]
    split
    · exact ⟨fun k' h => by injection h with h; rw [← h]; exact hk, fun k' b h => by cases h⟩
    split
    · exact ⟨fun k' h => by injection h with h; rw [← h]; exact hk, fun k' b h => by cases h⟩
    split
    · rename_i h1 h2 h3
      have hx : Lit (Fm.unitK k c).1 := by
        rcases unitG_mem (x := (Fm.unitK k c).1) (c := c) (op := 0) (k := k) (by have := h3; unfold Fm.unitK at this ⊢; rw [← this]) with h0 | h0
        · exfalso
          apply h2
          rw [h3, h0]; rfl
        · exact hl c (List.mem_cons_self ..) _ h0
      exact passK_KB (hk.with hx) hcs
    · exact passK_KB hk hcs
theorem closedF_KB : ∀ {f : Nat} {ls : List (List Int)} {k k' : Fm.Kn} {b : Bool}, KB k → (∀ c ∈ ls, ∀ x ∈ c, Lit x) → Fm.closedF f ls k = some (k', b) → KB k'
  | 0, ls, k, k', b, _, _, h => by simp [Fm.closedF] at h
  | f + 1, ls, k, k', b, hk, hl, h => by
    have hp := passK_KB (ag := false) hk hl
    simp only [Fm.closedF] at h
    split at h
    · rename_i k2 h2
      simp only [Option.some.injEq, Prod.mk.injEq] at h
      rw [← h.1]; exact hp.1 _ h2
    · rename_i k2 b2 h2
      split at h
      · exact closedF_KB (hp.2 _ _ h2) hl h
      · simp only [Option.some.injEq, Prod.mk.injEq] at h
        rw [← h.1]; exact hp.2 _ _ h2
theorem solveF_true {n f : Nat} {all proof : List (List Int)} {path : List Int} : Fm.solveF n (f + 1) true all path proof = match path.getLast? with
    | none => some ⟨false, 0, proof ++ [path.map (fun x => -x)]⟩
    | some last => if last < 0 then Fm.solveF n f false (all ++ [path.map (fun x => -x)]) (path.dropLast ++ [-last]) (proof ++ [path.map (fun x => -x)]) else Fm.solveF n f true (all ++ [path.map (fun x => -x)]) path.dropLast (proof ++ [path.map (fun x => -x)]) := rfl
structure SG where
  f : Nat
  path : List Int
  ss : List (List Int)
  vs : List Value
  hs : List Value
  ps : List Value
  F : List Nat
  aa : Option Addr
  pa : Option Addr
  ta : Option Addr
  ca : Nat
  pc : Nat
  tc : Nat
  nA : Nat
  nP : Nat
  nT : Nat
structure SInv (n : Nat) (ls : List (List Int)) (us : List Value) (r : Fm.Ans) (mode : Bool) (g : SG) : Prop where
  sol : Fm.solveF n g.f mode (ls ++ g.ss) g.path g.ss = some r
  hhs : g.hs = us ++ g.vs
  hps : g.ps = g.path.map (Value.int .i64)
  hA : g.nA = ls.length + g.ss.length
  hP : g.nP = g.ss.length
  hT : g.nT = g.path.length
  lit : ∀ x ∈ g.path, x ≠ 0 ∧ -24 ≤ x ∧ x ≤ 24
  slit : ∀ c ∈ g.ss, ∀ x ∈ c, Lit x
  slen : ∀ c ∈ g.ss, c.length ≤ 1099511627776
  bp : g.path.length + g.f ≤ 1073741824
  bs : g.ss.length + g.f ≤ 1073741824
/-- The step that shows that a path leads to no model, laid up to i. -/
def stepAt (path : List Int) (i : Nat) : List Value := ((path.map (fun x => -x)).take i).map (Value.int .i64) ++ List.replicate (path.length - i) (.int .i64 0)
theorem stepAt_len {path : List Int} {i : Nat} (h : i ≤ path.length) : (stepAt path i).length = path.length := by
  simp [stepAt]; omega
theorem stepAt_set {path : List Int} {i : Nat} {x : Int} (h : path[i]? = some x) : (stepAt path i).set i (.int .i64 (-x)) = stepAt path (i + 1) := by
  have hi := (List.getElem?_eq_some_iff.1 h).1
  have hl : (((path.map (fun x => -x)).take i).map (Value.int .i64)).length = i := by simp; omega
  unfold stepAt
  rw [List.set_append_right _ _ (by omega), hl, Nat.sub_self, List.take_add_one, List.map_append]
  have hg : (path.map (fun x => -x))[i]? = some (-x) := by simp [h]
  rw [hg]
  have hr : path.length - i = (path.length - (i + 1)) + 1 := by omega
  rw [hr, List.replicate_succ, List.set_cons_zero]
  simp
theorem stepAt_end {path : List Int} : stepAt path path.length = (path.map (fun x => -x)).map (Value.int .i64) := by
  simp [stepAt]
  rw [List.take_of_length_le (by simp)]
theorem Lit.neg {x : Int} (h : x ≠ 0 ∧ -24 ≤ x ∧ x ≤ 24) : Lit (-x) := ⟨by omega, by omega, by omega⟩
theorem litB_lit {n : Nat} {x : Int} (hn : n ≤ 24) (h : Fm.litB (n : Int) x = true) : Lit x := by
  simp only [Fm.litB, Bool.and_eq_true, Bool.not_eq_true', decide_eq_true_eq, beq_eq_false_iff_ne] at h
  exact ⟨h.1.1, by omega, by omega⟩
theorem may_lit {n : Nat} {ls : List (List Int)} (hn : n ≤ 24) (h : ls.all (Fm.fitsB (n : Int)) = true) : (∀ c ∈ ls, ∀ x ∈ c, Lit x) ∧ (∀ c ∈ ls, c.length ≤ 64) := by
  rw [List.all_eq_true] at h
  refine ⟨fun c hc x hx => ?_, fun c hc => ?_⟩
  · have := h c hc
    simp only [Fm.fitsB, Bool.and_eq_true, List.all_eq_true] at this
    exact litB_lit hn (this.2 x hx)
  · have := h c hc
    simp only [Fm.fitsB, Bool.and_eq_true, decide_eq_true_eq] at this
    exact this.1
def SolvePost (w : World) (r : Fm.Ans) (e : Ending) (w' : World) : Prop :=
  ∃ (x : Option Addr × Nat) (F : List Nat) (vs : List Value), e = .returned (.tuple #[.agg #[.bool r.ok, .int .u32 (r.model : Int), .slice x.1 r.proof.length x.2], .int .i64 0]) ∧
    St w [] [rowc (.slice x.1 r.proof.length x.2) r.proof.length 23 1 vs, stepsC F vs r.proof] w'

theorem may_zero {m : Int} {ls : List (List Int)} (h : Fm.mayE m ls = 0) : (0 ≤ m ∧ m ≤ 24) ∧ ls.length ≤ 4096 ∧ ls.all (Fm.fitsB m) = true := by
  unfold Fm.mayE at h
  split at h
  · cases h
  split at h
  · cases h
  split at h
  · rename_i h1 h2 h3
    exact ⟨by omega, by omega, h3⟩
  · cases h
theorem stepAt_zero {path : List Int} {k : Nat} (h : k = path.length) : stepAt path 0 = List.replicate k (.int .i64 0) := by
  simp [stepAt, h]
theorem last_at {path : List Int} {x : Int} {k : Nat} (hk : k = path.length) (h : path.getLast? = some x) : path[k - 1]? = some x ∧ 0 < k := by
  subst hk
  rw [List.getLast?_eq_getElem?] at h
  exact ⟨h, by have := (List.getElem?_eq_some_iff.1 h).1; omega⟩
namespace F
theorem info3 : (Try.prog.info? 3).map (fun i => (i.zero, i.size, i.bytes)) = some (some (.int .i64 0), 1, 8) := by kernel_rfl
end F

theorem Solve_c (m : Int) (ls : List (List Int)) (a : Option Addr) (cap : Nat) (us : List Value) (ha : a = none ∨ ∃ b off, a = some ⟨b, off, none⟩) (w : World) (hr : RdLL w ls a us)
    (f0 : Nat) (r : Fm.Ans) (hf0 : f0 ≤ 536870912) (hsol : ∀ n : Nat, m = (n : Int) → Fm.mayE m ls = 0 → Fm.solveF n f0 false ls [] [] = some r) :
    Calls Try.prog 16 [.int .i64 m, .slice a ls.length cap].toArray w fun e w' => (Fm.mayE m ls ≠ 0 ∧ e = .returned (.tuple #[.agg #[.bool false, .int .u32 0, .slice none 0 0], .int .i64 (Fm.mayE m ls)]) ∧ St w [] [] w') ∨
      (Fm.mayE m ls = 0 ∧ SolvePost w r e w') := by
  refine enter Try.func16 rfl Try.ntmps16 rfl (St.init _) ?_
  refine WC.seq ?_
  refine WC.region ?_
  refine WL.step ?_
  refine WL.alloc F.zero41 rfl (fun b4 => ?_)
  refine WL.step ?_
  refine WL.assign rfl rfl ?_
  refine WL.nil ?_
  refine WQ.then_normal ?_
  refine WC.scope ?_
  refine WC.seq ?_
  refine WC.seq ?_
  refine WC.region ?_
  refine WL.step ?_
  refine WL.move rfl rfl ?_
  refine WL.step ?_
  refine WL.move rfl rfl ?_
  refine WL.step ?_
  refine WL.callV F.fun41 rfl rfl (fun w hS => may_c m ls a cap us w (hr.next hS)) ?_
  refine WL.step ?_
  refine WL.assign rfl rfl ?_
  refine WL.nil ?_
  refine WQ.then_normal ?_
  refine WC.seq ?_
  refine WC.region ?_
  refine WL.step ?_
  refine WL.move rfl rfl ?_
  refine WL.step ?_
  refine WL.neI rfl rfl rfl ?_
  refine WL.nil ?_
  refine WQ.then_normal ?_
  refine WC.cond rfl (fun h23 => ?_) (fun h23 => ?_)
  · skip
    have hme : Fm.mayE m ls ≠ 0 := by simpa using h23
    refine WC.seq ?_
    refine WC.region ?_
    refine WL.step ?_
    refine WL.build F.stT41 rfl (by repeat (first | exact Built.nil | apply Built.one rfl rfl (by repeat constructor) | apply Built.agg rfl rfl (by repeat constructor))) rfl ?_
    refine WL.step ?_
    refine WL.move rfl rfl ?_
    refine WL.step ?_
    refine WL.storeN F.agg41 rfl rfl rfl (by simp [Value.oneCell']) (by repeat (first | exact Upd.here | apply Upd.there)) (by repeat constructor) ?_
    refine WL.step ?_
    refine WL.assign rfl rfl ?_
    refine WL.nil ?_
    refine WQ.then_normal ?_
    refine WC.ret ?_
    refine WQ.then_ret ?_
    refine WQ.scope_ret ?_
    refine WQ.ret (rs := [.cell 4 41, .tmp 5]) rfl (.cellN F.agg41 rfl (by repeat (first | exact List.Mem.head _ | apply List.Mem.tail)) rfl (.tmp rfl .nil)) (fun w hS => .inl ⟨hme, rfl, hS.drop⟩)
  · skip
    have hme : Fm.mayE m ls = 0 := by simpa using h23
    obtain ⟨hm0, hcount, hall⟩ := may_zero hme
    obtain ⟨n, rfl⟩ : ∃ n : Nat, m = (n : Int) := ⟨m.toNat, by omega⟩
    have hn : n ≤ 24 := by omega
    obtain ⟨hlits, hlens⟩ := may_lit hn hall
    have h := hsol n rfl hme
    refine WC.skip ?_
    refine WQ.then_normal ?_
    refine WC.seq ?_
    refine WC.region ?_
    refine WL.step ?_
    refine WL.move rfl rfl ?_
    refine WL.step ?_
    refine WL.callC (β := Option Addr × Nat) (res := fun x => .slice x.1 ls.length x.2) (cs := fun x => [rowc (.slice x.1 ls.length x.2) ls.length 23 1 us]) (Cs := []) (O' := []) F.fun42 (fun d h => by cases h; rfl) rfl (List.Perm.refl _) (by simp) (by simp) (fun w hS _ => Clone_c ls a cap us (by omega) ha w (hr.next hS)) (fun x27 => ?_)
    refine WL.step ?_
    refine WL.assign rfl rfl ?_
    refine WL.nil ?_
    refine WQ.then_normal ?_
    refine WC.seq ?_
    refine WC.region ?_
    refine WL.step ?_
    refine WL.assign rfl rfl ?_
    refine WL.nil ?_
    refine WQ.then_normal ?_
    refine WC.seq ?_
    refine WC.region ?_
    refine WL.step ?_
    refine WL.assign rfl rfl ?_
    refine WL.nil ?_
    refine WQ.then_normal ?_
    refine WC.seq ?_
    refine WC.label ?_
    refine WQ.then_normal ?_
    refine WC.block ?_
    obtain ⟨a1, c1⟩ := x27
    refine WC.chunks (fun w hS => (hS.rowNil 23 1)) ?_
    refine WC.chunks (fun w hS => (hS.rowNil 3 1)) ?_
    refine WC.chunks (fun w hS => hS.stepsNil) ?_
    refine WC.chunks (C' := [pt b4 [.bool false, .int .u32 0, .slice none 0 0] 41, rowc (.slice a1 ls.length c1) ls.length 23 1 us, rowc (.slice none 0 0) 0 23 1 [], rowc (.slice none 0 0) 0 3 1 [], stepsC [] [] []]) (fun w hS => (St.pick (St.pick (St.pick (St.pick hS (c := rowc (.slice none 0 0) 0 3 1 []) (by repeat (first | exact Rem.here | apply Rem.there))) (c := rowc (.slice none 0 0) 0 23 1 []) (by repeat (first | exact Rem.here | apply Rem.there))) (c := rowc (.slice a1 ls.length c1) ls.length 23 1 us) (by repeat (first | exact Rem.here | apply Rem.there))) (c := pt b4 [.bool false, .int .u32 0, .slice none 0 0] 41) (by repeat (first | exact Rem.here | apply Rem.there)))) ?_
    refine WC.loop (α := SG) (SInv n ls us r false) (fun g => [(0, .int .i64 (n : Int)), (4, pp b4), (7, .slice g.aa g.nA g.ca), (8, .slice g.ta g.nT g.tc), (9, .slice g.pa g.nP g.pc)]) (fun g => [pt b4 [.bool false, .int .u32 0, .slice none 0 0] 41, rowc (.slice g.aa g.nA g.ca) g.nA 23 1 g.hs, rowc (.slice g.pa g.nP g.pc) g.nP 23 1 g.vs, rowc (.slice g.ta g.nT g.tc) g.nT 3 1 g.ps, stepsC g.F g.vs g.ss]) (fun g => g.f) (⟨f0, [], [], [], us, [], [], a1, none, none, c1, 0, 0, ls.length, 0, 0⟩) ?_ ?_ ?_ ?_
    · exact ⟨by rw [List.append_nil]; exact h, by rw [List.append_nil], rfl, rfl, rfl, rfl, by simp, by simp, by simp, by simp; omega, by simp; omega⟩
    · exact ⟨rfl, rfl, rfl, rfl, rfl, trivial⟩
    · rfl
    rintro ⟨f, path, ss, vs, hs, ps, Fb, aa, pa, ta, ca, pc, tc, nA, nP, nT⟩ hI
    obtain ⟨sol, hhs, hps, hA, hP, hT, hlit, hslit, hslen, hbp, hbs⟩ := hI
    dsimp only at sol hhs hps hA hP hT hlit hslit hslen hbp hbs
    obtain ⟨f, rfl⟩ : ∃ f2, f = f2 + 1 := by cases f with | zero => simp [Fm.solveF] at sol | succ f => exact ⟨f, rfl⟩
    show WC _ _ _ _ _ _ _ [(0, .int .i64 (n : Int)), (4, pp b4), (7, .slice aa nA ca), (8, .slice ta nT tc), (9, .slice pa nP pc)] [pt b4 [.bool false, .int .u32 0, .slice none 0 0] 41, rowc (.slice aa nA ca) nA 23 1 hs, rowc (.slice pa nP pc) nP 23 1 vs, rowc (.slice ta nT tc) nT 3 1 ps, stepsC Fb vs ss]
    simp only [Fm.solveF] at sol
    obtain rfl : nA = (ls ++ ss).length := by rw [hA, List.length_append]
    have hLL : ∀ c ∈ ls ++ ss, ∀ x ∈ c, Lit x := by
      intro c hc
      rcases List.mem_append.1 hc with hc | hc
      · exact hlits c hc
      · exact hslit c hc
    have hLen : ∀ c ∈ ls ++ ss, c.length ≤ 1099511627776 := by
      intro c hc
      rcases List.mem_append.1 hc with hc | hc
      · have := hlens c hc; omega
      · exact hslen c hc
    refine WC.block ?_
    refine WC.seq ?_
    refine WC.region ?_
    refine WL.step ?_
    refine WL.build F.stT82 rfl (by repeat (first | exact Built.nil | apply Built.one rfl rfl (by repeat constructor) | apply Built.agg rfl rfl (by repeat constructor))) rfl ?_
    refine WL.step ?_
    refine WL.alloc F.zero82 rfl (fun b10 => ?_)
    refine WL.step ?_
    refine WL.storeN F.agg82 rfl rfl rfl (by simp [Value.oneCell']) (by repeat (first | exact Upd.here | apply Upd.there)) (by repeat constructor) ?_
    refine WL.nil ?_
    refine WQ.then_normal ?_
    refine WC.seq ?_
    refine WC.seq ?_
    refine WC.region ?_
    refine WL.step ?_
    refine WL.move rfl rfl ?_
    refine WL.step ?_
    refine WL.lenSl F.und23 rfl rfl ?_
    refine WL.step ?_
    refine WL.move rfl rfl ?_
    refine WL.nil ?_
    refine WQ.then_normal ?_
    refine WC.block ?_
    refine WC.loop (α := Nat × Fm.Kn) (fun g => g.1 ≤ nT ∧ KB g.2 ∧ g.2 = (path.take g.1).foldl Fm.withK (0, 0)) (fun g => [(0, .int .i64 (n : Int)), (4, pp b4), (7, .slice aa (ls ++ ss).length ca), (8, .slice ta nT tc), (9, .slice pa nP pc), (10, pp b10), (29, .slice ta nT tc), (30, .int .i64 (nT : Int)), (31, .int .i64 (g.1 : Int))]) (fun g => [pt b10 [.int .u32 (g.2.1 : Int), .int .u32 (g.2.2 : Int)] 82, pt b4 [.bool false, .int .u32 0, .slice none 0 0] 41, rowc (.slice aa (ls ++ ss).length ca) (ls ++ ss).length 23 1 hs, rowc (.slice pa nP pc) nP 23 1 vs, rowc (.slice ta nT tc) nT 3 1 ps, stepsC Fb vs ss]) (fun g => nT - g.1) ((0, (0, 0))) ?_ ?_ ?_ ?_
    · exact ⟨Nat.zero_le _, ⟨by decide, by decide⟩, rfl⟩
    · exact ⟨rfl, rfl, rfl, rfl, rfl, rfl, rfl, rfl, rfl, trivial⟩
    · rfl
    rintro ⟨i, k⟩ ⟨hi, hk, hke⟩
    dsimp only at hi hk hke
    show WC _ _ _ _ _ _ _ [(0, .int .i64 (n : Int)), (4, pp b4), (7, .slice aa (ls ++ ss).length ca), (8, .slice ta nT tc), (9, .slice pa nP pc), (10, pp b10), (29, .slice ta nT tc), (30, .int .i64 (nT : Int)), (31, .int .i64 (i : Int))] [pt b10 [.int .u32 (k.1 : Int), .int .u32 (k.2 : Int)] 82, pt b4 [.bool false, .int .u32 0, .slice none 0 0] 41, rowc (.slice aa (ls ++ ss).length ca) (ls ++ ss).length 23 1 hs, rowc (.slice pa nP pc) nP 23 1 vs, rowc (.slice ta nT tc) nT 3 1 ps, stepsC Fb vs ss]
    refine WC.seq ?_
    refine WC.region ?_
    refine WL.step ?_
    refine WL.ltI rfl rfl rfl ?_
    refine WL.nil ?_
    refine WQ.then_normal ?_
    refine WC.seq ?_
    refine WC.cond rfl (fun h32 => ?_) (fun h32 => ?_)
    · skip
      have hlt : i < nT := by simpa using h32
      obtain ⟨x, hx⟩ : ∃ x, path[i]? = some x := ⟨_, List.getElem?_eq_getElem (by omega)⟩
      have hxl := hlit x (List.mem_of_getElem? hx)
      refine WC.know (φ := ∃ g, ta = some ⟨g, 0, none⟩ ∧ nT = nT ∧ nT ≤ tc) (fun w hS => rowc_addr (hS.ok (rowc (.slice ta nT tc) nT 3 1 ps) (by repeat (first | exact List.Mem.head _ | apply List.Mem.tail))) (by omega)) (fun ⟨g, hta, _, _⟩ => ?_)
      subst hta
      refine WC.skip ?_
      refine WQ.then_normal ?_
      refine WC.seq ?_
      refine WC.block ?_
      refine WC.seq ?_
      refine WC.region ?_
      refine WL.step ?_
      refine WL.indexAddr F.sl23 rfl rfl rfl hlt ?_
      refine WL.step ?_
      refine WL.load1 F.one3 rfl rfl (v := .int .i64 x) (fun w hS => by simpa using rowc_cell (hS.ok (rowc (.slice (some ⟨g, 0, none⟩) nT tc) nT 3 1 ps) (by repeat (first | exact List.Mem.head _ | apply List.Mem.tail))) (u := .int .i64 x) (by rw [hps]; simp [hx])) ?_
      refine WL.step ?_
      refine WL.assign rfl rfl ?_
      refine WL.nil ?_
      refine WQ.then_normal ?_
      refine WC.region ?_
      refine WL.step ?_
      refine WL.loadW F.agg82 rfl rfl (by repeat (first | exact List.Mem.head _ | apply List.Mem.tail)) rfl ?_
      refine WL.step ?_
      refine WL.move rfl rfl ?_
      refine WL.step ?_
      refine WL.callV F.fun43 rfl rfl (fun w _ => with_c k x hk ⟨hxl.1, by omega, by omega⟩ w) ?_
      refine WL.step ?_
      refine WL.storeN F.agg82 rfl rfl rfl (by simp [Value.oneCell']) (by repeat (first | exact Upd.here | apply Upd.there)) (by repeat constructor) ?_
      refine WL.nil ?_
      refine WQ.block_normal ?_
      refine WQ.then_normal ?_
      refine WC.region ?_
      refine WL.step ?_
      refine WL.add rfl rfl rfl ⟨by omega, by omega⟩ ?_
      refine WL.step ?_
      refine WL.move rfl rfl ?_
      refine WL.nil ?_
      refine WQ.back ((i + 1, Fm.withK k x)) ?_ ?_ ?_ ?_
      · exact ⟨by show i + 1 ≤ nT; omega, hk.with ⟨hxl.1, by omega, by omega⟩, by show Fm.withK k x = _; rw [List.take_add_one, hx, List.foldl_append, ← hke]; rfl⟩
      · (show nT - (i + 1) < nT - i; omega)
      · exact ⟨rfl, rfl, rfl, rfl, rfl, rfl, rfl, rfl, rfl, trivial⟩
      · rfl
    · skip
      have hie : nT = i := by simp at h32; omega
      subst hie
      rw [hT, List.take_length] at hke
      refine WC.exit ?_
      refine WQ.then_exit ?_
      refine WQ.then_exit ?_
      refine WQ.block_exit ?_
      refine WQ.then_normal ?_
      refine WC.seq ?_
      rcases hcl : Fm.closedF 65 (ls ++ ss) k with _ | ⟨k1, ok⟩
      · skip
        rw [← hke, hcl] at sol
        cases sol
      · skip
        rw [← hke, hcl] at sol
        have hk1 := closedF_KB hk hLL hcl
        refine WC.region ?_
        refine WL.step ?_
        refine WL.move rfl rfl ?_
        refine WL.step ?_
        refine WL.loadW F.agg82 rfl rfl (by repeat (first | exact List.Mem.head _ | apply List.Mem.tail)) rfl ?_
        refine WL.step ?_
        refine WL.callV F.fun44 rfl rfl (fun w hS => closed_c (ls ++ ss) aa ca hs k 65 (k1, ok) hk hLL hLen (by simp; omega) w (hr.join hS hhs (by rw [List.length_append]) (n := (ls ++ ss).length) (cap := ca) (F := Fb) (vs := vs) (by repeat (first | exact List.Mem.head _ | apply List.Mem.tail)) (by repeat (first | exact List.Mem.head _ | apply List.Mem.tail))) hcl) ?_
        refine WL.step ?_
        refine WL.move rfl rfl ?_
        refine WL.step ?_
        refine WL.extract rfl rfl rfl ?_
        refine WL.step ?_
        refine WL.extract rfl rfl rfl ?_
        refine WL.step ?_
        refine WL.storeN F.agg82 rfl rfl rfl (by simp [Value.oneCell']) (by repeat (first | exact Upd.here | apply Upd.there)) (by repeat constructor) ?_
        refine WL.step ?_
        refine WL.assign rfl rfl ?_
        refine WL.nil ?_
        refine WQ.then_normal ?_
        refine WC.seq ?_
        refine WC.seq ?_
        refine WC.region ?_
        refine WL.step ?_
        refine WL.move rfl rfl ?_
        refine WL.nil ?_
        refine WQ.then_normal ?_
        refine WC.cond rfl (fun h45 => ?_) (fun h45 => ?_)
        · skip
          have hok : ok = true := h45
          subst hok
          simp only at sol
          refine WC.seq ?_
          refine WC.seq ?_
          refine WC.region ?_
          refine WL.step ?_
          refine WL.move rfl rfl ?_
          refine WL.step ?_
          refine WL.assign rfl rfl ?_
          refine WL.nil ?_
          refine WQ.then_normal ?_
          refine WC.block ?_
          refine WC.loop (α := Nat) (fun i => i ≤ n ∧ Fm.openK k1 n = Fm.openK k1 i) (fun i => [(0, .int .i64 (n : Int)), (4, pp b4), (7, .slice aa (ls ++ ss).length ca), (8, .slice ta nT tc), (9, .slice pa nP pc), (10, pp b10), (14, .int .i64 (i : Int))]) (fun _ => [pt b10 [.int .u32 (k1.1 : Int), .int .u32 (k1.2 : Int)] 82, pt b4 [.bool false, .int .u32 0, .slice none 0 0] 41, rowc (.slice aa (ls ++ ss).length ca) (ls ++ ss).length 23 1 hs, rowc (.slice pa nP pc) nP 23 1 vs, rowc (.slice ta nT tc) nT 3 1 ps, stepsC Fb vs ss]) (fun i => i) (n) ?_ ?_ ?_ ?_
          · exact ⟨Nat.le_refl _, rfl⟩
          · exact ⟨rfl, rfl, rfl, rfl, rfl, rfl, rfl, trivial⟩
          · rfl
          rintro i ⟨hi, hop⟩
          refine WC.seq ?_
          refine WC.seq ?_
          refine WC.region ?_
          refine WL.step ?_
          refine WL.move rfl rfl ?_
          refine WL.step ?_
          refine WL.gtI rfl rfl rfl ?_
          refine WL.nil ?_
          refine WQ.then_normal ?_
          refine WC.cond rfl (fun h48 => ?_) (fun h48 => ?_)
          · skip
            have hi0 : 0 < i := by simp at h48; omega
            have hLi : Lit (i : Int) := ⟨by omega, by omega, by omega⟩
            have hLn : Lit (-(i : Int)) := ⟨by omega, by omega, by omega⟩
            have hok2 : Fm.openK k1 i = if !Fm.hasK k1 (i : Int) && !Fm.hasK k1 (-(i : Int)) then i else Fm.openK k1 (i - 1) := by
              obtain ⟨j, rfl⟩ : ∃ j, i = j + 1 := ⟨i - 1, by omega⟩
              simp only [Fm.openK, Nat.add_sub_cancel]
            refine WC.skip ?_
            refine WQ.then_normal ?_
            refine WC.seq ?_
            refine WC.block ?_
            refine WC.seq ?_
            refine WC.region ?_
            refine WL.step ?_
            refine WL.loadW F.agg82 rfl rfl (by repeat (first | exact List.Mem.head _ | apply List.Mem.tail)) rfl ?_
            refine WL.step ?_
            refine WL.move rfl rfl ?_
            refine WL.step ?_
            refine WL.callV F.fun45 rfl rfl (fun w _ => has_c k1 _ hk1 hLi w) ?_
            refine WL.step ?_
            refine WL.not rfl rfl ?_
            refine WL.step ?_
            refine WL.move rfl rfl ?_
            refine WA.splitB (i := 55) rfl (fun h55 => ?_) (fun h55 => ?_)
            · skip
              refine WL.step (WL.guardT rfl rfl rfl ?_)
              refine WL.loadW F.agg82 rfl rfl (by repeat (first | exact List.Mem.head _ | apply List.Mem.tail)) rfl ?_
              refine WL.step (WL.guardT rfl rfl rfl ?_)
              refine WL.move rfl rfl ?_
              refine WL.step (WL.guardT rfl rfl rfl ?_)
              refine WL.negI rfl rfl (by omega) ?_
              refine WL.step (WL.guardT rfl rfl rfl ?_)
              refine WL.callV F.fun45 rfl rfl (fun w _ => has_c k1 _ hk1 hLn w) ?_
              refine WL.step (WL.guardT rfl rfl rfl ?_)
              refine WL.not rfl rfl ?_
              refine WL.step ?_
              refine WL.pickT rfl rfl rfl ?_
              refine WL.nil ?_
              refine WQ.then_normal ?_
              refine WC.cond rfl (fun h61 => ?_) (fun h61 => ?_)
              · skip
                have hoi : Fm.openK k1 n = i := by rw [hop, hok2, h55, h61]; rfl
                rw [if_neg (by rw [hoi]; omega), hoi] at sol
                refine WC.seq ?_
                refine WC.region ?_
                refine WL.step ?_
                refine WL.move rfl rfl ?_
                refine WL.step ?_
                refine WL.move rfl rfl ?_
                refine WL.step ?_
                refine WL.negI rfl rfl (by omega) ?_
                refine WL.step ?_
                refine WL.buildSlice F.sl23 F.ez23 rfl rfl rfl rfl (by repeat (first | exact Built.nil | apply Built.one rfl rfl (by repeat constructor) | apply Built.agg rfl rfl (by repeat constructor))) rfl (fun b65 => ?_)
                refine WL.step ?_
                refine WL.appendE (news := [.int .i64 (-(i : Int))]) F.el23 rfl rfl rfl (by repeat (first | exact Rem.here | apply Rem.there)) (fun w hS j u hu => by rw [Nat.zero_add]; exact hS.cell (cs := [.int .i64 (-(i : Int))]) (by repeat (first | exact List.Mem.head _ | apply List.Mem.tail)) hu) rfl (by simp [Value.oneCell']) (Nat.le_trans (m := 1099511627776) (by omega) (by decide)) (by omega) (fun a3 c3 => ?_)
                refine WL.step ?_
                refine WL.assign rfl rfl ?_
                refine WL.nil ?_
                refine WQ.then_normal ?_
                refine WC.exit ?_
                refine WQ.block_other rfl ?_
                refine WQ.then_exit ?_
                refine WQ.then_exit ?_
                refine WQ.block_other rfl ?_
                refine WQ.then_exit ?_
                refine WQ.then_exit ?_
                refine WQ.block_exit ?_
                refine WQ.chunks (C' := [pt b4 [.bool false, .int .u32 0, .slice none 0 0] 41, rowc (.slice aa (ls ++ ss).length ca) (ls ++ ss).length 23 1 hs, rowc (.slice pa nP pc) nP 23 1 vs, rowc (.slice a3 (nT + 1) c3) (nT + 1) 3 1 (ps ++ [.int .i64 (-(i : Int))]), stepsC Fb vs ss]) (fun w hS => ((St.pick (St.pick (St.pick (St.pick (St.pick hS (c := stepsC Fb vs ss) (by repeat (first | exact Rem.here | apply Rem.there))) (c := rowc (.slice a3 (nT + 1) c3) (nT + 1) 3 1 (ps ++ [.int .i64 (-(i : Int))])) (by repeat (first | exact Rem.here | apply Rem.there))) (c := rowc (.slice pa nP pc) nP 23 1 vs) (by repeat (first | exact Rem.here | apply Rem.there))) (c := rowc (.slice aa (ls ++ ss).length ca) (ls ++ ss).length 23 1 hs) (by repeat (first | exact Rem.here | apply Rem.there))) (c := pt b4 [.bool false, .int .u32 0, .slice none 0 0] 41) (by repeat (first | exact Rem.here | apply Rem.there)))).sublist (List.Sublist.cons_cons _ (List.Sublist.cons_cons _ (List.Sublist.cons_cons _ (List.Sublist.cons_cons _ (List.Sublist.cons_cons _ (List.nil_sublist _))))))) ?_
                refine WQ.back (⟨f, path ++ [-(i : Int)], ss, vs, hs, ps ++ [.int .i64 (-(i : Int))], Fb, aa, pa, a3, ca, pc, c3, (ls ++ ss).length, nP, nT + 1⟩) ?_ ?_ ?_ ?_
                · exact ⟨sol, hhs, by show ps ++ _ = (path ++ _).map _; rw [hps]; simp, by show (ls ++ ss).length = _; rw [List.length_append], hP, by show nT + 1 = (path ++ [_]).length; rw [hT]; simp, by intro x hx; rcases List.mem_append.1 hx with hx | hx; exact hlit x hx; simp at hx; subst hx; exact ⟨by omega, by omega, by omega⟩, hslit, hslen, by show (path ++ [_]).length + f ≤ _; simp; omega, by show ss.length + f ≤ _; omega⟩
                · exact Nat.lt_succ_self f
                · exact ⟨rfl, rfl, rfl, rfl, rfl, trivial⟩
                · rfl
              · skip
                have hop2 : Fm.openK k1 n = Fm.openK k1 (i - 1) := by rw [hop, hok2, h55, h61]; rfl
                refine WC.skip ?_
                refine WQ.block_normal ?_
                refine WQ.then_normal ?_
                refine WC.region ?_
                refine WL.step ?_
                refine WL.move rfl rfl ?_
                refine WL.step ?_
                refine WL.sub rfl rfl rfl ⟨by omega, by omega⟩ ?_
                refine WL.step ?_
                refine WL.assign rfl rfl ?_
                refine WL.nil ?_
                obtain ⟨i, rfl⟩ : ∃ i2, i = i2 + 1 := ⟨i - 1, by omega⟩
                rw [show (((i + 1 : Nat) : Int) - 1) = (i : Int) by omega]
                refine WQ.back (i) ?_ ?_ ?_ ?_
                · exact ⟨by omega, hop2⟩
                · omega
                · exact ⟨rfl, rfl, rfl, rfl, rfl, rfl, rfl, trivial⟩
                · rfl
            · skip
              have hop2 : Fm.openK k1 n = Fm.openK k1 (i - 1) := by rw [hop, hok2, h55]; rfl
              refine WL.step (WL.guardF rfl rfl rfl rfl rfl rfl ?_)
              refine WL.step (WL.guardF rfl rfl rfl rfl rfl rfl ?_)
              refine WL.step (WL.guardF rfl rfl rfl rfl rfl rfl ?_)
              refine WL.step (WL.guardF rfl rfl rfl rfl rfl rfl ?_)
              refine WL.step (WL.guardF rfl rfl rfl rfl rfl rfl ?_)
              refine WL.step ?_
              refine WL.pickF rfl rfl rfl ?_
              refine WL.nil ?_
              refine WQ.then_normal ?_
              refine WC.condF rfl ?_
              refine WC.skip ?_
              refine WQ.block_normal ?_
              refine WQ.then_normal ?_
              refine WC.region ?_
              refine WL.step ?_
              refine WL.move rfl rfl ?_
              refine WL.step ?_
              refine WL.sub rfl rfl rfl ⟨by omega, by omega⟩ ?_
              refine WL.step ?_
              refine WL.assign rfl rfl ?_
              refine WL.nil ?_
              obtain ⟨i, rfl⟩ : ∃ i2, i = i2 + 1 := ⟨i - 1, by omega⟩
              rw [show (((i + 1 : Nat) : Int) - 1) = (i : Int) by omega]
              refine WQ.back (i) ?_ ?_ ?_ ?_
              · exact ⟨by omega, hop2⟩
              · omega
              · exact ⟨rfl, rfl, rfl, rfl, rfl, rfl, rfl, trivial⟩
              · rfl
          · skip
            have hi0 : i = 0 := by simp at h48; omega
            subst hi0
            have hop0 : Fm.openK k1 n = 0 := hop
            rw [if_pos hop0] at sol
            injection sol with sol
            refine WC.exit ?_
            refine WQ.then_exit ?_
            refine WQ.then_exit ?_
            refine WQ.block_exit ?_
            refine WQ.then_normal ?_
            refine WC.seq ?_
            refine WC.region ?_
            refine WL.step ?_
            refine WL.fieldAddr0 F.fld82_0 rfl rfl ?_
            refine WL.step ?_
            refine WL.loadP F.one22 rfl rfl (by repeat (first | exact List.Mem.head _ | apply List.Mem.tail)) rfl ?_
            refine WL.step ?_
            refine WL.build F.stT41 rfl (by repeat (first | exact Built.nil | apply Built.one rfl rfl (by repeat constructor) | apply Built.agg rfl rfl (by repeat constructor))) rfl ?_
            refine WL.step ?_
            refine WL.storeN F.agg41 rfl rfl rfl (by simp [Value.oneCell']) (by repeat (first | exact Upd.here | apply Upd.there)) (by repeat constructor) ?_
            refine WL.step ?_
            refine WL.assign rfl rfl ?_
            refine WL.nil ?_
            refine WQ.then_normal ?_
            refine WC.ret ?_
            refine WQ.then_ret ?_
            refine WQ.block_ret ?_
            refine WQ.then_ret ?_
            refine WQ.block_ret ?_
            refine WQ.scope_ret ?_
            refine WQ.ret (rs := [.cell 4 41, .tmp 5]) rfl (.cellN F.agg41 rfl (by repeat (first | exact List.Mem.head _ | apply List.Mem.tail)) rfl (.tmp rfl .nil)) (fun w hS => .inr ⟨hme, (none, 0), [], [], ?_, ?_⟩)
            · rw [← sol]; rfl
            · rw [← sol]; exact (((hS.sublist (List.nil_sublist _)).stepsNil).rowNil 23 1)
        · skip
          have hok : ok = false := h45
          subst hok
          simp only at sol
          refine WC.skip ?_
          refine WQ.then_normal ?_
          refine WC.block ?_
          obtain ⟨fo, hfo0⟩ : ∃ fo, fo = f := ⟨_, rfl⟩
          refine WC.chunks (C' := [pt b4 [.bool false, .int .u32 0, .slice none 0 0] 41, rowc (.slice aa (ls ++ ss).length ca) (ls ++ ss).length 23 1 hs, rowc (.slice pa nP pc) nP 23 1 vs, rowc (.slice ta nT tc) nT 3 1 ps, stepsC Fb vs ss]) (fun w hS => ((St.pick (St.pick (St.pick (St.pick (St.pick hS (c := stepsC Fb vs ss) (by repeat (first | exact Rem.here | apply Rem.there))) (c := rowc (.slice ta nT tc) nT 3 1 ps) (by repeat (first | exact Rem.here | apply Rem.there))) (c := rowc (.slice pa nP pc) nP 23 1 vs) (by repeat (first | exact Rem.here | apply Rem.there))) (c := rowc (.slice aa (ls ++ ss).length ca) (ls ++ ss).length 23 1 hs) (by repeat (first | exact Rem.here | apply Rem.there))) (c := pt b4 [.bool false, .int .u32 0, .slice none 0 0] 41) (by repeat (first | exact Rem.here | apply Rem.there)))).sublist (List.Sublist.cons_cons _ (List.Sublist.cons_cons _ (List.Sublist.cons_cons _ (List.Sublist.cons_cons _ (List.Sublist.cons_cons _ (List.nil_sublist _))))))) ?_
          refine WC.loop (α := SG) (fun g => SInv n ls us r true g ∧ g.f ≤ fo) (fun g => [(0, .int .i64 (n : Int)), (4, pp b4), (7, .slice g.aa g.nA g.ca), (8, .slice g.ta g.nT g.tc), (9, .slice g.pa g.nP g.pc)]) (fun g => [pt b4 [.bool false, .int .u32 0, .slice none 0 0] 41, rowc (.slice g.aa g.nA g.ca) g.nA 23 1 g.hs, rowc (.slice g.pa g.nP g.pc) g.nP 23 1 g.vs, rowc (.slice g.ta g.nT g.tc) g.nT 3 1 g.ps, stepsC g.F g.vs g.ss]) (fun g => g.f) (⟨f, path, ss, vs, hs, ps, Fb, aa, pa, ta, ca, pc, tc, (ls ++ ss).length, nP, nT⟩) ?_ ?_ ?_ ?_
          · exact ⟨⟨sol, hhs, hps, by show (ls ++ ss).length = _; rw [List.length_append], hP, hT, hlit, hslit, hslen, by show path.length + f ≤ _; omega, by show ss.length + f ≤ _; omega⟩, by show f ≤ fo; omega⟩
          · exact ⟨rfl, rfl, rfl, rfl, rfl, trivial⟩
          · rfl
          rintro ⟨f, path, ss, vs, hs, ps, Fb, aa, pa, ta, ca, pc, tc, nA, nP, nT⟩ ⟨hI, hfo⟩
          dsimp only at hfo
          obtain ⟨sol, hhs, hps, hA, hP, hT, hlit, hslit, hslen, hbp, hbs⟩ := hI
          dsimp only at sol hhs hps hA hP hT hlit hslit hslen hbp hbs
          obtain ⟨f, rfl⟩ : ∃ f2, f = f2 + 1 := by cases f with | zero => simp [Fm.solveF] at sol | succ f => exact ⟨f, rfl⟩
          show WC _ _ _ _ _ _ _ [(0, .int .i64 (n : Int)), (4, pp b4), (7, .slice aa nA ca), (8, .slice ta nT tc), (9, .slice pa nP pc)] [pt b4 [.bool false, .int .u32 0, .slice none 0 0] 41, rowc (.slice aa nA ca) nA 23 1 hs, rowc (.slice pa nP pc) nP 23 1 vs, rowc (.slice ta nT tc) nT 3 1 ps, stepsC Fb vs ss]
          rw [solveF_true] at sol
          refine WC.block ?_
          refine WC.seq ?_
          refine WC.region ?_
          refine WL.step ?_
          refine WL.move rfl rfl ?_
          refine WL.step ?_
          refine WL.lenSl F.und23 rfl rfl ?_
          refine WL.step ?_
          refine WL.makeSlice F.und23 F.info3 rfl rfl rfl rfl (by omega) (by omega) (fun b72 => ?_)
          rw [← stepAt_zero hT]
          refine WL.step ?_
          refine WL.assign rfl rfl ?_
          refine WL.nil ?_
          refine WQ.then_normal ?_
          refine WC.seq ?_
          refine WC.seq ?_
          refine WC.region ?_
          refine WL.step ?_
          refine WL.move rfl rfl ?_
          refine WL.step ?_
          refine WL.lenSl F.und23 rfl rfl ?_
          refine WL.step ?_
          refine WL.move rfl rfl ?_
          refine WL.nil ?_
          refine WQ.then_normal ?_
          refine WC.block ?_
          refine WC.loop (α := Nat) (fun i => i ≤ nT) (fun i => [(0, .int .i64 (n : Int)), (4, pp b4), (7, .slice aa nA ca), (8, .slice ta nT tc), (9, .slice pa nP pc), (15, .slice (some ⟨b72, 0, none⟩) nT nT), (73, .slice ta nT tc), (74, .int .i64 (nT : Int)), (75, .int .i64 (i : Int))]) (fun i => [pt b72 (stepAt path i) 3, pt b4 [.bool false, .int .u32 0, .slice none 0 0] 41, rowc (.slice aa nA ca) nA 23 1 hs, rowc (.slice pa nP pc) nP 23 1 vs, rowc (.slice ta nT tc) nT 3 1 ps, stepsC Fb vs ss]) (fun i => nT - i) (0) ?_ ?_ ?_ ?_
          · exact Nat.zero_le _
          · exact ⟨rfl, rfl, rfl, rfl, rfl, rfl, rfl, rfl, rfl, trivial⟩
          · rfl
          rintro i hi
          refine WC.seq ?_
          refine WC.region ?_
          refine WL.step ?_
          refine WL.ltI rfl rfl rfl ?_
          refine WL.nil ?_
          refine WQ.then_normal ?_
          refine WC.seq ?_
          refine WC.cond rfl (fun h76 => ?_) (fun h76 => ?_)
          · skip
            have hlt : i < nT := by simpa using h76
            obtain ⟨x, hx⟩ : ∃ x, path[i]? = some x := ⟨_, List.getElem?_eq_getElem (by omega)⟩
            have hxl := hlit x (List.mem_of_getElem? hx)
            refine WC.know (φ := ∃ g, ta = some ⟨g, 0, none⟩ ∧ nT = nT ∧ nT ≤ tc) (fun w hS => rowc_addr (hS.ok (rowc (.slice ta nT tc) nT 3 1 ps) (by repeat (first | exact List.Mem.head _ | apply List.Mem.tail))) (by omega)) (fun ⟨g, hta, _, _⟩ => ?_)
            subst hta
            refine WC.skip ?_
            refine WQ.then_normal ?_
            refine WC.seq ?_
            refine WC.block ?_
            refine WC.seq ?_
            refine WC.region ?_
            refine WL.step ?_
            refine WL.move rfl rfl ?_
            refine WL.step ?_
            refine WL.indexAddr F.sl23 rfl rfl rfl hlt ?_
            refine WL.step ?_
            refine WL.load1 F.one3 rfl rfl (v := .int .i64 x) (fun w hS => by simpa using rowc_cell (hS.ok (rowc (.slice (some ⟨g, 0, none⟩) nT tc) nT 3 1 ps) (by repeat (first | exact List.Mem.head _ | apply List.Mem.tail))) (u := .int .i64 x) (by rw [hps]; simp [hx])) ?_
            refine WL.step ?_
            refine WL.assign rfl rfl ?_
            refine WL.step ?_
            refine WL.assign rfl rfl ?_
            refine WL.nil ?_
            refine WQ.then_normal ?_
            refine WC.region ?_
            refine WL.step ?_
            refine WL.move rfl rfl ?_
            refine WL.step ?_
            refine WL.move rfl rfl ?_
            refine WL.step ?_
            refine WL.move rfl rfl ?_
            refine WL.step ?_
            refine WL.negI rfl rfl (by omega) ?_
            refine WL.step ?_
            refine WL.indexAddr F.sl23 rfl rfl rfl hlt ?_
            refine WL.step ?_
            refine WL.store1 (cs := stepAt path i) (cs' := stepAt path (i + 1)) F.one3 rfl rfl rfl (by repeat (first | exact Upd.here | apply Upd.there)) (by have h9 := setN_set (stepAt path i) i (.int .i64 (-x)) (by rw [stepAt_len (by omega)]; omega); rw [stepAt_set hx] at h9; simpa using h9) ?_
            refine WL.nil ?_
            refine WQ.block_normal ?_
            refine WQ.then_normal ?_
            refine WC.region ?_
            refine WL.step ?_
            refine WL.add rfl rfl rfl ⟨by omega, by omega⟩ ?_
            refine WL.step ?_
            refine WL.move rfl rfl ?_
            refine WL.nil ?_
            refine WQ.back (i + 1) ?_ ?_ ?_ ?_
            · exact by omega
            · omega
            · exact ⟨rfl, rfl, rfl, rfl, rfl, rfl, rfl, rfl, rfl, trivial⟩
            · rfl
          · skip
            have hie : i = nT := by simp at h76; omega
            subst hie
            have hse : stepAt path i = (path.map (fun x => -x)).map (Value.int .i64) := by rw [hT]; exact stepAt_end
            have hcl : (path.map (fun x => -x)).length = i := by simp [hT]
            refine WC.exit ?_
            refine WQ.then_exit ?_
            refine WQ.then_exit ?_
            refine WQ.block_exit ?_
            refine WQ.then_normal ?_
            refine WC.seq ?_
            refine WC.region ?_
            refine WL.step ?_
            refine WL.move rfl rfl ?_
            refine WL.step ?_
            refine WL.move rfl rfl ?_
            refine WL.step ?_
            refine WL.buildSlice F.sl33 F.ez33 rfl rfl rfl rfl (by repeat (first | exact Built.nil | apply Built.one rfl rfl (by repeat constructor) | apply Built.agg rfl rfl (by repeat constructor))) rfl (fun b88 => ?_)
            refine WL.step ?_
            refine WL.appendE (news := [Value.slice (some ⟨b72, 0, none⟩) i i]) F.el33 rfl rfl rfl (by repeat (first | exact Rem.here | apply Rem.there)) (fun w hS j u hu => by rw [Nat.zero_add]; exact hS.cell (cs := [Value.slice (some ⟨b72, 0, none⟩) i i]) (by repeat (first | exact List.Mem.head _ | apply List.Mem.tail)) hu) rfl (by simp [Value.oneCell']) (Nat.le_trans (m := 1099511627776) (by omega) (by decide)) (by omega) (fun a4 c4 => ?_)
            refine WL.step ?_
            refine WL.assign rfl rfl ?_
            refine WL.nil ?_
            refine WQ.then_normal ?_
            refine WC.seq ?_
            refine WC.region ?_
            refine WL.step ?_
            refine WL.move rfl rfl ?_
            refine WL.step ?_
            refine WL.move rfl rfl ?_
            refine WL.step ?_
            refine WL.buildSlice F.sl33 F.ez33 rfl rfl rfl rfl (by repeat (first | exact Built.nil | apply Built.one rfl rfl (by repeat constructor) | apply Built.agg rfl rfl (by repeat constructor))) rfl (fun b92 => ?_)
            refine WL.step ?_
            refine WL.appendE (news := [Value.slice (some ⟨b72, 0, none⟩) i i]) F.el33 rfl rfl rfl (by repeat (first | exact Rem.here | apply Rem.there)) (fun w hS j u hu => by rw [Nat.zero_add]; exact hS.cell (cs := [Value.slice (some ⟨b72, 0, none⟩) i i]) (by repeat (first | exact List.Mem.head _ | apply List.Mem.tail)) hu) rfl (by simp [Value.oneCell']) (Nat.le_trans (m := 1099511627776) (by omega) (by decide)) (by omega) (fun a5 c5 => ?_)
            refine WL.step ?_
            refine WL.assign rfl rfl ?_
            refine WA.chunks (C' := [pt b4 [.bool false, .int .u32 0, .slice none 0 0] 41, rowc (.slice a5 (nA + 1) c5) (nA + 1) 23 1 (hs ++ [Value.slice (some ⟨b72, 0, none⟩) i i]), rowc (.slice a4 (nP + 1) c4) (nP + 1) 23 1 (vs ++ [Value.slice (some ⟨b72, 0, none⟩) i i]), rowc (.slice ta i tc) i 3 1 ps, stepsC (b72 :: Fb) (vs ++ [Value.slice (some ⟨b72, 0, none⟩) i i]) (ss ++ [(path.map (fun x => -x))])]) (fun w hS => ?_) ?_
            · rw [hse] at hS
              have h9 := St.stepsSnoc (St.pick (St.pick hS (c := pt b72 ((path.map (fun x => -x)).map (Value.int .i64)) 3) (by repeat (first | exact Rem.here | apply Rem.there))) (c := stepsC Fb vs ss) (by repeat (first | exact Rem.here | apply Rem.there)))
              rw [hcl] at h9
              exact ((St.pick (St.pick (St.pick (St.pick (St.pick h9 (c := stepsC (b72 :: Fb) (vs ++ [Value.slice (some ⟨b72, 0, none⟩) i i]) (ss ++ [(path.map (fun x => -x))])) (by repeat (first | exact Rem.here | apply Rem.there))) (c := rowc (.slice ta i tc) i 3 1 ps) (by repeat (first | exact Rem.here | apply Rem.there))) (c := rowc (.slice a4 (nP + 1) c4) (nP + 1) 23 1 (vs ++ [Value.slice (some ⟨b72, 0, none⟩) i i])) (by repeat (first | exact Rem.here | apply Rem.there))) (c := rowc (.slice a5 (nA + 1) c5) (nA + 1) 23 1 (hs ++ [Value.slice (some ⟨b72, 0, none⟩) i i])) (by repeat (first | exact Rem.here | apply Rem.there))) (c := pt b4 [.bool false, .int .u32 0, .slice none 0 0] 41) (by repeat (first | exact Rem.here | apply Rem.there)))).sublist (List.Sublist.cons_cons _ (List.Sublist.cons_cons _ (List.Sublist.cons_cons _ (List.Sublist.cons_cons _ (List.Sublist.cons_cons _ (List.nil_sublist _))))))
            refine WL.nil ?_
            refine WQ.then_normal ?_
            refine WC.seq ?_
            refine WC.seq ?_
            refine WC.region ?_
            refine WL.step ?_
            refine WL.move rfl rfl ?_
            refine WL.step ?_
            refine WL.lenSl F.und23 rfl rfl ?_
            refine WL.step ?_
            refine WL.eqI rfl rfl rfl ?_
            refine WL.nil ?_
            refine WQ.then_normal ?_
            refine WC.cond rfl (fun h96 => ?_) (fun h96 => ?_)
            · skip
              have hp0 : path = [] := List.eq_nil_of_length_eq_zero (by simp at h96; omega)
              subst hp0
              simp only [List.getLast?_nil] at sol
              injection sol with sol
              refine WC.seq ?_
              refine WC.region ?_
              refine WL.step ?_
              refine WL.move rfl rfl ?_
              refine WL.step ?_
              refine WL.build F.stT41 rfl (by repeat (first | exact Built.nil | apply Built.one rfl rfl (by repeat constructor) | apply Built.agg rfl rfl (by repeat constructor))) rfl ?_
              refine WL.step ?_
              refine WL.storeN F.agg41 rfl rfl rfl (by simp [Value.oneCell']) (by repeat (first | exact Upd.here | apply Upd.there)) (by repeat constructor) ?_
              refine WL.step ?_
              refine WL.assign rfl rfl ?_
              refine WL.nil ?_
              refine WQ.then_normal ?_
              refine WC.ret ?_
              refine WQ.then_ret ?_
              refine WQ.block_ret ?_
              refine WQ.then_ret ?_
              refine WQ.block_ret ?_
              refine WQ.block_ret ?_
              refine WQ.then_ret ?_
              refine WQ.block_ret ?_
              refine WQ.scope_ret ?_
              refine WQ.ret (rs := [.cell 4 41, .tmp 5]) rfl (.cellN F.agg41 rfl (by repeat (first | exact List.Mem.head _ | apply List.Mem.tail)) rfl (.tmp rfl .nil)) (fun w hS => .inr ⟨hme, (a4, c4), b72 :: Fb, vs ++ [Value.slice (some ⟨b72, 0, none⟩) i i], ?_, ?_⟩)
              · have hpl : nP + 1 = r.proof.length := by rw [← sol, hP]; simp
                rw [← hpl, ← sol]; rfl
              · have hpl : nP + 1 = r.proof.length := by rw [← sol, hP]; simp
                have h9 := ((St.pick (St.pick hS (c := stepsC (b72 :: Fb) (vs ++ [Value.slice (some ⟨b72, 0, none⟩) i i]) (ss ++ [([] : List Int).map (fun x => -x)])) (by repeat (first | exact Rem.here | apply Rem.there))) (c := rowc (.slice a4 (nP + 1) c4) (nP + 1) 23 1 (vs ++ [Value.slice (some ⟨b72, 0, none⟩) i i])) (by repeat (first | exact Rem.here | apply Rem.there)))).two2
                rw [← hpl, ← sol]; exact h9
            · skip
              have hp0 : path ≠ [] := by (intro h0; rw [h0] at hT; simp at h96 hT; omega)
              obtain ⟨last, hlast⟩ : ∃ x, path.getLast? = some x := ⟨_, List.getLast?_eq_some_getLast hp0⟩
              rw [hlast] at sol
              simp only at sol
              obtain ⟨hli, hpos⟩ := last_at hT hlast
              have hll := hlit last (List.mem_of_getLast? hlast)
              refine WC.know (φ := ∃ g, ta = some ⟨g, 0, none⟩ ∧ i = i ∧ i ≤ tc) (fun w hS => rowc_addr (hS.ok (rowc (.slice ta i tc) i 3 1 ps) (by repeat (first | exact List.Mem.head _ | apply List.Mem.tail))) hpos) (fun ⟨g, hta, _, htc⟩ => ?_)
              subst hta
              have htk : ps.take (i - 1) = path.dropLast.map (Value.int .i64) := by rw [hps, ← List.map_take, List.dropLast_eq_take, hT]
              have hslit5 : ∀ c ∈ ss ++ [(path.map (fun x => -x))], ∀ x ∈ c, Lit x := by
                intro c hc x hx
                rcases List.mem_append.1 hc with hc | hc
                · exact hslit c hc x hx
                · simp only [List.mem_singleton] at hc
                  subst hc
                  obtain ⟨y, hy, hyx⟩ := List.mem_map.1 hx
                  rw [← hyx]; exact Lit.neg (hlit y hy)
              have hslen5 : ∀ c ∈ ss ++ [(path.map (fun x => -x))], c.length ≤ 1099511627776 := by
                intro c hc
                rcases List.mem_append.1 hc with hc | hc
                · exact hslen c hc
                · simp only [List.mem_singleton] at hc
                  subst hc
                  simp; omega
              have hbs5 : (ss ++ [(path.map (fun x => -x))]).length + f ≤ 1073741824 := by simp; omega
              have hdl : path.dropLast.length = i - 1 := by simp [hT]
              refine WC.skip ?_
              refine WQ.then_normal ?_
              refine WC.seq ?_
              refine WC.region ?_
              refine WL.step ?_
              refine WL.move rfl rfl ?_
              refine WL.step ?_
              refine WL.move rfl rfl ?_
              refine WL.step ?_
              refine WL.lenSl F.und23 rfl rfl ?_
              refine WL.step ?_
              refine WL.sub rfl rfl rfl ⟨by omega, by omega⟩ ?_
              refine WA.say 102 (.int .i64 ((i - 1 : Nat) : Int)) (congrArg (fun z => some (Value.int .i64 z)) (show (i : Int) - 1 = ((i - 1 : Nat) : Int) by omega)) ?_
              refine WL.step ?_
              refine WL.indexAddr F.sl23 rfl rfl rfl (i := i - 1) (by omega) ?_
              refine WL.step ?_
              refine WL.load1 F.one3 rfl rfl (v := .int .i64 last) (fun w hS => by simpa using rowc_cell (hS.ok (rowc (.slice (some ⟨g, 0, none⟩) i tc) i 3 1 ps) (by repeat (first | exact List.Mem.head _ | apply List.Mem.tail))) (u := .int .i64 last) (by rw [hps]; simp [hli])) ?_
              refine WL.step ?_
              refine WL.assign rfl rfl ?_
              refine WL.nil ?_
              refine WQ.then_normal ?_
              refine WC.seq ?_
              refine WC.region ?_
              refine WL.step ?_
              refine WL.move rfl rfl ?_
              refine WL.step ?_
              refine WL.move rfl rfl ?_
              refine WL.step ?_
              refine WL.lenSl F.und23 rfl rfl ?_
              refine WL.step ?_
              refine WL.sub rfl rfl rfl ⟨by omega, by omega⟩ ?_
              refine WA.say 108 (.int .i64 ((i - 1 : Nat) : Int)) (congrArg (fun z => some (Value.int .i64 z)) (show (i : Int) - 1 = ((i - 1 : Nat) : Int) by omega)) ?_
              refine WL.step ?_
              refine WL.y (F := fun _ => True) (Yl.sliceSlTo (n := i - 1) F.sl23 rfl rfl (by omega)) rfl (fun _ _ => trivial) ?_
              refine WL.step ?_
              refine WL.assign rfl rfl ?_
              refine WA.chunks (fun w hS => (St.rowTake (St.pick hS (c := rowc (.slice (some ⟨g, 0, none⟩) i tc) i 3 1 ps) (by repeat (first | exact Rem.here | apply Rem.there))) hpos (k := i - 1) (by omega))) ?_
              refine WL.nil ?_
              refine WQ.then_normal ?_
              refine WC.seq ?_
              refine WC.region ?_
              refine WL.step ?_
              refine WL.move rfl rfl ?_
              refine WL.step ?_
              refine WL.ltI rfl rfl rfl ?_
              refine WL.nil ?_
              refine WQ.then_normal ?_
              refine WC.cond rfl (fun h111 => ?_) (fun h111 => ?_)
              · skip
                have hneg : last < 0 := by simpa using h111
                rw [if_pos hneg, List.append_assoc] at sol
                refine WC.seq ?_
                refine WC.region ?_
                refine WL.step ?_
                refine WL.move rfl rfl ?_
                refine WL.step ?_
                refine WL.move rfl rfl ?_
                refine WL.step ?_
                refine WL.negI rfl rfl (by omega) ?_
                refine WL.step ?_
                refine WL.buildSlice F.sl23 F.ez23 rfl rfl rfl rfl (by repeat (first | exact Built.nil | apply Built.one rfl rfl (by repeat constructor) | apply Built.agg rfl rfl (by repeat constructor))) rfl (fun b115 => ?_)
                refine WL.step ?_
                refine WL.appendE (news := [.int .i64 (-last)]) F.el23 rfl rfl rfl (by repeat (first | exact Rem.here | apply Rem.there)) (fun w hS j u hu => by rw [Nat.zero_add]; exact hS.cell (cs := [.int .i64 (-last)]) (by repeat (first | exact List.Mem.head _ | apply List.Mem.tail)) hu) rfl (by simp [Value.oneCell']) (Nat.le_trans (m := 1099511627776) (by omega) (by decide)) (by omega) (fun a6 c6 => ?_)
                refine WL.step ?_
                refine WL.assign rfl rfl ?_
                refine WL.nil ?_
                refine WQ.then_normal ?_
                refine WC.exit ?_
                refine WQ.block_other rfl ?_
                refine WQ.then_exit ?_
                refine WQ.block_other rfl ?_
                refine WQ.block_exit ?_
                refine WQ.chunks (C' := [pt b4 [.bool false, .int .u32 0, .slice none 0 0] 41, rowc (.slice a5 (nA + 1) c5) (nA + 1) 23 1 (hs ++ [Value.slice (some ⟨b72, 0, none⟩) i i]), rowc (.slice a4 (nP + 1) c4) (nP + 1) 23 1 (vs ++ [Value.slice (some ⟨b72, 0, none⟩) i i]), rowc (.slice a6 (i - 1 + 1) c6) (i - 1 + 1) 3 1 (ps.take (i - 1) ++ [.int .i64 (-last)]), stepsC (b72 :: Fb) (vs ++ [Value.slice (some ⟨b72, 0, none⟩) i i]) (ss ++ [(path.map (fun x => -x))])]) (fun w hS => ((St.pick (St.pick (St.pick (St.pick (St.pick hS (c := stepsC (b72 :: Fb) (vs ++ [Value.slice (some ⟨b72, 0, none⟩) i i]) (ss ++ [(path.map (fun x => -x))])) (by repeat (first | exact Rem.here | apply Rem.there))) (c := rowc (.slice a6 (i - 1 + 1) c6) (i - 1 + 1) 3 1 (ps.take (i - 1) ++ [.int .i64 (-last)])) (by repeat (first | exact Rem.here | apply Rem.there))) (c := rowc (.slice a4 (nP + 1) c4) (nP + 1) 23 1 (vs ++ [Value.slice (some ⟨b72, 0, none⟩) i i])) (by repeat (first | exact Rem.here | apply Rem.there))) (c := rowc (.slice a5 (nA + 1) c5) (nA + 1) 23 1 (hs ++ [Value.slice (some ⟨b72, 0, none⟩) i i])) (by repeat (first | exact Rem.here | apply Rem.there))) (c := pt b4 [.bool false, .int .u32 0, .slice none 0 0] 41) (by repeat (first | exact Rem.here | apply Rem.there)))).sublist (List.Sublist.cons_cons _ (List.Sublist.cons_cons _ (List.Sublist.cons_cons _ (List.Sublist.cons_cons _ (List.Sublist.cons_cons _ (List.nil_sublist _))))))) ?_
                refine WQ.back (⟨f, path.dropLast ++ [-last], ss ++ [(path.map (fun x => -x))], vs ++ [Value.slice (some ⟨b72, 0, none⟩) i i], hs ++ [Value.slice (some ⟨b72, 0, none⟩) i i], ps.take (i - 1) ++ [.int .i64 (-last)], b72 :: Fb, a5, a4, a6, c5, c4, c6, nA + 1, nP + 1, i - 1 + 1⟩) ?_ ?_ ?_ ?_
                · exact ⟨sol, by show hs ++ _ = us ++ (vs ++ _); rw [hhs, List.append_assoc], by show ps.take (i - 1) ++ _ = (path.dropLast ++ _).map _; rw [htk]; simp, by show nA + 1 = ls.length + (ss ++ [_]).length; rw [hA]; simp; omega, by show nP + 1 = (ss ++ [_]).length; rw [hP]; simp, by show i - 1 + 1 = (path.dropLast ++ [_]).length; simp; omega, by intro x hx; rcases List.mem_append.1 hx with hx | hx; exact hlit x ((List.dropLast_sublist path).subset hx); simp at hx; subst hx; exact ⟨by omega, by omega, by omega⟩, hslit5, hslen5, by show (path.dropLast ++ [_]).length + f ≤ _; simp; omega, hbs5⟩
                · dsimp only; omega
                · exact ⟨rfl, rfl, rfl, rfl, rfl, trivial⟩
                · rfl
              · skip
                have hneg : ¬ last < 0 := by simpa using h111
                rw [if_neg hneg, List.append_assoc] at sol
                refine WC.skip ?_
                refine WQ.block_normal ?_
                refine WQ.chunks (C' := [pt b4 [.bool false, .int .u32 0, .slice none 0 0] 41, rowc (.slice a5 (nA + 1) c5) (nA + 1) 23 1 (hs ++ [Value.slice (some ⟨b72, 0, none⟩) i i]), rowc (.slice a4 (nP + 1) c4) (nP + 1) 23 1 (vs ++ [Value.slice (some ⟨b72, 0, none⟩) i i]), rowc (.slice (some ⟨g, 0, none⟩) (i - 1) tc) (i - 1) 3 1 (ps.take (i - 1)), stepsC (b72 :: Fb) (vs ++ [Value.slice (some ⟨b72, 0, none⟩) i i]) (ss ++ [(path.map (fun x => -x))])]) (fun w hS => ((St.pick (St.pick (St.pick (St.pick (St.pick hS (c := stepsC (b72 :: Fb) (vs ++ [Value.slice (some ⟨b72, 0, none⟩) i i]) (ss ++ [(path.map (fun x => -x))])) (by repeat (first | exact Rem.here | apply Rem.there))) (c := rowc (.slice (some ⟨g, 0, none⟩) (i - 1) tc) (i - 1) 3 1 (ps.take (i - 1))) (by repeat (first | exact Rem.here | apply Rem.there))) (c := rowc (.slice a4 (nP + 1) c4) (nP + 1) 23 1 (vs ++ [Value.slice (some ⟨b72, 0, none⟩) i i])) (by repeat (first | exact Rem.here | apply Rem.there))) (c := rowc (.slice a5 (nA + 1) c5) (nA + 1) 23 1 (hs ++ [Value.slice (some ⟨b72, 0, none⟩) i i])) (by repeat (first | exact Rem.here | apply Rem.there))) (c := pt b4 [.bool false, .int .u32 0, .slice none 0 0] 41) (by repeat (first | exact Rem.here | apply Rem.there)))).sublist (List.Sublist.cons_cons _ (List.Sublist.cons_cons _ (List.Sublist.cons_cons _ (List.Sublist.cons_cons _ (List.Sublist.cons_cons _ (List.nil_sublist _))))))) ?_
                refine WQ.back (⟨f, path.dropLast, ss ++ [(path.map (fun x => -x))], vs ++ [Value.slice (some ⟨b72, 0, none⟩) i i], hs ++ [Value.slice (some ⟨b72, 0, none⟩) i i], ps.take (i - 1), b72 :: Fb, a5, a4, some ⟨g, 0, none⟩, c5, c4, tc, nA + 1, nP + 1, i - 1⟩) ?_ ?_ ?_ ?_
                · exact ⟨⟨sol, by show hs ++ _ = us ++ (vs ++ _); rw [hhs, List.append_assoc], by show ps.take (i - 1) = path.dropLast.map _; exact htk, by show nA + 1 = ls.length + (ss ++ [_]).length; rw [hA]; simp; omega, by show nP + 1 = (ss ++ [_]).length; rw [hP]; simp, by show i - 1 = path.dropLast.length; simp; omega, fun x hx => hlit x ((List.dropLast_sublist path).subset hx), hslit5, hslen5, by show path.dropLast.length + f ≤ _; simp; omega, hbs5⟩, by show f ≤ fo; omega⟩
                · exact Nat.lt_succ_self f
                · exact ⟨rfl, rfl, rfl, rfl, rfl, trivial⟩
                · rfl

end Go.Proofs.Ytkgllhkhdjodeaa

namespace Go.Eng
open Go Go.RowKit
section
variable {P : Program} {w0 : World} {O : List Nat} {ops : Array Oper} {Q : Exit → Act → World → Prop} {N : Nat} {D : List Deferred} {L : FL} {C : List Chunk} {K : Act → World → Prop}
variable {d : Nat} {ty : TypeId} {pos : String} {af : Array Edge}
theorem run_append_zero {t e : TypeId} {sz : Nat} (ht : P.underlying t = some (.slice e)) (hs : sizeB P e = some sz) {a0 a1 : Option Addr} {n cap c : Nat} (hn : n ≤ cap) (w : World) :
    (Builtin.append_ #[t, t] ty #[.slice a1 n cap, .slice a0 0 c]).run P w = .ok (.slice a1 n cap) w := by
  have hf : ∀ a : Option Addr, (Builtin.firstCells sz 0 (.slice a 0 c)).run P w = .ok #[] w := fun a => by
    cases a with
    | none => simp [Builtin.firstCells]
    | some a => simp [Builtin.firstCells, loadCells, loadCellsFrom]
  cases a1 with
  | none => simp [Builtin.append_, run_underlying ht, run_sizeOf hs, Builtin.lenOf, hn, hf]
  | some a1 => simp [Builtin.append_, run_underlying ht, run_sizeOf hs, Builtin.lenOf, hn, hf, storeCells]
/-- append of a slice, wherever it lies; of one of nothing, too. -/
theorem WL.appendC {s x : Operand} {t e : TypeId} {sz bytes : Nat} {v : Value} {n m c : Nat} {a0 : Option Addr} {xs news : List Value} {C1 : List Chunk} (hE : ElT P t e sz bytes) (hd : Nat.blt d N = true)
    (hs : ev L s = some v) (hx : ev L x = some (.slice a0 m c)) (hr : Rem (rowc v n e sz xs) C C1)
    (hnews : ∀ w, St w0 O C w → m ≠ 0 → ∃ bx ox, a0 = some ⟨bx, ox, none⟩ ∧ ∀ j u, news[j]? = some u → w.cell? ⟨bx, ox + j, none⟩ = some u) (hl : news.length = m * sz) (h1 : ∀ u ∈ news, u.oneCell' = true)
    (h63 : n + m ≤ maxLen) (hbytes : (n + m) * bytes ≤ 140737488355328)
    (h : ∀ a cap, WA w0 O K N D ((d, .slice a (n + m) cap) :: L) (rowc (.slice a (n + m) cap) (n + m) e sz (xs ++ news) :: C1)) :
    WK P w0 O ops Q ⟨some d, .call { callee := .builtin .append, args := #[s, x], argTypes := #[t, t] }, ty, pos, af, none⟩ K N D L C := by
  by_cases hm : m = 0
  · subst hm
    have hn0 : news = [] := List.eq_nil_of_length_eq_zero (by simpa using hl)
    subst hn0
    intro a w hF hS
    have hS1 := hS.perm hr.perm
    have hown : w.ownsRow 0 e sz v n xs := hS1.ok _ (List.mem_cons_self ..)
    obtain ⟨a', cap', rfl⟩ := ownsRow_slice hown
    have hle : n ≤ cap' := by
      rcases hown.2 with ⟨hv, h0⟩ | ⟨g, cp, cur, hv, _, _, hle, _⟩
      · injection hv with _ _ h2; omega
      · injection hv with _ _ h2; omega
    obtain ⟨i, z, h1', h2, h3, h4, h5⟩ := hE.row
    have hrun := run_append_zero (P := P) (ty := ty) (sz := sz) hE.und (by unfold sizeB; rw [h1']; simp [h3]) (a0 := a0) (a1 := a') (c := c) hle w
    have h' := h a' cap'
    simp only [Nat.add_zero, List.append_nil] at h'
    refine wpo_val rfl ?_ (h' _ w (hF.put d _ hd) hS1)
    simp only [execOp, resolve, invoke, builtin, Sem.run_bind, Sem.run_pure, Result.andThen_ok, List.map_toArray, List.map_cons, List.map_nil, hF.ev hs, hF.ev hx, hrun]
  · intro a w hF hS
    obtain ⟨bx, ox, rfl, _⟩ := hnews w hS hm
    exact WL.appendE hE hd hs hx hr (fun w hS => by
      obtain ⟨bx', ox', he, hc⟩ := hnews w hS hm
      injection he with he
      injection he with e1 e2
      subst e1; subst e2
      exact hc) hl h1 h63 hbytes h a w hF hS
/-- Rows of numbers of the holder's own: one row more, however it was made. -/
theorem St.stepsSnocR {w : World} {F : List Nat} {vs : List Value} {ss : List (List Int)} {a : Option Addr} {n cap : Nat} {c : List Int} {e : TypeId} (hn : n = c.length) (h : St w0 O (stepsC F vs ss :: rowc (.slice a n cap) n e 1 (c.map (Value.int .i64)) :: C) w) :
    ∃ F', St w0 O (stepsC F' (vs ++ [.slice a n cap]) (ss ++ [c]) :: C) w := by
  have hok : w.ownsRow 0 e 1 (.slice a n cap) n (c.map (Value.int .i64)) := h.ok (rowc (.slice a n cap) n e 1 (c.map (Value.int .i64))) (by simp)
  have hob : ∃ G : List Nat, (∀ k ∈ G, (rowc (.slice a n cap) n e 1 (c.map (Value.int .i64))).fp k) ∧ ∀ (j : Nat) (x : Int), c[j]? = some x → ∃ b, a = some ⟨b, 0, none⟩ ∧ b ∈ G ∧ w.cell? ⟨b, j, none⟩ = some (.int .i64 x) := by
    by_cases h0 : n = 0
    · refine ⟨[], by simp, fun j x hx => ?_⟩
      have := (List.getElem?_eq_some_iff.1 hx).1
      omega
    · obtain ⟨g, hg, _, _⟩ := rowc_addr (show (rowc (.slice a n cap) n e 1 (c.map (Value.int .i64))).ok w from hok) (by omega)
      subst hg
      exact ⟨[g], fun k hk => by simp at hk; subst hk; rfl, fun j x hx => ⟨g, rfl, by simp, rowc_cell hok (by simp [hx])⟩⟩
  obtain ⟨G, hG1, hG2⟩ := hob
  refine ⟨F ++ G, h.join (fun k hk => ?_) (fun hc hd _ => ?_)⟩
  · rcases List.mem_append.1 hk with hk | hk
    · exact .inl hk
    · exact .inr (hG1 k hk)
  · obtain ⟨h1, h2⟩ := hc
    refine ⟨by simp [h1], fun i c' u hc' hu => ?_⟩
    by_cases hi : i < ss.length
    · rw [List.getElem?_append_left hi] at hc'
      rw [List.getElem?_append_left (by omega)] at hu
      obtain ⟨a1, cap1, h3, h4⟩ := h2 i c' u hc' hu
      refine ⟨a1, cap1, h3, fun j x hx => ?_⟩
      obtain ⟨b, hb1, hb2, hb3⟩ := h4 j x hx
      exact ⟨b, hb1, List.mem_append_left _ hb2, hb3⟩
    · rw [List.getElem?_append_right (by omega)] at hc'
      rw [List.getElem?_append_right (by omega)] at hu
      have h0 : i - ss.length = 0 := by
        have := (List.getElem?_eq_some_iff.1 hc').1
        simp at this; omega
      rw [h0] at hc'
      rw [h1, h0] at hu
      simp at hc' hu
      subst hc'; subst hu
      refine ⟨a, cap, by rw [hn], fun j x hx => ?_⟩
      obtain ⟨b, hb1, hb2, hb3⟩ := hG2 j x hx
      exact ⟨b, hb1, List.mem_append_right _ hb2, hb3⟩
end
end Go.Eng
namespace Go.Proofs.Ytkgllhkhdjodeaa
open Go Go.Eng Go.Proofs
theorem RdC.of_row {w : World} {c : List Int} {a : Option Addr} {n cap : Nat} {e : TypeId} (hn : n = c.length) (h : (rowc (.slice a n cap) n e 1 (c.map (Value.int .i64))).ok w) : RdC w c a := fun j x hx => by
  have hlt := (List.getElem?_eq_some_iff.1 hx).1
  obtain ⟨g, hg, _, _⟩ := rowc_addr h (by omega)
  subst hg
  exact ⟨g, 0, rfl, by rw [Nat.zero_add]; exact rowc_cell h (by simp [hx])⟩
theorem RdC.news {w : World} {c : List Int} {a : Option Addr} (h : RdC w c a) (hc : c.length ≠ 0) : ∃ bx ox, a = some ⟨bx, ox, none⟩ ∧ ∀ j u, (c.map (Value.int .i64))[j]? = some u → w.cell? ⟨bx, ox + j, none⟩ = some u := by
  obtain ⟨x, hx⟩ : ∃ x, c[0]? = some x := ⟨c[0]'(by omega), List.getElem?_eq_getElem _⟩
  obtain ⟨b, off, ha, _⟩ := h 0 x hx
  refine ⟨b, off, ha, fun j u hu => ?_⟩
  rw [List.getElem?_map] at hu
  cases hj : c[j]? with
  | none => rw [hj] at hu; simp at hu
  | some y =>
    rw [hj] at hu; simp at hu; subst hu
    obtain ⟨b', off', ha', hc'⟩ := h j y hj
    rw [ha] at ha'
    injection ha' with ha'
    injection ha' with e1 e2
    subst e1; subst e2
    exact hc'
theorem ints_one (c : List Int) : ∀ u ∈ c.map (Value.int .i64), u.oneCell' = true := by
  intro u hu
  obtain ⟨x, _, rfl⟩ := List.mem_map.1 hu
  rfl
/-- The headers of clauses, as what is appended. -/
theorem RdLL.news {w : World} {ls : List (List Int)} {a : Option Addr} {us : List Value} (h : RdLL w ls a us) (hc : ls.length ≠ 0) : ∃ bx ox, a = some ⟨bx, ox, none⟩ ∧ ∀ j u, us[j]? = some u → w.cell? ⟨bx, ox + j, none⟩ = some u := by
  have hl := h.len
  obtain ⟨b, off, ha, _⟩ := h.hd 0 (us[0]'(by omega)) (List.getElem?_eq_getElem _)
  refine ⟨b, off, ha, fun j u hu => ?_⟩
  obtain ⟨b', off', ha', hc'⟩ := h.hd j u hu
  rw [ha] at ha'
  injection ha' with ha'
  injection ha' with e1 e2
  subst e1; subst e2
  exact hc'
theorem RdLL.one {w : World} {ls : List (List Int)} {a : Option Addr} {us : List Value} (h : RdLL w ls a us) : ∀ u ∈ us, u.oneCell' = true := by
  intro u hu
  obtain ⟨i, hi, he⟩ := List.getElem_of_mem hu
  have h1 : us[i]? = some u := by rw [List.getElem?_eq_getElem hi, he]
  have h2 : ls[i]? = some (ls[i]'(by rw [← h.len]; exact hi)) := List.getElem?_eq_getElem _
  obtain ⟨a1, c1, h3, _⟩ := h.rd i _ u h2 h1
  subst h3; rfl
/-- A row of headers, each of them readable. -/
theorem RdLL.of_row {w : World} {ls : List (List Int)} {aa : Option Addr} {hs : List Value} {n cap : Nat} (hn : n = ls.length) (hl : hs.length = ls.length) (h : (rowc (.slice aa n cap) n 23 1 hs).ok w)
    (hr : ∀ (i : Nat) (c : List Int) (u : Value), ls[i]? = some c → hs[i]? = some u → ∃ (a1 : Option Addr) (cap : Nat), u = Value.slice a1 c.length cap ∧ RdC w c a1) : RdLL w ls aa hs := by
  refine ⟨hl, fun i u hu => ?_, hr⟩
  have hlt := (List.getElem?_eq_some_iff.1 hu).1
  obtain ⟨g, hg, _, _⟩ := rowc_addr h (by omega)
  subst hg
  exact ⟨g, 0, rfl, by rw [Nat.zero_add]; exact rowc_cell h hu⟩
/-- Rows that the holder made. -/
theorem RdLL.made {w : World} {ls : List (List Int)} {aa : Option Addr} {vs : List Value} {F : List Nat} {n cap : Nat} (hn : n = ls.length) (h1 : (rowc (.slice aa n cap) n 23 1 vs).ok w) (h2 : (stepsC F vs ls).ok w) : RdLL w ls aa vs := by
  obtain ⟨hv1, hv2⟩ := (show vs.length = ls.length ∧ _ from h2)
  refine RdLL.of_row hn hv1 h1 fun i c u hc hu => ?_
  obtain ⟨a1, cap1, h3, h4⟩ := hv2 i c u hc hu
  refine ⟨a1, cap1, h3, fun j x hx => ?_⟩
  obtain ⟨b, hb1, _, hb3⟩ := h4 j x hx
  exact ⟨b, 0, hb1, by rw [Nat.zero_add]; exact hb3⟩
end Go.Proofs.Ytkgllhkhdjodeaa

namespace Go.Eng
open Go Go.RowKit
section
variable {P : Program} {w0 : World} {O : List Nat} {ops : Array Oper} {Q : Exit → Act → World → Prop} {N : Nat} {D : List Deferred} {L : FL} {C : List Chunk} {K : Act → World → Prop}
variable {d : Nat} {ty : TypeId} {pos : String} {af : Array Edge}
end
end Go.Eng

namespace Go.Eng
open Go Go.RowKit
section
variable {P : Program}
theorem run_shl1U {k : Nat} (hk : k < 32) (t : TypeId) (x y : Operand) (w : World) :
    (do eqGuard .shl t x y (.int .u32 1) (.int .u64 (k : Int)); binOp .shl t (.int .u32 1) (.int .u64 (k : Int)) : Sem Value).run P w = .ok (.int .u32 ((2 ^ k : Nat) : Int)) w := by
  have h1 : ¬ (k : Int) < 0 := by omega
  have h2 : min (k : Int).toNat 32 = k := by omega
  have h3 : 2 ^ k < 4294967296 := Nat.lt_of_lt_of_le (Nat.pow_lt_pow_right (by decide) hk) (by decide)
  have h4 := wrap_u32 h3
  simp only [eqGuard, binOp, Op.shift, IntKind.bits, h1, if_false, h2]
  simp only [Int.natCast_pow] at h4
  simp at h4
  simp [h4]
theorem run_shrU {a k : Nat} (hk : k < 32) (t : TypeId) (x y : Operand) (w : World) :
    (do eqGuard .shr t x y (.int .u32 (a : Int)) (.int .u64 (k : Int)); binOp .shr t (.int .u32 (a : Int)) (.int .u64 (k : Int)) : Sem Value).run P w = .ok (.int .u32 ((a >>> k : Nat) : Int)) w := by
  have h1 : ¬ (k : Int) < 0 := by omega
  have h2 : min (k : Int).toNat 32 = k := by omega
  simp only [eqGuard, binOp, Op.shift, IntKind.bits, h1, if_false, h2]
  have h5 : (a : Int).fdiv (2 ^ k) = ((a >>> k : Nat) : Int) := by
    rw [Nat.shiftRight_eq_div_pow, show ((2 : Int) ^ k) = ((2 ^ k : Nat) : Int) by simp, Int.fdiv_eq_ediv_of_nonneg _ (Int.natCast_nonneg _), Int.natCast_ediv]
  simp [h5]
theorem run_rem2 {a : Nat} (t : TypeId) (x y : Operand) (w : World) :
    (do eqGuard .rem t x y (.int .u32 (a : Int)) (.int .u32 2); binOp .rem t (.int .u32 (a : Int)) (.int .u32 2) : Sem Value).run P w = .ok (.int .u32 ((a % 2 : Nat) : Int)) w := by
  have h1 : (a : Int).tmod 2 = ((a % 2 : Nat) : Int) := by
    rw [Int.tmod_eq_emod_of_nonneg (Int.natCast_nonneg _)]; simp
  simp [eqGuard, binOp, Op.intDiv, h1]
theorem run_inc32 {a : Nat} (ha : a + 1 < 4294967296) (t : TypeId) (x y : Operand) (w : World) :
    (do eqGuard .add t x y (.int .u32 (a : Int)) (.int .u32 1); binOp .add t (.int .u32 (a : Int)) (.int .u32 1) : Sem Value).run P w = .ok (.int .u32 ((a + 1 : Nat) : Int)) w := by
  have h1 := wrap_u32 ha
  simp only [Int.natCast_add] at h1
  simp at h1
  simp [eqGuard, binOp, Op.intArith, h1]
end
end Go.Eng

/-
  Maps from strings to 'true' in memory.
-/
namespace Go.Eng
open Go Go.RowKit
def mpc (b : Nat) (ks : List (List UInt8)) : Chunk where
  fp k := k = b
  ok w := ∃ (es : Array MapEntry) (clock : Nat), w.heap[b]? = some (.map es clock) ∧ es.toList.map (fun e => (e.key, e.val)) = ks.map (fun s => (Value.string (str s), Value.bool true))
  loc w w' h := fun ⟨es, c, h1, h2⟩ => ⟨es, c, (h b rfl).trans h1, h2⟩
theorem St.allocObj {w0 w : World} {O : List Nat} {C : List Chunk} (h : St w0 O C w) (o : Obj) (c0 : Chunk) (hf : ∀ k, c0.fp k ↔ k = w.heap.size) (hok : c0.ok (w.alloc o)) : St w0 O (c0 :: C) (w.alloc o) := by
  have hh : ∀ k, k < w.heap.size → (w.alloc o).heap[k]? = w.heap[k]? := fun k hk => Below.heap_alloc w _ k hk
  refine ⟨h.os, h.tape, h.output, by have := h.size; simp; omega, fun k hk ho => ?_, ?_, ?_, ?_⟩
  · rw [hh k (Nat.lt_of_lt_of_le hk h.size)]; exact h.old k hk ho
  · intro c hc
    rcases List.mem_cons.1 hc with rfl | hc
    · exact hok
    · exact (h.ok c hc |> fun hok => c.loc w _ (fun k hk => hh k (h.bnd c hc k hk).1) hok)
  · intro c hc k hk
    rcases List.mem_cons.1 hc with rfl | hc
    · have : k = w.heap.size := (hf k).1 hk
      subst this
      exact ⟨by simp, fun hlt => absurd hlt (Nat.not_lt.2 h.size)⟩
    · exact ⟨by have := (h.bnd c hc k hk).1; simp; omega, (h.bnd c hc k hk).2⟩
  · refine List.Pairwise.cons (fun c hc k hk hk' => ?_) h.disj
    have : k = w.heap.size := (hf k).1 hk
    subst this
    exact Nat.lt_irrefl _ (h.bnd c hc _ hk').1
theorem St.setObj {w0 w : World} {O : List Nat} {C C' : List Chunk} {b : Nat} {c0 c1 : Chunk} {o : Obj} (h : St w0 O C w) (hu : Upd c0 c1 C C') (hf : ∀ k, c0.fp k ↔ k = b) (hf' : ∀ k, c1.fp k ↔ k = b) (hok : c1.ok { w with heap := w.heap.setIfInBounds b o }) :
    St w0 O C' { w with heap := w.heap.setIfInBounds b o } := by
  obtain ⟨R, p1, p2⟩ := hu.perm
  have h1 := h.perm p1
  refine St.perm ?_ p2.symm
  have hbO := (h1.bnd _ (List.mem_cons_self ..) b ((hf b).2 rfl))
  have hoth : ∀ k, k ≠ b → ({ w with heap := w.heap.setIfInBounds b o } : World).heap[k]? = w.heap[k]? := fun k hk => by
    show (w.heap.setIfInBounds b o)[k]? = _
    rw [Array.getElem?_setIfInBounds_ne (Ne.symm hk)]
  have hdis := List.pairwise_cons.1 h1.disj
  refine ⟨h.os, h.tape, h.output, by simpa using h.size, fun k hk ho => ?_, ?_, ?_, ?_⟩
  · by_cases hkb : k = b
    · subst hkb; exact absurd (hbO.2 hk) ho
    · rw [hoth k hkb]; exact h.old k hk ho
  · intro c hc
    rcases List.mem_cons.1 hc with rfl | hc
    · exact hok
    · refine c.loc w _ (fun k hk => hoth k (fun e => ?_)) (h1.ok c (List.mem_cons_of_mem _ hc))
      exact hdis.1 c hc k ((hf k).2 e) hk
  · intro c hc k hk
    rcases List.mem_cons.1 hc with rfl | hc
    · have : k = b := (hf' k).1 hk
      subst this
      exact ⟨by simpa using hbO.1, hbO.2⟩
    · simpa using h1.bnd c (List.mem_cons_of_mem _ hc) k hk
  · exact List.Pairwise.cons (fun c hc k hk hk' => hdis.1 c hc k ((hf k).2 ((hf' k).1 hk)) hk') hdis.2
section
variable {P : Program} {w0 : World} {O : List Nat} {ops : Array Oper} {Q : Exit → Act → World → Prop} {N : Nat} {D : List Deferred} {L : FL} {C : List Chunk} {K : Act → World → Prop}
variable {d : Nat} {ty : TypeId} {pos : String} {af : Array Edge}
theorem WL.makeMap {t : TypeId} (hd : Nat.blt d N = true) (h : ∀ b, WA w0 O K N D ((d, .map (some b)) :: L) (mpc b [] :: C)) :
    WK P w0 O ops Q ⟨some d, .makeMap t none, ty, pos, af, none⟩ K N D L C := fun a w hF hS => by
  refine wpo_val rfl ?_ (h w.heap.size _ (w.alloc (.map #[] 0)) (hF.put d _ hd) (hS.allocObj _ (mpc w.heap.size []) (fun k => Iff.rfl) ⟨#[], 0, by show (w.heap.push _)[w.heap.size]? = _; simp, rfl⟩))
  have hr := run_makeMap_plain (P := P) (w := w) t
  simp only [execOp, Option.map_none, Sem.run_bind, hr, Result.andThen_ok, Sem.run_pure]
end
end Go.Eng

/-
  Maps in memory, as functions from keys.
-/
namespace Go.Eng
open Go Go.RowKit
def kidx {κ : Type} [DecidableEq κ] : List (κ × Value) → κ → Nat → Option (Nat × Value)
  | [], _, _ => none
  | p :: r, k, i => if p.1 = k then some (i, p.2) else kidx r k (i + 1)
def kfind {κ : Type} [DecidableEq κ] : List (κ × Value) → κ → Option Value
  | [], _ => none
  | p :: r, k => if p.1 = k then some p.2 else kfind r k
theorem kidx_none {κ : Type} [DecidableEq κ] : ∀ {kvs : List (κ × Value)} {k : κ} {i : Nat}, kidx kvs k i = none ↔ kfind kvs k = none
  | [], _, _ => by simp [kidx, kfind]
  | p :: r, k, i => by
    unfold kidx kfind
    split
    · simp
    · exact kidx_none
theorem kidx_some {κ : Type} [DecidableEq κ] : ∀ {kvs : List (κ × Value)} {k : κ} {i j : Nat} {v : Value}, kidx kvs k i = some (j, v) → i ≤ j ∧ kvs[j - i]? = some (k, v) ∧ kfind kvs k = some v ∧ ∀ v' k', kfind (kvs.set (j - i) (k, v')) k' = if k' = k then some v' else kfind kvs k'
  | [], _, _, _, _, h => by simp [kidx] at h
  | p :: r, k, i, j, v, h => by
    unfold kidx at h
    by_cases hp : p.1 = k
    · rw [if_pos hp] at h
      simp only [Option.some.injEq, Prod.mk.injEq] at h
      obtain ⟨rfl, rfl⟩ := h
      subst hp
      refine ⟨Nat.le_refl _, by simp, by simp [kfind], fun v' k' => ?_⟩
      simp only [Nat.sub_self, List.set_cons_zero, kfind]
      by_cases hk : k' = p.1
      · simp [hk]
      · simp [hk, Ne.symm hk]
    · rw [if_neg hp] at h
      obtain ⟨h1, h2, h3, h4⟩ := kidx_some h
      have e : j - i = (j - (i + 1)) + 1 := by omega
      refine ⟨by omega, by rw [e]; simpa using h2, by simp [kfind, hp, h3], fun v' k' => ?_⟩
      rw [e, List.set_cons_succ]
      simp only [kfind]
      by_cases hk : p.1 = k'
      · rw [if_pos hk, if_pos hk, if_neg (fun e => hp (hk.trans e))]
      · rw [if_neg hk, if_neg hk]; exact h4 v' k'
theorem kfind_snoc {κ : Type} [DecidableEq κ] : ∀ {kvs : List (κ × Value)} {k : κ} {v : Value}, kfind kvs k = none → ∀ k', kfind (kvs ++ [(k, v)]) k' = if k' = k then some v else kfind kvs k'
  | [], k, v, _, k' => by
    simp only [List.nil_append, kfind]
    by_cases h : k' = k
    · simp [h]
    · simp [h, Ne.symm h]
  | p :: r, k, v, h, k' => by
    unfold kfind at h
    by_cases hp : p.1 = k
    · rw [if_pos hp] at h; cases h
    · rw [if_neg hp] at h
      simp only [List.cons_append, kfind]
      by_cases hk : p.1 = k'
      · rw [if_pos hk, if_pos hk, if_neg (fun e => hp (hk.trans e))]
      · rw [if_neg hk, if_neg hk]; exact kfind_snoc h k'
/-- Keys of a type, as values of κ. -/
structure KeyT (P : Program) (kt : TypeId) {κ : Type} [DecidableEq κ] (enc : κ → Value) : Prop where
  check : ∀ e w k, (Instr.checkKey e 10000 kt (enc k)).run P w = .ok () w
  find : ∀ w k (es : List MapEntry) (kvs : List (κ × Value)), es.map (fun e => (e.key, e.val)) = kvs.map (fun p => (enc p.1, p.2)) → (Instr.findKey kt (enc k) es).run P w = .ok (kidx kvs k 0) w
  stays : ∀ w k, (Instr.keyThatStays (enc k) (enc k)).run P w = .ok (enc k) w
def mpg {κ : Type} [DecidableEq κ] (enc : κ → Value) (b : Nat) (f : κ → Option Value) : Chunk where
  fp k := k = b
  ok w := ∃ (es : Array MapEntry) (clock : Nat) (kvs : List (κ × Value)), w.heap[b]? = some (.map es clock) ∧ es.toList.map (fun e => (e.key, e.val)) = kvs.map (fun p => (enc p.1, p.2)) ∧ ∀ k, f k = kfind kvs k
  loc w w' h := fun ⟨es, c, kvs, h1, h2⟩ => ⟨es, c, kvs, (h b rfl).trans h1, h2⟩
theorem map_modify_set {α β : Type} (f : α → β) (g : α → α) : ∀ (l : List α) (j : Nat) (a : α), l[j]? = some a → (l.modify j g).map f = (l.map f).set j (f (g a))
  | [], j, a, h => by simp at h
  | x :: r, 0, a, h => by simp at h; subst h; simp
  | x :: r, j + 1, a, h => by
    simp only [List.getElem?_cons_succ] at h
    simp [map_modify_set f g r j a h]
section
variable {P : Program} {w0 : World} {O : List Nat} {ops : Array Oper} {Q : Exit → Act → World → Prop} {N : Nat} {D : List Deferred} {L : FL} {C : List Chunk} {K : Act → World → Prop}
variable {d : Nat} {ty : TypeId} {pos : String} {af : Array Edge}
variable {κ : Type} [DecidableEq κ] {enc : κ → Value} {kt : TypeId}
theorem WL.makeMapG (enc : κ → Value) {t : TypeId} (hd : Nat.blt d N = true) (h : ∀ b, WA w0 O K N D ((d, .map (some b)) :: L) (mpg enc b (fun _ => none) :: C)) :
    WK P w0 O ops Q ⟨some d, .makeMap t none, ty, pos, af, none⟩ K N D L C := fun a w hF hS => by
  refine wpo_val rfl ?_ (h w.heap.size _ (w.alloc (.map #[] 0)) (hF.put d _ hd) (hS.allocObj _ (mpg enc w.heap.size (fun _ => none)) (fun k => Iff.rfl) ⟨#[], 0, [], by show (w.heap.push _)[w.heap.size]? = _; simp, rfl, fun _ => rfl⟩))
  have hr := run_makeMap_plain (P := P) (w := w) t
  simp only [execOp, Option.map_none, Sem.run_bind, hr, Result.andThen_ok, Sem.run_pure]
theorem run_lookupG {t et : TypeId} {b : Nat} {k : κ} {f : κ → Option Value} {z : Value} (hm : P.underlying t = some (.map kt et)) (hk : KeyT P kt enc) (hz : ∀ w, (zeroValue et).run P w = .ok z w) {w : World} (hok : (mpg enc b f).ok w) (cm : Bool) :
    (Instr.lookup t (.map (some b)) (enc k) cm).run P w = .ok (bif cm then .tuple #[(f k).getD z, .bool (f k).isSome] else (f k).getD z) w := by
  obtain ⟨es, clock, kvs, h1, h2, h3⟩ := hok
  have hf := hk.find w k es.toList kvs h2
  cases hh : kidx kvs k 0 with
  | none =>
    have hn : f k = none := by rw [h3, kidx_none.1 hh]
    rw [hh] at hf
    cases cm <;> simp [Instr.lookup, run_underlying hm, MapKept.run_getObj_map h1, hk.check, hf, Result.andThen, hz, hn]
  | some p =>
    obtain ⟨j, v⟩ := p
    have hn : f k = some v := by rw [h3, (kidx_some hh).2.2.1]
    rw [hh] at hf
    cases cm <;> simp [Instr.lookup, run_underlying hm, MapKept.run_getObj_map h1, hk.check, hf, Result.andThen, hn]
theorem WL.lookupG {t et : TypeId} {x y : Operand} {b : Nat} {f : κ → Option Value} {z vy : Value} {cm : Bool} (k : κ) (hm : P.underlying t = some (.map kt et)) (hk : KeyT P kt enc) (hz : ∀ w, (zeroValue et).run P w = .ok z w) (hd : Nat.blt d N = true)
    (hx : ev L x = some (.map (some b))) (hy : ev L y = some vy) (hvy : vy = enc k) (hmem : mpg enc b f ∈ C) (h : WA w0 O K N D ((d, bif cm then .tuple #[(f k).getD z, .bool (f k).isSome] else (f k).getD z) :: L) C) :
    WK P w0 O ops Q ⟨some d, .lookup t x y cm, ty, pos, af, none⟩ K N D L C := fun a w hF hS => by
  subst hvy
  refine wpo_val rfl ?_ (h _ w (hF.put d _ hd) hS)
  simp only [execOp, hF.ev hx, hF.ev hy, Sem.run_bind, run_lookupG hm hk hz (hS.ok _ hmem), Result.andThen_ok, Sem.run_pure]
/-- A comma-ok look-up that finds; one that does not. -/
theorem WL.lookupHit {t et : TypeId} {x y : Operand} {b : Nat} {f : κ → Option Value} {z v vy : Value} (k : κ) (hm : P.underlying t = some (.map kt et)) (hk : KeyT P kt enc) (hz : ∀ w, (zeroValue et).run P w = .ok z w) (hd : Nat.blt d N = true)
    (hx : ev L x = some (.map (some b))) (hy : ev L y = some vy) (hvy : vy = enc k) (hmem : mpg enc b f ∈ C) (hf : f k = some v) (h : WA w0 O K N D ((d, .tuple [v, .bool true].toArray) :: L) C) :
    WK P w0 O ops Q ⟨some d, .lookup t x y true, ty, pos, af, none⟩ K N D L C := WL.lookupG k hm hk hz hd hx hy hvy hmem (by rw [hf]; exact h)
theorem WL.lookupMiss {t et : TypeId} {x y : Operand} {b : Nat} {f : κ → Option Value} {z vy : Value} (k : κ) (hm : P.underlying t = some (.map kt et)) (hk : KeyT P kt enc) (hz : ∀ w, (zeroValue et).run P w = .ok z w) (hd : Nat.blt d N = true)
    (hx : ev L x = some (.map (some b))) (hy : ev L y = some vy) (hvy : vy = enc k) (hmem : mpg enc b f ∈ C) (hf : f k = none) (h : WA w0 O K N D ((d, .tuple [z, .bool false].toArray) :: L) C) :
    WK P w0 O ops Q ⟨some d, .lookup t x y true, ty, pos, af, none⟩ K N D L C := WL.lookupG k hm hk hz hd hx hy hvy hmem (by rw [hf]; exact h)
theorem WL.mapPutG {t et : TypeId} {x y z : Operand} {b : Nat} {f : κ → Option Value} {vy v : Value} {C' : List Chunk} (k : κ) (hm : P.underlying t = some (.map kt et)) (hk : KeyT P kt enc)
    (hx : ev L x = some (.map (some b))) (hy : ev L y = some vy) (hvy : vy = enc k) (hz : ev L z = some v) (hu : Upd (mpg enc b f) (mpg enc b (fun q => if q = k then some v else f q)) C C') (h : WA w0 O K N D L C') :
    WK P w0 O ops Q ⟨none, .mapUpdate t x y z, ty, pos, af, none⟩ K N D L C := fun a w hF hS => by
  subst hvy
  obtain ⟨es, clock, kvs, h1, h2, h3⟩ := hS.ok _ hu.mem
  have hb : b < w.heap.size := ((hS.bnd _ hu.mem) b rfl).1
  have hf := hk.find w k es.toList kvs h2
  cases hh : kidx kvs k 0 with
  | none =>
    rw [hh] at hf
    have hr : (Instr.mapUpdate t (.map (some b)) (enc k) v).run P w = .ok () { w with heap := w.heap.setIfInBounds b (.map (es.push { key := enc k, val := v, born := clock }) (clock + 1)) } := by
      simp [Instr.mapUpdate, run_underlying hm, MapKept.run_getObj_map h1, hk.check, hf, MapKept.run_setObj_map _ h1, Result.andThen]
    refine wpo_skip rfl (w' := { w with heap := w.heap.setIfInBounds b (.map (es.push { key := enc k, val := v, born := clock }) (clock + 1)) }) ?_ (h _ _ hF (hS.setObj hu (fun k => Iff.rfl) (fun k => Iff.rfl) ⟨es.push { key := enc k, val := v, born := clock }, clock + 1, kvs ++ [(k, v)], ?_, ?_, ?_⟩))
    · simp [execOp, hF.ev hx, hF.ev hy, hF.ev hz, hr]
    · show (w.heap.setIfInBounds b _)[b]? = _
      rw [Array.getElem?_setIfInBounds_self_of_lt hb]
    · simp [h2]
    · intro q
      rw [kfind_snoc (kidx_none.1 hh) q]
      simp only [h3]
  | some p =>
    obtain ⟨j, u⟩ := p
    rw [hh] at hf
    obtain ⟨_, g2, g3, g4⟩ := kidx_some hh
    simp only [Nat.sub_zero] at g2 g4
    have hlen : es.toList.length = kvs.length := by have := congrArg List.length h2; simpa using this
    have hjl : j < es.toList.length := by rw [hlen]; exact (List.getElem?_eq_some_iff.1 g2).1
    have hej : es.toList[j]? = some es.toList[j] := List.getElem?_eq_getElem hjl
    have hkey : es.toList[j].key = enc k := by
      have e1 : (es.toList.map (fun e => (e.key, e.val)))[j]? = some (es.toList[j].key, es.toList[j].val) := by rw [List.getElem?_map, hej]; rfl
      rw [h2, List.getElem?_map, g2] at e1
      simp only [Option.map_some, Option.some.injEq, Prod.mk.injEq] at e1
      exact e1.1.symm
    have hej' : es[j]? = some es.toList[j] := by rw [← Array.getElem?_toList]; exact hej
    have hkey2 := hkey
    simp only [Array.getElem_toList] at hkey2
    have hr : (Instr.mapUpdate t (.map (some b)) (enc k) v).run P w = .ok () { w with heap := w.heap.setIfInBounds b (.map (es.modify j fun e => { e with key := enc k, val := v }) clock) } := by
      simp [Instr.mapUpdate, run_underlying hm, MapKept.run_getObj_map h1, hk.check, hf, MapKept.run_setObj_map _ h1, Result.andThen, hej', hkey, hkey2, hk.stays]
    refine wpo_skip rfl (w' := { w with heap := w.heap.setIfInBounds b (.map (es.modify j fun e => { e with key := enc k, val := v }) clock) }) ?_ (h _ _ hF (hS.setObj hu (fun k => Iff.rfl) (fun k => Iff.rfl) ⟨es.modify j fun e => { e with key := enc k, val := v }, clock, kvs.set j (k, v), ?_, ?_, ?_⟩))
    · simp [execOp, hF.ev hx, hF.ev hy, hF.ev hz, hr]
    · show (w.heap.setIfInBounds b _)[b]? = _
      rw [Array.getElem?_setIfInBounds_self_of_lt hb]
    · rw [Array.toList_modify, map_modify_set _ _ _ _ _ hej, h2, List.map_set]
    · intro q
      rw [g4 v q]
      simp only [h3]
end
/-! ### keys: numbers, pairs and triples of numbers -/
def encI (n : Nat) : Value := .int .i64 (n : Int)
def enc2 (p : Nat × Nat) : Value := .agg #[.int .i64 (p.1 : Int), .int .i64 (p.2 : Int)]
def enc3 (p : Nat × Nat × Nat) : Value := .agg #[.int .i64 (p.1 : Int), .int .i64 (p.2.1 : Int), .int .i64 (p.2.2 : Int)]
section
variable {P : Program} {kt : TypeId} {κ : Type} [DecidableEq κ] {enc : κ → Value}
theorem findNow_kidx {d : TypeDesc} (hs : ∀ a b : κ, Instr.sameNow d (enc a) (enc b) = some (decide (b = a))) (k : κ) : ∀ (es : List MapEntry) (kvs : List (κ × Value)) (i : Nat), es.map (fun e => (e.key, e.val)) = kvs.map (fun p => (enc p.1, p.2)) → Instr.findNow d (enc k) es i = some (kidx kvs k i)
  | [], [], _, _ => rfl
  | [], p :: r, _, h => by simp at h
  | e :: es, [], _, h => by simp at h
  | e :: es, p :: r, i, h => by
    simp only [List.map_cons, List.cons.injEq, Prod.mk.injEq] at h
    obtain ⟨⟨h1, h2⟩, h3⟩ := h
    unfold Instr.findNow kidx
    rw [h1, hs k p.1, h2]
    by_cases hp : p.1 = k
    · simp [hp]
    · simp only [hp, decide_false, if_false]
      exact findNow_kidx hs k es r (i + 1) h3
theorem findAsking_kidx {w : World} (hs : ∀ a b : κ, (Op.equal kt (enc a) (enc b)).run P w = .ok (decide (b = a)) w) (k : κ) : ∀ (es : List MapEntry) (kvs : List (κ × Value)) (i : Nat), es.map (fun e => (e.key, e.val)) = kvs.map (fun p => (enc p.1, p.2)) → (Instr.findAsking kt (enc k) es i).run P w = .ok (kidx kvs k i) w
  | [], [], _, _ => by simp [Instr.findAsking, kidx]
  | [], p :: r, _, h => by simp at h
  | e :: es, [], _, h => by simp at h
  | e :: es, p :: r, i, h => by
    simp only [List.map_cons, List.cons.injEq, Prod.mk.injEq] at h
    obtain ⟨⟨h1, h2⟩, h3⟩ := h
    unfold Instr.findAsking kidx
    simp only [Sem.run_bind, h1, hs k p.1, Result.andThen_ok, h2]
    by_cases hp : p.1 = k
    · simp [hp]
    · simp only [hp, decide_false, if_false, Bool.false_eq_true]
      exact findAsking_kidx hs k es r (i + 1) h3
theorem KeyT.nat (hu : P.underlying kt = some (.int .i64)) : KeyT P kt encI where
  check e w k := by unfold encI; exact MapKept.run_checkKey hu (by simp [MapKept.IsKey]) e 9999
  find w k es kvs h := MapKept.run_findKey hu (findNow_kidx (d := .int .i64) (fun a b => by
    simp only [Instr.sameNow, encI, if_pos, Option.some.injEq]
    rw [Bool.eq_iff_iff]; simp; omega) k es kvs 0 h)
  stays w k := MapKept.run_keyThatStays (d := .int .i64) (by simp [MapKept.IsKey, encI])
end
end Go.Eng

namespace Go.Eng
open Go Go.RowKit
section
variable {P : Program} {w0 : World} {O : List Nat} {Q : Exit → Act → World → Prop} {N : Nat} {D : List Deferred} {L : FL} {C : List Chunk}
/-- A part of the code by itself, with what it made. -/
theorem WC.cutPE {c : Code} {α : Type} (M : α → FL) (C' : α → List Chunk) (hq : NoLook Q) (hx : ∀ Q', NoLook Q' → (∀ x, WQ w0 O Q' .normal N D (M x) (C' x)) → WC P w0 O c Q' N D L C) (hy : ∀ x, WQ w0 O Q .normal N D (M x) (C' x)) : WC P w0 O c Q N D L C := hx Q hq hy
end
section
variable {ops : Array Oper} {Fs : List (List Nat × (World → Prop))}
/-- Which operations wait, at once or at length, for the i-th: in one pass. -/
def fwd (i : Nat) : List Oper → List Bool → List Bool
  | [], acc => acc
  | o :: os, acc => fwd i os (acc ++ [o.after.any fun e => Region.binds .any e && (e.on == i || acc.getD e.on false)])
def allIn (l : List Bool) (ds : List Nat) : Bool := ds.all fun j => l.getD j false
end
end Go.Eng

/-
  Bundles of chunks; map look-ups in regions that draw.
-/
namespace Go.Eng
open Go Go.RowKit Go.Proofs.Ytkgllhkhdjodeaa
/-- Chunks as one, some of whose parameters are forgotten. -/
def bun (F : List Nat) {α : Type} (Cs : α → List Chunk) (φ : α → Prop) : Chunk where
  fp k := k ∈ F
  ok w := ∃ x, φ x ∧ (∀ c ∈ Cs x, c.ok w) ∧ (Cs x).Pairwise (fun (c d : Chunk) => ∀ k : Nat, c.fp k → ¬ d.fp k) ∧ (∀ c ∈ Cs x, ∀ k, c.fp k → k ∈ F) ∧ ∀ k ∈ F, ∃ c ∈ Cs x, c.fp k
  loc w w' h := fun ⟨x, h1, h2, h3, h4, h5⟩ => ⟨x, h1, fun c hc => c.loc w w' (fun k hk => h k (h4 c hc k hk)) (h2 c hc), h3, h4, h5⟩
section
variable {P : Program} {w0 : World} {O : List Nat} {ops : Array Oper} {Q : Exit → Act → World → Prop} {N : Nat} {D : List Deferred} {L : FL} {C : List Chunk} {K : Act → World → Prop}
variable {d : Nat} {ty : TypeId} {pos : String} {af : Array Edge}
theorem St.bunOpen {w : World} {F : List Nat} {α : Type} {Cs : α → List Chunk} {φ : α → Prop} (h : St w0 O (bun F Cs φ :: C) w) : ∃ x, φ x ∧ (∀ c ∈ Cs x, ∀ k, c.fp k → k ∈ F) ∧ (∀ k ∈ F, ∃ c ∈ Cs x, c.fp k) ∧ St w0 O (Cs x ++ C) w := by
  obtain ⟨x, h1, h2, h3, h4, h5⟩ := h.ok _ (List.mem_cons_self ..)
  have hd := List.pairwise_cons.1 h.disj
  refine ⟨x, h1, h4, h5, h.os, h.tape, h.output, h.size, h.old, fun c hc => ?_, fun c hc k hk => ?_, List.pairwise_append.2 ⟨h3, hd.2, fun c hc d hd' k hk hk' => hd.1 d hd' k (h4 c hc k hk) hk'⟩⟩
  · rcases List.mem_append.1 hc with hc | hc
    · exact h2 c hc
    · exact h.ok c (List.mem_cons_of_mem _ hc)
  · rcases List.mem_append.1 hc with hc | hc
    · exact h.bnd _ (List.mem_cons_self ..) k (h4 c hc k hk)
    · exact h.bnd c (List.mem_cons_of_mem _ hc) k hk
theorem St.bunClose {w : World} {F : List Nat} {α : Type} {Cs : α → List Chunk} {φ : α → Prop} (x : α) (hφ : φ x) (h4 : ∀ c ∈ Cs x, ∀ k, c.fp k → k ∈ F) (h5 : ∀ k ∈ F, ∃ c ∈ Cs x, c.fp k) (h : St w0 O (Cs x ++ C) w) : St w0 O (bun F Cs φ :: C) w := by
  have hd := List.pairwise_append.1 h.disj
  refine ⟨h.os, h.tape, h.output, h.size, h.old, fun c hc => ?_, fun c hc k hk => ?_, List.Pairwise.cons (fun c hc k hk hk' => ?_) hd.2.1⟩
  · rcases List.mem_cons.1 hc with rfl | hc
    · exact ⟨x, hφ, fun c hc => h.ok c (List.mem_append_left _ hc), hd.1, h4, h5⟩
    · exact h.ok c (List.mem_append_right _ hc)
  · rcases List.mem_cons.1 hc with rfl | hc
    · obtain ⟨c', hc', hk'⟩ := h5 k hk
      exact h.bnd c' (List.mem_append_left _ hc') k hk'
    · exact h.bnd c (List.mem_append_right _ hc) k hk
  · obtain ⟨c', hc', hk2⟩ := h5 k hk
    exact hd.2.2 c' hc' c hc k hk2 hk'
theorem bun_O1 {F : List Nat} {α : Type} {Cs : α → List Chunk} {φ : α → Prop} : ∀ c ∈ [bun F Cs φ], ∀ k, c.fp k → k ∈ F := by
  intro c hc k hk
  simp only [List.mem_singleton] at hc
  subst hc; exact hk
theorem bun_O2 {F : List Nat} {α : Type} {Cs : α → List Chunk} {φ : α → Prop} : ∀ k ∈ F, ∃ c ∈ [bun F Cs φ], c.fp k := fun k hk => ⟨_, List.mem_singleton.2 rfl, hk⟩
/-- A footprint as a list. -/
def FpIs (c : Chunk) (F : List Nat) : Prop := ∀ k, c.fp k ↔ k ∈ F
theorem FpIs.pt {b : Nat} {cs : List Value} {e : TypeId} : FpIs (pt b cs e) [b] := fun k => by
  show k = b ↔ _
  simp
theorem FpIs.mpg {κ : Type} [DecidableEq κ] {enc : κ → Value} {b : Nat} {f : κ → Option Value} : FpIs (mpg enc b f) [b] := fun k => by
  show k = b ↔ _
  simp
theorem FpIs.rowc {v : Value} {n : Nat} {e : TypeId} {sz : Nat} {xs : List Value} : FpIs (rowc v n e sz xs) (ob v) := fun k => by
  rw [mem_ob]; rfl
theorem FpIs.bun {F : List Nat} {α : Type} {Cs : α → List Chunk} {φ : α → Prop} : FpIs (bun F Cs φ) F := fun k => Iff.rfl
inductive FpL : List Chunk → List Nat → Prop
  | nil : FpL [] []
  | cons {c F Cs Fs} : FpIs c F → FpL Cs Fs → FpL (c :: Cs) (F ++ Fs)
theorem FpL.one {Cs : List Chunk} {F : List Nat} (h : FpL Cs F) : ∀ c ∈ Cs, ∀ k, c.fp k → k ∈ F := by
  induction h with
  | nil => intro c hc; cases hc
  | cons h1 h2 ih =>
    intro c hc k hk
    rcases List.mem_cons.1 hc with rfl | hc
    · exact List.mem_append_left _ ((h1 k).1 hk)
    · exact List.mem_append_right _ (ih c hc k hk)
theorem FpL.two {Cs : List Chunk} {F : List Nat} (h : FpL Cs F) : ∀ k ∈ F, ∃ c ∈ Cs, c.fp k := by
  induction h with
  | nil => intro k hk; cases hk
  | cons h1 h2 ih =>
    intro k hk
    rcases List.mem_append.1 hk with hk | hk
    · exact ⟨_, List.mem_cons_self .., (h1 k).2 hk⟩
    · obtain ⟨c, hc, hk⟩ := ih k hk
      exact ⟨c, List.mem_cons_of_mem _ hc, hk⟩
theorem St.bunClose' {w : World} {F : List Nat} {α : Type} {Cs : α → List Chunk} {φ : α → Prop} (x : α) (hφ : φ x) (hF : FpL (Cs x) F) (h : St w0 O (Cs x ++ C) w) : St w0 O (bun F Cs φ :: C) w := h.bunClose x hφ hF.one hF.two
/-- The blocks of chunks lie where the caller may turn them: other old blocks stay. -/
theorem St.apart {w : World} {C1 : List Chunk} {F : List Nat} (h : St w0 O (C ++ C1) w) (h2 : ∀ k ∈ F, ∃ c ∈ C, c.fp k) {z : Nat} (hz : z < w0.heap.size) (hO : z ∉ O) : z ∉ F := fun hk => by
  obtain ⟨c, hc, hf⟩ := h2 z hk
  exact hO ((h.bnd c (List.mem_append_left _ hc) z hf).2 hz)
/-! ### look-ups that only read -/
variable {κ : Type} [DecidableEq κ] {enc : κ → Value} {kt : TypeId}
theorem Yl.lookupG {t et : TypeId} {x y : Operand} {b : Nat} {f : κ → Option Value} {z vy v : Value} {cm : Bool} (k : κ) (hm : P.underlying t = some (.map kt et)) (hk : KeyT P kt enc) (hz : ∀ w, (zeroValue et).run P w = .ok z w)
    (hx : ev L x = some (.map (some b))) (hy : ev L y = some vy) (hvy : vy = enc k) (hv : v = bif cm then .tuple #[(f k).getD z, .bool (f k).isSome] else (f k).getD z) : Yl P N D L (fun w => (mpg enc b f).ok w) ⟨some d, .lookup t x y cm, ty, pos, af, none⟩ v := fun a w hF hok => by
  subst hvy; subst hv
  simp only [execOp, hF.ev hx, hF.ev hy, Sem.run_bind, run_lookupG hm hk hz hok, Result.andThen_ok, Sem.run_pure]
theorem Yl.lookupHit {t et : TypeId} {x y : Operand} {b : Nat} {f : κ → Option Value} {z vy v : Value} (k : κ) (hm : P.underlying t = some (.map kt et)) (hk : KeyT P kt enc) (hz : ∀ w, (zeroValue et).run P w = .ok z w)
    (hx : ev L x = some (.map (some b))) (hy : ev L y = some vy) (hvy : vy = enc k) (hf : f k = some v) : Yl P N D L (fun w => (mpg enc b f).ok w) ⟨some d, .lookup t x y true, ty, pos, af, none⟩ (.tuple [v, .bool true].toArray) := Yl.lookupG k hm hk hz hx hy hvy (by rw [hf]; rfl)
theorem Yl.lookupMiss {t et : TypeId} {x y : Operand} {b : Nat} {f : κ → Option Value} {z vy : Value} (k : κ) (hm : P.underlying t = some (.map kt et)) (hk : KeyT P kt enc) (hz : ∀ w, (zeroValue et).run P w = .ok z w)
    (hx : ev L x = some (.map (some b))) (hy : ev L y = some vy) (hvy : vy = enc k) (hf : f k = none) : Yl P N D L (fun w => (mpg enc b f).ok w) ⟨some d, .lookup t x y true, ty, pos, af, none⟩ (.tuple [z, .bool false].toArray) := Yl.lookupG k hm hk hz hx hy hvy (by rw [hf]; rfl)
theorem LoadOk.map {b : Nat} {f : κ → Option Value} (hm : mpg enc b f ∈ C) : LoadOk w0 O L C (fun w => (mpg enc b f).ok w) := fun w hS => hS.ok _ hm
end
/-! ### keys that are structs or arrays of numbers -/
section
variable {P : Program} {kt : TypeId}
structure IntF (P : Program) (f : Field) (off : Nat) : Prop where
  name : f.name ≠ "_"
  offset : f.offset = off
  plain : P.plainKey f.type = true
  int : P.underlying f.type = some (.int .i64)
def intFB (P : Program) (f : Field) (off : Nat) : Bool := f.name != "_" && f.offset == off && P.plainKey f.type && (match P.underlying f.type with | some (.int .i64) => true | _ => false)
theorem IntF.of {f : Field} {off : Nat} (h : intFB P f off = true) : IntF P f off := by
  unfold intFB at h
  simp only [Bool.and_eq_true, bne_iff_ne, beq_iff_eq] at h
  refine ⟨h.1.1.1, h.1.1.2, h.1.2, ?_⟩
  have h2 := h.2
  split at h2
  · assumption
  · cases h2
theorem run_equal_int {t : TypeId} (hu : P.underlying t = some (.int .i64)) (d : Nat) (a b : Int) (w : World) : (Op.equalIn (d + 1) t (.int .i64 a) (.int .i64 b)).run P w = .ok (a == b) w := by
  simp [Op.equalIn, run_underlying hu]
theorem KeyT.three {f0 f1 f2 : Field} (hu : P.underlying kt = some (.struct #[f0, f1, f2])) (h0 : IntF P f0 0) (h1 : IntF P f1 1) (h2 : IntF P f2 2) (hs : P.stoodInHeld kt = false) : KeyT P kt enc3 where
  check e w k := by
    unfold enc3
    show (Instr.checkKey e (9998 + 1 + 1) kt _).run P w = _
    rw [Instr.checkKey]
    simp only [Sem.run_bind, run_underlying hu, Result.andThen_ok]
    rw [← Array.forIn_toList]
    have p0 := run_part_plain w h0.plain (xs := #[.int .i64 (k.1 : Int), .int .i64 (k.2.1 : Int), .int .i64 (k.2.2 : Int)]) (off := 0) (v := .int .i64 (k.1 : Int)) rfl
    have p1 := run_part_plain w h1.plain (xs := #[.int .i64 (k.1 : Int), .int .i64 (k.2.1 : Int), .int .i64 (k.2.2 : Int)]) (off := 1) (v := .int .i64 (k.2.1 : Int)) rfl
    have p2 := run_part_plain w h2.plain (xs := #[.int .i64 (k.1 : Int), .int .i64 (k.2.1 : Int), .int .i64 (k.2.2 : Int)]) (off := 2) (v := .int .i64 (k.2.2 : Int)) rfl
    have c0 := MapKept.run_checkKey (w := w) h0.int (k := .int .i64 (k.1 : Int)) (by simp [MapKept.IsKey]) e 9998
    have c1 := MapKept.run_checkKey (w := w) h1.int (k := .int .i64 (k.2.1 : Int)) (by simp [MapKept.IsKey]) e 9998
    have c2 := MapKept.run_checkKey (w := w) h2.int (k := .int .i64 (k.2.2 : Int)) (by simp [MapKept.IsKey]) e 9998
    simp only [List.forIn_cons, List.forIn_nil, h0.name, h1.name, h2.name, h0.offset, h1.offset, h2.offset, ne_eq, not_false_eq_true, if_true, Sem.run_bind, Sem.run_pure, p0, p1, p2, c0, c1, c2, Result.andThen_ok]
  find w k es kvs h := by
    rw [run_findKey_eq w (by rw [hu])]
    refine findAsking_kidx (fun a b => ?_) k es kvs 0 h
    obtain ⟨a1, a2, a3⟩ := a
    obtain ⟨b1, b2, b3⟩ := b
    unfold enc3
    simp only
    show (Op.equalIn (9998 + 1 + 1) kt _ _).run P w = _
    rw [Op.equalIn]
    simp only [Sem.run_bind, run_underlying hu, Result.andThen_ok]
    have p0 := run_part_plain w h0.plain (xs := #[.int .i64 (a1 : Int), .int .i64 (a2 : Int), .int .i64 (a3 : Int)]) (off := 0) (v := .int .i64 (a1 : Int)) rfl
    have p1 := run_part_plain w h1.plain (xs := #[.int .i64 (a1 : Int), .int .i64 (a2 : Int), .int .i64 (a3 : Int)]) (off := 1) (v := .int .i64 (a2 : Int)) rfl
    have p2 := run_part_plain w h2.plain (xs := #[.int .i64 (a1 : Int), .int .i64 (a2 : Int), .int .i64 (a3 : Int)]) (off := 2) (v := .int .i64 (a3 : Int)) rfl
    have q0 := run_part_plain w h0.plain (xs := #[.int .i64 (b1 : Int), .int .i64 (b2 : Int), .int .i64 (b3 : Int)]) (off := 0) (v := .int .i64 (b1 : Int)) rfl
    have q1 := run_part_plain w h1.plain (xs := #[.int .i64 (b1 : Int), .int .i64 (b2 : Int), .int .i64 (b3 : Int)]) (off := 1) (v := .int .i64 (b2 : Int)) rfl
    have q2 := run_part_plain w h2.plain (xs := #[.int .i64 (b1 : Int), .int .i64 (b2 : Int), .int .i64 (b3 : Int)]) (off := 2) (v := .int .i64 (b3 : Int)) rfl
    have e0 := run_equal_int h0.int 9998 (a1 : Int) (b1 : Int) w
    have e1 := run_equal_int h1.int 9998 (a2 : Int) (b2 : Int) w
    have e2 := run_equal_int h2.int 9998 (a3 : Int) (b3 : Int) w
    simp only [run_program, Sem.run_bind, Result.andThen_ok, hs, Bool.false_eq_true, if_false]
    rw [← Array.forIn_toList]
    simp only [List.forIn_cons, List.forIn_nil, h0.name, h1.name, h2.name, h0.offset, h1.offset, h2.offset, ne_eq, not_false_eq_true, if_true, Sem.run_bind, p0, q0, e0, Result.andThen_ok]
    cases c0 : ((a1 : Int) == (b1 : Int)) with
    | false =>
      have : ¬ ((b1, b2, b3) = (a1, a2, a3)) := by
        simp only [beq_eq_false_iff_ne, ne_eq] at c0
        simp only [Prod.mk.injEq]; omega
      simp [this]
    | true =>
      simp only [Bool.not_true, Bool.false_eq_true, if_false, Sem.run_bind, Sem.run_pure, Result.andThen_ok, p1, q1, e1]
      cases c1 : ((a2 : Int) == (b2 : Int)) with
      | false =>
        have : ¬ ((b1, b2, b3) = (a1, a2, a3)) := by
          simp only [beq_eq_false_iff_ne, ne_eq] at c1
          simp only [Prod.mk.injEq]; omega
        simp [this]
      | true =>
        simp only [Bool.not_true, Bool.false_eq_true, if_false, Sem.run_bind, Sem.run_pure, Result.andThen_ok, p2, q2, e2]
        cases c2 : ((a3 : Int) == (b3 : Int)) with
        | false =>
          have : ¬ ((b1, b2, b3) = (a1, a2, a3)) := by
            simp only [beq_eq_false_iff_ne, ne_eq] at c2
            simp only [Prod.mk.injEq]; omega
          simp [this]
        | true =>
          have : (b1, b2, b3) = (a1, a2, a3) := by
            simp only [beq_iff_eq] at c0 c1 c2
            simp only [Prod.mk.injEq]; omega
          simp [this]
  stays w k := by
    have : Instr.sameBits 10000 (enc3 k) (enc3 k) = true := by
      unfold enc3
      show Instr.sameBits (9999 + 1) _ _ = true
      simp [Instr.sameBits]
    simp [Instr.keyThatStays, this]
def threeB (P : Program) (kt : TypeId) : Bool := match P.underlying kt with
  | some (.struct fs) => (match fs with
    | ⟨[f0, f1, f2]⟩ => intFB P f0 0 && intFB P f1 1 && intFB P f2 2 && !P.stoodInHeld kt
    | _ => false)
  | _ => false
theorem KeyT.threeOf (h : threeB P kt = true) : KeyT P kt enc3 := by
  unfold threeB at h
  split at h
  · rename_i fs hu
    split at h
    · rename_i f0 f1 f2
      simp only [Bool.and_eq_true, Bool.not_eq_true'] at h
      exact KeyT.three hu (IntF.of h.1.1.1) (IntF.of h.1.1.2) (IntF.of h.1.2) h.2
    · cases h
  · cases h
theorem KeyT.two {e : TypeId} {i : TypeInfo} (hu : P.underlying kt = some (.array 2 e)) (he : P.underlying e = some (.int .i64)) (hp : P.plainKey e = true) (hi : P.info? e = some i) (hc : P.cellsOf e = 1) : KeyT P kt enc2 where
  check em w k := by
    unfold enc2
    show (Instr.checkKey em (9998 + 1 + 1) kt _).run P w = _
    rw [Instr.checkKey]
    have p0 := run_part_plain w hp (xs := #[.int .i64 (k.1 : Int), .int .i64 (k.2 : Int)]) (off := 0) (v := .int .i64 (k.1 : Int)) rfl
    have p1 := run_part_plain w hp (xs := #[.int .i64 (k.1 : Int), .int .i64 (k.2 : Int)]) (off := 1) (v := .int .i64 (k.2 : Int)) rfl
    simp only [Sem.run_bind, run_underlying hu, Result.andThen_ok]
    have hsz := Go.run_sizeOf w hi
    rw [hc] at hsz
    simp only [Std.Legacy.Range.forIn_eq_forIn_range', Std.Legacy.Range.size, Nat.sub_zero, Nat.add_one_sub_one, Nat.div_one]
    rw [show List.range' 0 2 = [0, 1] from rfl]
    have c0 := MapKept.run_checkKey (w := w) he (k := .int .i64 (k.1 : Int)) (by simp [MapKept.IsKey]) em 9998
    have c1 := MapKept.run_checkKey (w := w) he (k := .int .i64 (k.2 : Int)) (by simp [MapKept.IsKey]) em 9998
    simp only [List.forIn_cons, List.forIn_nil, Sem.run_bind, hsz, Result.andThen_ok, Nat.zero_mul, Nat.one_mul, p0, p1, c0, c1, Sem.run_pure]
  find w k es kvs h := by
    rw [run_findKey_eq w (by rw [hu])]
    refine findAsking_kidx (fun a b => ?_) k es kvs 0 h
    obtain ⟨a1, a2⟩ := a
    obtain ⟨b1, b2⟩ := b
    unfold enc2
    simp only
    show (Op.equalIn (9998 + 1 + 1) kt _ _).run P w = _
    have p0 := run_part_plain w hp (xs := #[.int .i64 (a1 : Int), .int .i64 (a2 : Int)]) (off := 0) (v := .int .i64 (a1 : Int)) rfl
    have p1 := run_part_plain w hp (xs := #[.int .i64 (a1 : Int), .int .i64 (a2 : Int)]) (off := 1) (v := .int .i64 (a2 : Int)) rfl
    have q0 := run_part_plain w hp (xs := #[.int .i64 (b1 : Int), .int .i64 (b2 : Int)]) (off := 0) (v := .int .i64 (b1 : Int)) rfl
    have q1 := run_part_plain w hp (xs := #[.int .i64 (b1 : Int), .int .i64 (b2 : Int)]) (off := 1) (v := .int .i64 (b2 : Int)) rfl
    have e0 := run_equal_int he 9998 (a1 : Int) (b1 : Int) w
    have e1 := run_equal_int he 9998 (a2 : Int) (b2 : Int) w
    rw [run_equalIn_array w _ _ _ hu hi, hc]
    show (Op.eqItems _ _ _ _ _ [0, 1]).run P w = _
    simp only [Op.eqItems, Sem.run_bind, Nat.zero_mul, Nat.one_mul, p0, p1, q0, q1, e0, e1, Result.andThen_ok]
    cases c0 : ((a1 : Int) == (b1 : Int)) with
    | false =>
      have : ¬ ((b1, b2) = (a1, a2)) := by
        simp only [beq_eq_false_iff_ne, ne_eq] at c0
        simp only [Prod.mk.injEq]; omega
      simp [this]
    | true =>
      simp only [Bool.not_true, Bool.false_eq_true, if_false, Sem.run_bind, Sem.run_pure, Result.andThen_ok, p1, q1, e1]
      cases c1 : ((a2 : Int) == (b2 : Int)) with
      | false =>
        have : ¬ ((b1, b2) = (a1, a2)) := by
          simp only [beq_eq_false_iff_ne, ne_eq] at c1
          simp only [Prod.mk.injEq]; omega
        simp [this]
      | true =>
        have : (b1, b2) = (a1, a2) := by
          simp only [beq_iff_eq] at c0 c1
          simp only [Prod.mk.injEq]; omega
        simp [this]
  stays w k := by
    have : Instr.sameBits 10000 (enc2 k) (enc2 k) = true := by
      unfold enc2
      show Instr.sameBits (9999 + 1) _ _ = true
      simp [Instr.sameBits]
    simp [Instr.keyThatStays, this]
def twoB (P : Program) (kt : TypeId) : Bool := match P.underlying kt with
  | some (.array 2 e) => P.plainKey e && P.cellsOf e == 1 && (match P.underlying e with | some (.int .i64) => true | _ => false) && (P.info? e).isSome
  | _ => false
theorem KeyT.twoOf (h : twoB P kt = true) : KeyT P kt enc2 := by
  unfold twoB at h
  split at h
  · rename_i e hu
    simp only [Bool.and_eq_true, beq_iff_eq] at h
    have h2 := h.1.2
    split at h2
    · rename_i he
      obtain ⟨i, hi⟩ := Option.isSome_iff_exists.1 h.2
      exact KeyT.two hu he h.1.1.1 hi h.1.1.2
    · cases h2
  · cases h
end
end Go.Eng

/-! Ordered reduced decision trees, and lists of nodes that share them. -/
namespace Dg
theorem snocInd {α : Type} {motive : List α → Prop} (nil : motive []) (append_singleton : ∀ l x, motive l → motive (l ++ [x])) (l : List α) : motive l := by
  have h : ∀ m : List α, motive m.reverse := by
    intro m
    induction m with
    | nil => exact nil
    | cons x m ih => rw [List.reverse_cons]; exact append_singleton _ _ ih
  have := h l.reverse
  rwa [List.reverse_reverse] at this
inductive BT where
  | lf (b : Bool)
  | nd (v : Nat) (lo hi : BT)
def BT.beq : BT → BT → Bool
  | .lf a, .lf b => a == b
  | .nd v a b, .nd u c d => v == u && BT.beq a c && BT.beq b d
  | _, _ => false
theorem BT.beq_iff : ∀ {s t : BT}, BT.beq s t = true ↔ s = t
  | .lf a, .lf b => by simp [BT.beq]
  | .nd v a b, .nd u c d => by
    simp only [BT.beq, Bool.and_eq_true, BT.beq_iff (s := a), BT.beq_iff (s := b), beq_iff_eq, BT.nd.injEq, and_assoc]
  | .lf a, .nd u c d => by simp [BT.beq]
  | .nd v a b, .lf c => by simp [BT.beq]
theorem BT.beq_self (t : BT) : BT.beq t t = true := BT.beq_iff.2 rfl
abbrev Cf := Nat → Bool
def BT.ev : BT → Cf → Bool
  | .lf b, _ => b
  | .nd v lo hi, c => bif c v then hi.ev c else lo.ev c
/-- Ordered from m on, reduced, below 24. -/
def BT.ok : Nat → BT → Prop
  | _, .lf _ => True
  | m, .nd v lo hi => m ≤ v ∧ v < 24 ∧ lo ≠ hi ∧ lo.ok (v + 1) ∧ hi.ok (v + 1)
theorem BT.ok_mono : ∀ {t : BT} {m n : Nat}, t.ok n → m ≤ n → t.ok m
  | .lf _, _, _, _, _ => trivial
  | .nd v lo hi, m, n, h, hm => ⟨Nat.le_trans hm h.1, h.2⟩
def BT.size : BT → Nat
  | .lf _ => 0
  | .nd _ lo hi => lo.size + hi.size + 1
theorem BT.size_le : ∀ {t : BT} {m : Nat}, t.ok m → m ≤ 24 → t.size + 1 ≤ 2 ^ (24 - m)
  | .lf _, m, _, _ => Nat.one_le_two_pow
  | .nd v lo hi, m, h, hm => by
    obtain ⟨h1, h2, _, h4, h5⟩ := h
    have a := BT.size_le h4 (by omega)
    have b := BT.size_le h5 (by omega)
    have e : 2 ^ (24 - v) = 2 ^ (24 - (v + 1)) + 2 ^ (24 - (v + 1)) := by
      rw [show 24 - v = (24 - (v + 1)) + 1 by omega, Nat.pow_succ]; omega
    have l : 2 ^ (24 - v) ≤ 2 ^ (24 - m) := Nat.pow_le_pow_right (by decide) (by omega)
    simp only [BT.size]; omega
/-- What is above m alone decides. -/
theorem BT.ev_above : ∀ {t : BT} {m : Nat} {c d : Cf}, t.ok m → (∀ i, m ≤ i → i < 24 → c i = d i) → t.ev c = t.ev d
  | .lf _, _, _, _, _, _ => rfl
  | .nd v lo hi, m, c, d, h, he => by
    obtain ⟨h1, h2, _, h4, h5⟩ := h
    have a := BT.ev_above h4 (fun i hi h24 => he i (by omega) h24)
    have b := BT.ev_above h5 (fun i hi h24 => he i (by omega) h24)
    simp only [BT.ev, he v h1 h2, a, b]
def upd (c : Cf) (v : Nat) (b : Bool) : Cf := fun i => if i = v then b else c i
theorem upd_self (c : Cf) (v : Nat) (b : Bool) : upd c v b v = b := if_pos rfl
theorem upd_ne (c : Cf) {v i : Nat} (b : Bool) (h : i ≠ v) : upd c v b i = c i := if_neg h
theorem BT.ev_upd {t : BT} {m v : Nat} (h : t.ok m) (hv : v < m) (c : Cf) (b : Bool) : t.ev (upd c v b) = t.ev c :=
  BT.ev_above h (fun i hi _ => upd_ne _ _ (by omega))
theorem BT.ev_lo {v : Nat} {lo hi : BT} {m : Nat} (h : (BT.nd v lo hi).ok m) (c : Cf) : (BT.nd v lo hi).ev (upd c v false) = lo.ev c := by
  simp only [BT.ev, upd_self, cond_false]
  exact BT.ev_upd h.2.2.2.1 (Nat.lt_succ_self _) c false
theorem BT.ev_hi {v : Nat} {lo hi : BT} {m : Nat} (h : (BT.nd v lo hi).ok m) (c : Cf) : (BT.nd v lo hi).ev (upd c v true) = hi.ev c := by
  simp only [BT.ev, upd_self, cond_true]
  exact BT.ev_upd h.2.2.2.2 (Nat.lt_succ_self _) c true
/-- A reduced tree is the only one of its function. -/
theorem BT.unique : ∀ {s t : BT} {m n : Nat}, s.ok m → t.ok n → (∀ c, s.ev c = t.ev c) → s = t
  | .lf a, .lf b, _, _, _, _, he => by have := he (fun _ => false); simp only [BT.ev] at this; rw [this]
  | .lf a, .nd u c d, m, n, hs, ht, he => by
    refine absurd ?_ ht.2.2.1
    refine BT.unique ht.2.2.2.1 ht.2.2.2.2 (fun x => ?_)
    rw [← BT.ev_lo ht x, ← BT.ev_hi ht x, ← he, ← he]; rfl
  | .nd u c d, .lf a, m, n, hs, ht, he => by
    refine absurd ?_ hs.2.2.1
    refine BT.unique hs.2.2.2.1 hs.2.2.2.2 (fun x => ?_)
    rw [← BT.ev_lo hs x, ← BT.ev_hi hs x, he, he]; rfl
  | .nd v a b, .nd u c d, m, n, hs, ht, he => by
    rcases Nat.lt_trichotomy v u with h | h | h
    · refine absurd ?_ hs.2.2.1
      refine BT.unique hs.2.2.2.1 hs.2.2.2.2 (fun x => ?_)
      have ht' : (BT.nd u c d).ok (v + 1) := BT.ok_mono (m := v + 1) (n := u) ⟨Nat.le_refl _, ht.2⟩ h
      rw [← BT.ev_lo hs x, ← BT.ev_hi hs x, he, he, BT.ev_upd ht' (Nat.lt_succ_self _), BT.ev_upd ht' (Nat.lt_succ_self _)]
    · subst h
      have h1 : a = c := BT.unique hs.2.2.2.1 ht.2.2.2.1 (fun x => by rw [← BT.ev_lo hs x, ← BT.ev_lo ht x, he])
      have h2 : b = d := BT.unique hs.2.2.2.2 ht.2.2.2.2 (fun x => by rw [← BT.ev_hi hs x, ← BT.ev_hi ht x, he])
      rw [h1, h2]
    · refine absurd ?_ ht.2.2.1
      refine BT.unique ht.2.2.2.1 ht.2.2.2.2 (fun x => ?_)
      have hs' : (BT.nd v a b).ok (u + 1) := BT.ok_mono (m := u + 1) (n := v) ⟨Nat.le_refl _, hs.2⟩ h
      rw [← BT.ev_lo ht x, ← BT.ev_hi ht x, ← he, ← he, BT.ev_upd hs' (Nat.lt_succ_self _), BT.ev_upd hs' (Nat.lt_succ_self _)]
termination_by s t => s.size + t.size
decreasing_by all_goals simp only [BT.size]; omega
def mkN (v : Nat) (a b : BT) : BT := bif BT.beq a b then a else .nd v a b
theorem mkN_same (v : Nat) (a : BT) : mkN v a a = a := by simp [mkN, BT.beq_self]
theorem mkN_ne {v : Nat} {a b : BT} (h : a ≠ b) : mkN v a b = .nd v a b := by
  have : BT.beq a b = false := by
    cases hb : BT.beq a b with
    | true => exact absurd (BT.beq_iff.1 hb) h
    | false => rfl
  simp [mkN, this]
theorem mkN_ok {v m : Nat} {a b : BT} (hm : m ≤ v) (hv : v < 24) (ha : a.ok (v + 1)) (hb : b.ok (v + 1)) : (mkN v a b).ok m := by
  by_cases h : a = b
  · subst h; rw [mkN_same]; exact BT.ok_mono ha (by omega)
  · rw [mkN_ne h]; exact ⟨hm, hv, h, ha, hb⟩
theorem mkN_ev (v : Nat) (a b : BT) (c : Cf) : (mkN v a b).ev c = bif c v then b.ev c else a.ev c := by
  by_cases h : a = b
  · subst h; rw [mkN_same]; cases c v <;> rfl
  · rw [mkN_ne h]; rfl

/-! ### lists of nodes: variable, low place, high place -/
abbrev Dec := Nat × Nat × Nat
theorem getD_left {α : Type} {a b : List α} {d : α} {n : Nat} (h : n < a.length) : (a ++ b).getD n d = a.getD n d := by
  simp [List.getD, List.getElem?_append_left h]
theorem getD_right {α : Type} {a b : List α} {d : α} {n : Nat} (h : a.length ≤ n) : (a ++ b).getD n d = b.getD (n - a.length) d := by
  simp [List.getD, List.getElem?_append_right h]
def tabT (l : List Dec) : List BT := l.foldl (fun out x => out ++ [.nd x.1 (out.getD x.2.1 (.lf false)) (out.getD x.2.2 (.lf false))]) [.lf false, .lf true]
def trs (l : List Dec) (p : Nat) : BT := (tabT l).getD p (.lf false)
theorem tabT_snoc (l : List Dec) (x : Dec) : tabT (l ++ [x]) = tabT l ++ [.nd x.1 (trs l x.2.1) (trs l x.2.2)] := by
  simp only [tabT, trs, List.foldl_append, List.foldl_cons, List.foldl_nil]
theorem tabT_len : ∀ l : List Dec, (tabT l).length = l.length + 2 := by
  intro l
  induction l using snocInd with
  | nil => rfl
  | append_singleton l x ih => rw [tabT_snoc, List.length_append, ih]; simp
theorem trs_zero (l : List Dec) : trs l 0 = .lf false ∧ trs l 1 = .lf true := by
  induction l using snocInd with
  | nil => exact ⟨rfl, rfl⟩
  | append_singleton l x ih =>
    have := tabT_len l
    unfold trs at ih ⊢
    rw [tabT_snoc, getD_left (by omega), getD_left (by omega)]
    exact ih
theorem trs_snoc_old {l : List Dec} {x : Dec} {p : Nat} (h : p < l.length + 2) : trs (l ++ [x]) p = trs l p := by
  unfold trs; rw [tabT_snoc, getD_left (by rw [tabT_len]; exact h)]
theorem trs_snoc_new (l : List Dec) (x : Dec) : trs (l ++ [x]) (l.length + 2) = .nd x.1 (trs l x.2.1) (trs l x.2.2) := by
  conv => lhs; unfold trs
  rw [tabT_snoc, getD_right (by rw [tabT_len]; exact Nat.le_refl _), tabT_len]
  simp
theorem trs_append {l m : List Dec} {p : Nat} (h : p < l.length + 2) : trs (l ++ m) p = trs l p := by
  induction m using snocInd with
  | nil => rw [List.append_nil]
  | append_singleton m x ih => rw [← List.append_assoc, trs_snoc_old (by rw [List.length_append]; omega), ih]
/-- A maker's list. -/
structure Mk (l : List Dec) : Prop where
  kid : ∀ k x, l[k]? = some x → x.1 < 24 ∧ x.2.1 < k + 2 ∧ x.2.2 < k + 2 ∧ x.2.1 ≠ x.2.2
  nodup : l.Nodup
theorem Mk.nil : Mk [] := ⟨by simp, List.nodup_nil⟩
theorem Mk.init {l : List Dec} {x : Dec} (h : Mk (l ++ [x])) : Mk l :=
  ⟨fun k y hy => h.kid k y (by rw [List.getElem?_append_left (List.getElem?_eq_some_iff.1 hy).1]; exact hy), (List.nodup_append.1 h.nodup).1⟩
theorem Mk.last {l : List Dec} {x : Dec} (h : Mk (l ++ [x])) : x.1 < 24 ∧ x.2.1 < l.length + 2 ∧ x.2.2 < l.length + 2 ∧ x.2.1 ≠ x.2.2 := h.kid l.length x (by simp)
theorem Mk.snoc {l : List Dec} {x : Dec} (h : Mk l) (hx : x.1 < 24 ∧ x.2.1 < l.length + 2 ∧ x.2.2 < l.length + 2 ∧ x.2.1 ≠ x.2.2) (hn : x ∉ l) : Mk (l ++ [x]) := by
  refine ⟨fun k y hy => ?_, List.nodup_append.2 ⟨h.nodup, by simp, fun a ha b hb => ?_⟩⟩
  · by_cases hk : k < l.length
    · rw [List.getElem?_append_left hk] at hy; exact h.kid k y hy
    · have hlt := (List.getElem?_eq_some_iff.1 hy).1
      simp at hlt
      have e : k = l.length := by omega
      subst e
      simp at hy
      subst hy; exact hx
  · simp only [List.mem_singleton] at hb
    subst hb
    exact fun e => hn (e ▸ ha)
/-- The node at a place. -/
theorem Mk.at {l : List Dec} : Mk l → ∀ {k : Nat} {x : Dec}, l[k]? = some x → trs l (k + 2) = .nd x.1 (trs l x.2.1) (trs l x.2.2) := by
  induction l using snocInd with
  | nil => intro _ k x h; simp at h
  | append_singleton l y ih =>
    intro h k x hx
    by_cases hk : k < l.length
    · rw [List.getElem?_append_left hk] at hx
      have hb := h.init.kid k x hx
      rw [trs_snoc_old (by omega), trs_snoc_old (by omega), trs_snoc_old (by omega)]
      exact ih h.init hx
    · have hlt := (List.getElem?_eq_some_iff.1 hx).1
      simp at hlt
      have e : k = l.length := by omega
      subst e
      simp at hx
      subst hx
      have hb := h.last
      rw [trs_snoc_new, trs_snoc_old hb.2.1, trs_snoc_old hb.2.2.1]
theorem Mk.lf {l : List Dec} (h : Mk l) {p : Nat} {b : Bool} (hp : p < l.length + 2) (he : trs l p = .lf b) : p < 2 := by
  rcases Nat.lt_or_ge p 2 with h2 | h2
  · exact h2
  · obtain ⟨k, rfl⟩ : ∃ k, p = k + 2 := ⟨p - 2, by omega⟩
    have hk : k < l.length := by omega
    rw [h.at (List.getElem?_eq_getElem hk)] at he
    cases he
theorem Mk.inj {l : List Dec} : Mk l → ∀ {p q : Nat}, p < l.length + 2 → q < l.length + 2 → trs l p = trs l q → p = q := by
  induction l using snocInd with
  | nil =>
    intro _ p q hp hq he
    simp at hp hq
    have h0 := (trs_zero ([] : List Dec)).1
    have h1 := (trs_zero ([] : List Dec)).2
    rcases p with _ | _ | p <;> rcases q with _ | _ | q <;> first | rfl | omega | skip
    · rw [h0, h1] at he; simp at he
    · rw [h0, h1] at he; simp at he
  | append_singleton l y ih =>
    intro h p q hp hq he
    have hlast := h.last
    have key : ∀ p, p < l.length + 2 → trs (l ++ [y]) p ≠ trs (l ++ [y]) (l.length + 2) := by
      intro p hp he
      rw [trs_snoc_old hp, trs_snoc_new] at he
      rcases Nat.lt_or_ge p 2 with h2 | h2
      · rcases p with _ | _ | p
        · rw [(trs_zero l).1] at he; cases he
        · rw [(trs_zero l).2] at he; cases he
        · omega
      · obtain ⟨k, rfl⟩ : ∃ k, p = k + 2 := ⟨p - 2, by omega⟩
        have hk : k < l.length := by omega
        have hx := List.getElem?_eq_getElem hk
        have hb := h.init.kid k _ hx
        rw [h.init.at hx] at he
        simp only [BT.nd.injEq] at he
        obtain ⟨e1, e2, e3⟩ := he
        have e2' := ih h.init (by omega) (by omega) e2
        have e3' := ih h.init (by omega) (by omega) e3
        have e : l[k] = y := Prod.ext e1 (Prod.ext e2' e3')
        have := (List.nodup_append.1 h.nodup).2.2 l[k] (List.getElem_mem hk) y (by simp)
        exact this e
    simp only [List.length_append, List.length_cons, List.length_nil] at hp hq
    rcases Nat.lt_or_ge p (l.length + 2) with hp' | hp' <;> rcases Nat.lt_or_ge q (l.length + 2) with hq' | hq'
    · rw [trs_snoc_old hp', trs_snoc_old hq'] at he
      exact ih h.init hp' hq' he
    · have e : q = l.length + 2 := by omega
      subst e
      exact absurd he (key p hp')
    · have e : p = l.length + 2 := by omega
      subst e
      exact absurd he.symm (key q hq')
    · omega
/-! ### the list of a tree: the nodes in the order in which a walk leaves them -/
def look (out : List Dec) (t : BT) : Option Nat := (List.range (out.length + 2)).find? fun p => BT.beq (trs out p) t
theorem look_some {out : List Dec} {t : BT} {p : Nat} (h : look out t = some p) : p < out.length + 2 ∧ trs out p = t := by
  unfold look at h
  have h1 := List.mem_of_find?_eq_some h
  have h2 := List.find?_some h
  exact ⟨List.mem_range.1 h1, BT.beq_iff.1 h2⟩
theorem look_none {out : List Dec} {t : BT} (h : look out t = none) : ∀ p, p < out.length + 2 → trs out p ≠ t := by
  unfold look at h
  intro p hp he
  have := List.find?_eq_none.1 h p (List.mem_range.2 hp)
  simp [he, BT.beq_self] at this
theorem look_eq {out : List Dec} (hm : Mk out) {t : BT} {p : Nat} (hp : p < out.length + 2) (he : trs out p = t) : look out t = some p := by
  cases h : look out t with
  | none => exact absurd he (look_none h p hp)
  | some q =>
    obtain ⟨h1, h2⟩ := look_some h
    rw [hm.inj h1 hp (h2.trans he.symm)]
def visitT : BT → List Dec → List Dec × Nat
  | .lf b, out => (out, bif b then 1 else 0)
  | .nd v lo hi, out => match look out (.nd v lo hi) with
    | some p => (out, p)
    | none => ((visitT hi (visitT lo out).1).1 ++ [(v, (visitT lo out).2, (visitT hi (visitT lo out).1).2)], (visitT hi (visitT lo out).1).1.length + 2)
def canon (t : BT) : List Dec × Nat := visitT t []
theorem visitT_pre : ∀ (t : BT) (out : List Dec), ∃ r, (visitT t out).1 = out ++ r
  | .lf b, out => ⟨[], by simp [visitT]⟩
  | .nd v lo hi, out => by
    unfold visitT
    cases look out (.nd v lo hi) with
    | some p => exact ⟨[], by simp⟩
    | none =>
      obtain ⟨r1, h1⟩ := visitT_pre lo out
      obtain ⟨r2, h2⟩ := visitT_pre hi (visitT lo out).1
      exact ⟨r1 ++ r2 ++ [(v, (visitT lo out).2, (visitT hi (visitT lo out).1).2)], by simp only; rw [h2, h1]; simp⟩
theorem visitT_len (t : BT) (out : List Dec) : out.length ≤ (visitT t out).1.length := by
  obtain ⟨r, h⟩ := visitT_pre t out
  rw [h]; simp
theorem visitT_at : ∀ (t : BT) (out : List Dec), (visitT t out).2 < (visitT t out).1.length + 2 ∧ trs (visitT t out).1 (visitT t out).2 = t
  | .lf b, out => by
    cases b with
    | false => exact ⟨by simp [visitT], (trs_zero out).1⟩
    | true => exact ⟨by simp [visitT], (trs_zero out).2⟩
  | .nd v lo hi, out => by
    unfold visitT
    cases h : look out (.nd v lo hi) with
    | some p => exact look_some h
    | none =>
      obtain ⟨a1, a2⟩ := visitT_at lo out
      obtain ⟨b1, b2⟩ := visitT_at hi (visitT lo out).1
      obtain ⟨r, hr⟩ := visitT_pre hi (visitT lo out).1
      refine ⟨by simp, ?_⟩
      simp only
      rw [trs_snoc_new, b2]
      rw [hr, trs_append a1, a2]
/-- Whatever it adds is a part of the tree. -/
theorem visitT_new : ∀ (t : BT) (out : List Dec) (p : Nat), p < (visitT t out).1.length + 2 → p < out.length + 2 ∨ (trs (visitT t out).1 p).size ≤ t.size
  | .lf b, out, p, h => .inl h
  | .nd v lo hi, out, p, h => by
    unfold visitT at h ⊢
    cases hl : look out (.nd v lo hi) with
    | some q => rw [hl] at h; exact .inl h
    | none =>
      rw [hl] at h
      simp only [List.length_append, List.length_cons, List.length_nil] at h ⊢
      by_cases hp : p = (visitT hi (visitT lo out).1).1.length + 2
      · right
        subst hp
        obtain ⟨a1, a2⟩ := visitT_at lo out
        obtain ⟨b1, b2⟩ := visitT_at hi (visitT lo out).1
        obtain ⟨r, hr⟩ := visitT_pre hi (visitT lo out).1
        rw [trs_snoc_new, b2]
        have : trs (visitT hi (visitT lo out).1).1 (visitT lo out).2 = lo := by rw [hr, trs_append a1, a2]
        simp only [this]
        exact Nat.le_refl _
      · have hp' : p < (visitT hi (visitT lo out).1).1.length + 2 := by omega
        rw [trs_snoc_old hp']
        rcases visitT_new hi (visitT lo out).1 p hp' with h2 | h2
        · rcases visitT_new lo out p h2 with h3 | h3
          · exact .inl h3
          · obtain ⟨r, hr⟩ := visitT_pre hi (visitT lo out).1
            rw [hr, trs_append h2]
            right; simp only [BT.size]; omega
        · right; simp only [BT.size]; omega
theorem visitT_fresh {v : Nat} {lo hi : BT} {out : List Dec} (h : look out (.nd v lo hi) = none) : ∀ p, p < (visitT hi (visitT lo out).1).1.length + 2 → trs (visitT hi (visitT lo out).1).1 p ≠ .nd v lo hi := by
  intro p hp he
  rcases visitT_new hi (visitT lo out).1 p hp with h2 | h2
  · rcases visitT_new lo out p h2 with h3 | h3
    · obtain ⟨r1, h1⟩ := visitT_pre lo out
      obtain ⟨r2, h4⟩ := visitT_pre hi (visitT lo out).1
      rw [h4, trs_append h2, h1, trs_append h3] at he
      exact look_none h p h3 he
    · obtain ⟨r, hr⟩ := visitT_pre hi (visitT lo out).1
      rw [hr, trs_append h2] at he
      rw [he] at h3
      simp only [BT.size] at h3; omega
  · rw [he] at h2
    simp only [BT.size] at h2; omega
theorem visitT_mk : ∀ {t : BT} {m : Nat} {out : List Dec}, t.ok m → Mk out → Mk (visitT t out).1
  | .lf b, _, out, _, h => h
  | .nd v lo hi, m, out, ht, h => by
    unfold visitT
    cases hl : look out (.nd v lo hi) with
    | some q => exact h
    | none =>
      have h1 := visitT_mk ht.2.2.2.1 h
      have h2 := visitT_mk ht.2.2.2.2 h1
      obtain ⟨a1, a2⟩ := visitT_at lo out
      obtain ⟨b1, b2⟩ := visitT_at hi (visitT lo out).1
      obtain ⟨r, hr⟩ := visitT_pre hi (visitT lo out).1
      have a2' : trs (visitT hi (visitT lo out).1).1 (visitT lo out).2 = lo := by rw [hr, trs_append a1, a2]
      have a1' : (visitT lo out).2 < (visitT hi (visitT lo out).1).1.length + 2 := Nat.lt_of_lt_of_le a1 (by have := visitT_len hi (visitT lo out).1; omega)
      refine h2.snoc ⟨ht.2.1, a1', b1, fun e => ?_⟩ (fun hm => ?_)
      · simp only at e
        rw [e, b2] at a2'
        exact ht.2.2.1 a2'.symm
      · obtain ⟨k, hk⟩ := List.getElem?_of_mem hm
        have := h2.at hk
        simp only at this
        rw [a2', b2] at this
        have hlt := (List.getElem?_eq_some_iff.1 hk).1
        exact visitT_fresh hl (k + 2) (by omega) this
theorem visitT_grow : ∀ (t : BT) (out : List Dec), (visitT t out).1.length ≤ out.length + t.size
  | .lf b, out => Nat.le_refl _
  | .nd v lo hi, out => by
    unfold visitT
    cases look out (.nd v lo hi) with
    | some q => simp
    | none =>
      have h1 := visitT_grow lo out
      have h2 := visitT_grow hi (visitT lo out).1
      simp only [List.length_append, List.length_cons, List.length_nil, BT.size]; omega
theorem canon_mk {t : BT} {m : Nat} (h : t.ok m) : Mk (canon t).1 := visitT_mk h Mk.nil
theorem canon_at (t : BT) : (canon t).2 < (canon t).1.length + 2 ∧ trs (canon t).1 (canon t).2 = t := visitT_at t []
theorem canon_len {t : BT} (h : t.ok 0) : (canon t).1.length < 16777216 := by
  have h1 := visitT_grow t []
  have h2 := BT.size_le h (by decide)
  have h3 : (canon t).1.length ≤ t.size := by simpa [canon] using h1
  have : (2 : Nat) ^ (24 - 0) = 16777216 := by decide
  omega
theorem canon_lf {t : BT} (h : t.ok 0) (b : Bool) : (canon t).2 = (bif b then 1 else 0) ↔ t = .lf b := by
  constructor
  · intro e
    rw [← (canon_at t).2, e]
    cases b
    · exact (trs_zero _).1
    · exact (trs_zero _).2
  · rintro rfl; rfl
end Dg

/-! A maker's nodes, and the places of a walk through it. -/
namespace Dg
/-- What the table of a list says of a node. -/
def KnowsL (l : List Dec) (f : Dec → Option Nat) : Prop := ∀ x p, f x = some p ↔ ∃ k, p = k + 2 ∧ l[k]? = some x
theorem KnowsL.nil : KnowsL [] (fun _ => none) := fun x p => by simp
theorem KnowsL.snoc {l : List Dec} {f : Dec → Option Nat} (h : KnowsL l f) (x : Dec) (hx : f x = none) : KnowsL (l ++ [x]) (fun y => if y = x then some (l.length + 2) else f y) := by
  intro y p
  by_cases he : y = x
  · subst he
    simp only [if_pos]
    constructor
    · intro e
      cases e
      exact ⟨l.length, rfl, by simp⟩
    · rintro ⟨k, rfl, hk⟩
      by_cases hl : k < l.length
      · rw [List.getElem?_append_left hl] at hk
        have := (h y (k + 2)).2 ⟨k, rfl, hk⟩
        rw [hx] at this; cases this
      · have := (List.getElem?_eq_some_iff.1 hk).1
        simp at this
        have e : k = l.length := by omega
        rw [e]
  · simp only [if_neg he]
    rw [h y p]
    constructor
    · rintro ⟨k, rfl, hk⟩
      exact ⟨k, rfl, by rw [List.getElem?_append_left (List.getElem?_eq_some_iff.1 hk).1]; exact hk⟩
    · rintro ⟨k, rfl, hk⟩
      by_cases hl : k < l.length
      · exact ⟨k, rfl, by rw [List.getElem?_append_left hl] at hk; exact hk⟩
      · have := (List.getElem?_eq_some_iff.1 hk).1
        simp at this
        have e : k = l.length := by omega
        subst e
        simp at hk
        exact absurd hk.symm he
/-- What a node's making yields. -/
structure MadeN (l l' : List Dec) (p : Nat) (t : BT) : Prop where
  ismk : Mk l'
  pre : ∃ r, l' = l ++ r
  lt : p < l'.length + 2
  tree : trs l' p = t
theorem MadeN.len {l l' : List Dec} {p : Nat} {t : BT} (h : MadeN l l' p t) : l.length ≤ l'.length := by
  obtain ⟨r, e⟩ := h.pre
  rw [e]; simp
theorem MadeN.old {l l' : List Dec} {p q : Nat} {t : BT} (h : MadeN l l' p t) (hq : q < l.length + 2) : trs l' q = trs l q := by
  obtain ⟨r, e⟩ := h.pre
  rw [e, trs_append hq]
theorem MadeN.same {l : List Dec} (h : Mk l) {i p : Nat} (hp : p < l.length + 2) : MadeN l l p (mkN i (trs l p) (trs l p)) :=
  ⟨h, ⟨[], by simp⟩, hp, by rw [mkN_same]⟩
theorem MadeN.known {l : List Dec} {f : Dec → Option Nat} (h : Mk l) (hf : KnowsL l f) {i lo hi p : Nat} (hne : lo ≠ hi) (hlo : lo < l.length + 2) (hhi : hi < l.length + 2) (hp : f (i, lo, hi) = some p) : MadeN l l p (mkN i (trs l lo) (trs l hi)) := by
  obtain ⟨k, rfl, hk⟩ := (hf _ _).1 hp
  have hlt := (List.getElem?_eq_some_iff.1 hk).1
  refine ⟨h, ⟨[], by simp⟩, by omega, ?_⟩
  rw [h.at hk, mkN_ne (fun e => hne (h.inj hlo hhi e))]
theorem MadeN.new {l : List Dec} {f : Dec → Option Nat} (h : Mk l) (hf : KnowsL l f) {i lo hi : Nat} (hi24 : i < 24) (hne : lo ≠ hi) (hlo : lo < l.length + 2) (hhi : hi < l.length + 2) (hp : f (i, lo, hi) = none) : MadeN l (l ++ [(i, lo, hi)]) (l.length + 2) (mkN i (trs l lo) (trs l hi)) := by
  have hn : (i, lo, hi) ∉ l := by
    intro hm
    obtain ⟨k, hk⟩ := List.getElem?_of_mem hm
    have := (hf _ _).2 ⟨k, rfl, hk⟩
    rw [hp] at this; cases this
  refine ⟨h.snoc ⟨hi24, hlo, hhi, hne⟩ hn, ⟨_, rfl⟩, by simp, ?_⟩
  rw [trs_snoc_new, mkN_ne (fun e => hne (h.inj hlo hhi e))]
theorem MadeN.trans {l l' l'' : List Dec} {p q : Nat} {s t : BT} (h : MadeN l l' p s) (h' : MadeN l' l'' q t) : MadeN l l'' q t := by
  obtain ⟨r, e⟩ := h.pre
  obtain ⟨r', e'⟩ := h'.pre
  exact ⟨h'.ismk, ⟨r ++ r', by rw [e', e, List.append_assoc]⟩, h'.lt, h'.tree⟩
/-- The places of a walk: which maker's places stand already in the new list, and where. -/
def PlaceOk (l o : List Dec) (f : Nat → Option Nat) : Prop := ∀ r p, r < l.length + 2 → (f r = some p ↔ p < o.length + 2 ∧ trs o p = trs l r)
theorem PlaceOk.nil {l : List Dec} (h : Mk l) : PlaceOk l [] (fun r => if r = 1 then some 1 else if r = 0 then some 0 else none) := by
  intro r p hr
  have z := trs_zero ([] : List Dec)
  have z' := trs_zero l
  by_cases h1 : r = 1
  · subst h1
    simp only [if_pos, z'.2, List.length_nil]
    constructor
    · intro e; cases e; exact ⟨by omega, z.2⟩
    · rintro ⟨hp, e⟩
      have : p = 1 := by
        rcases p with _ | _ | p
        · rw [z.1] at e; cases e
        · rfl
        · omega
      rw [this]
  · by_cases h0 : r = 0
    · subst h0
      simp only [if_pos, if_neg h1, z'.1, List.length_nil]
      constructor
      · intro e; cases e; exact ⟨by omega, z.1⟩
      · rintro ⟨hp, e⟩
        have : p = 0 := by
          rcases p with _ | _ | p
          · rfl
          · rw [z.2] at e; cases e
          · omega
        rw [this]
    · simp only [if_neg h1, if_neg h0]
      constructor
      · intro e; cases e
      · rintro ⟨hp, e⟩
        exfalso
        simp only [List.length_nil] at hp
        rcases p with _ | _ | p
        · rw [z.1] at e; have := h.lf hr e.symm; omega
        · rw [z.2] at e; have := h.lf hr e.symm; omega
        · omega
theorem PlaceOk.hit {l o : List Dec} {f : Nat → Option Nat} (hm : Mk o) (h : PlaceOk l o f) {r p : Nat} (hr : r < l.length + 2) (hp : f r = some p) : visitT (trs l r) o = (o, p) := by
  obtain ⟨h1, h2⟩ := (h r p hr).1 hp
  cases ht : trs l r with
  | lf b =>
    rw [ht] at h2
    have h3 := hm.lf h1 h2
    have z := trs_zero o
    cases b with
    | false =>
      rcases p with _ | _ | p
      · rfl
      · rw [z.2] at h2; cases h2
      · omega
    | true =>
      rcases p with _ | _ | p
      · rw [z.1] at h2; cases h2
      · rfl
      · omega
  | nd v lo hi =>
    rw [ht] at h2
    unfold visitT
    rw [look_eq hm h1 h2]
theorem PlaceOk.miss {l o : List Dec} {f : Nat → Option Nat} (hl : Mk l) (h : PlaceOk l o f) {r : Nat} (hr : r < l.length + 2) (hp : f r = none) :
    ∃ x, 2 ≤ r ∧ l[r - 2]? = some x ∧ x.2.1 < r ∧ x.2.2 < r ∧ x.1 < 24 ∧ trs l r = .nd x.1 (trs l x.2.1) (trs l x.2.2) ∧ look o (trs l r) = none := by
  have hlook : look o (trs l r) = none := by
    cases hk : look o (trs l r) with
    | none => rfl
    | some p =>
      have := (h r p hr).2 (look_some hk)
      rw [hp] at this; cases this
  have h2 : 2 ≤ r := by
    rcases Nat.lt_or_ge r 2 with h2 | h2
    · exfalso
      rcases r with _ | _ | r
      · have := (h 0 0 hr).2 ⟨by omega, by rw [(trs_zero o).1, (trs_zero l).1]⟩
        rw [hp] at this; cases this
      · have := (h 1 1 hr).2 ⟨by omega, by rw [(trs_zero o).2, (trs_zero l).2]⟩
        rw [hp] at this; cases this
      · omega
    · exact h2
  obtain ⟨k, rfl⟩ : ∃ k, r = k + 2 := ⟨r - 2, by omega⟩
  have hk : k < l.length := by omega
  have hx := List.getElem?_eq_getElem hk
  have hb := hl.kid k _ hx
  exact ⟨l[k], h2, hx, hb.2.1, hb.2.2.1, hb.1, hl.at hx, hlook⟩
theorem PlaceOk.step {l o o2 : List Dec} {f2 : Nat → Option Nat} {r v p1 p2 : Nat} {lo hi : BT} (hl : Mk l) (hr : r < l.length + 2) (ht : trs l r = .nd v lo hi) (hlook : look o (.nd v lo hi) = none)
    (ho2 : o2 = (visitT hi (visitT lo o).1).1) (h2 : PlaceOk l o2 f2) (h : trs (o2 ++ [(v, p1, p2)]) (o2.length + 2) = .nd v lo hi) :
    PlaceOk l (o2 ++ [(v, p1, p2)]) (fun q => if q = r then some (o2.length + 2) else f2 q) := by
  have hfresh := visitT_fresh hlook
  rw [← ho2] at hfresh
  intro q p hq
  by_cases hqr : q = r
  · subst hqr
    simp only [if_pos]
    constructor
    · intro e; cases e; exact ⟨by simp, by rw [h, ht]⟩
    · rintro ⟨hp, e⟩
      rw [List.length_append, List.length_singleton] at hp
      by_cases hlt : p < o2.length + 2
      · rw [trs_snoc_old hlt, ht] at e
        exact absurd e (hfresh p hlt)
      · rw [show p = o2.length + 2 by omega]
  · simp only [if_neg hqr]
    rw [h2 q p hq]
    constructor
    · rintro ⟨hp, e⟩
      exact ⟨by rw [List.length_append, List.length_singleton]; omega, by rw [trs_snoc_old hp, e]⟩
    · rintro ⟨hp, e⟩
      rw [List.length_append, List.length_singleton] at hp
      by_cases hlt : p < o2.length + 2
      · rw [trs_snoc_old hlt] at e
        exact ⟨hlt, e⟩
      · have hpe : p = o2.length + 2 := by omega
        rw [hpe, h, ← ht] at e
        exact absurd (hl.inj hr hq e).symm hqr
end Dg

/-
  Diagrams in memory: nodes, makers, values.
-/
namespace Go.Eng
open Go Go.RowKit
section
variable {P : Program} {w0 : World} {O : List Nat} {ops : Array Oper} {Q : Exit → Act → World → Prop} {N : Nat} {D : List Deferred} {L : FL} {C : List Chunk} {K : Act → World → Prop}
theorem WA.openB {F : List Nat} {α : Type} {Cs : α → List Chunk} {φ : α → Prop} (h : ∀ x, φ x → (∀ c ∈ Cs x, ∀ k, c.fp k → k ∈ F) → (∀ k ∈ F, ∃ c ∈ Cs x, c.fp k) → WA w0 O K N D L (Cs x ++ C)) : WA w0 O K N D L (bun F Cs φ :: C) := fun a w hF hS => by
  obtain ⟨x, h1, h2, h3, h4⟩ := hS.bunOpen
  exact h x h1 h2 h3 a w hF h4
theorem WC.openB {c : Code} {F : List Nat} {α : Type} {Cs : α → List Chunk} {φ : α → Prop} (h : ∀ x, φ x → (∀ c ∈ Cs x, ∀ k, c.fp k → k ∈ F) → (∀ k ∈ F, ∃ c ∈ Cs x, c.fp k) → WC P w0 O c Q N D L (Cs x ++ C)) : WC P w0 O c Q N D L (bun F Cs φ :: C) := fun a w hF hS => by
  obtain ⟨x, h1, h2, h3, h4⟩ := hS.bunOpen
  exact h x h1 h2 h3 a w hF h4
end
end Go.Eng
namespace Go.Proofs.Ytkgllhkhdjodeaa
open Go Go.Eng Go.Proofs Dg
theorem keyDec : KeyT Try.prog 63 enc3 := KeyT.threeOf (by kernel_rfl)
theorem keyInt : KeyT Try.prog 3 encI := KeyT.nat (by kernel_rfl)
theorem undMD : Try.prog.underlying 133 = some (.map 63 3) := by kernel_rfl
theorem undMI : Try.prog.underlying 136 = some (.map 3 3) := by kernel_rfl
theorem zeroInt (w : World) : (zeroValue 3).run Try.prog w = .ok (.int .i64 0) w := by kernel_rfl
def decs (l : List Dec) : List Value := l.flatMap fun x => [.int .i64 (x.1 : Int), .int .i64 (x.2.1 : Int), .int .i64 (x.2.2 : Int)]
theorem decs_append (l m : List Dec) : decs (l ++ m) = decs l ++ decs m := by simp [decs]
theorem decs_len : ∀ l : List Dec, (decs l).length = l.length * 3
  | [] => rfl
  | x :: l => by
    have := decs_len l
    simp only [decs, List.flatMap_cons, List.length_append, List.length_cons, List.length_nil] at this ⊢
    omega
theorem decs_at : ∀ {l : List Dec} {k : Nat} {x : Dec}, l[k]? = some x → ∀ j u, [Value.int .i64 (x.1 : Int), .int .i64 (x.2.1 : Int), .int .i64 (x.2.2 : Int)][j]? = some u → (decs l)[k * 3 + j]? = some u
  | [], k, x, h, _, _, _ => by simp at h
  | y :: l, 0, x, h, j, u, hj => by
    simp only [List.getElem?_cons_zero, Option.some.injEq] at h
    subst h
    have hjl := (List.getElem?_eq_some_iff.1 hj).1
    show ([Value.int .i64 (y.1 : Int), .int .i64 (y.2.1 : Int), .int .i64 (y.2.2 : Int)] ++ decs l)[0 * 3 + j]? = _
    rw [Nat.zero_mul, Nat.zero_add, List.getElem?_append_left hjl]
    exact hj
  | y :: l, k + 1, x, h, j, u, hj => by
    simp only [List.getElem?_cons_succ] at h
    have ih := decs_at h j u hj
    show ([Value.int .i64 (y.1 : Int), .int .i64 (y.2.1 : Int), .int .i64 (y.2.2 : Int)] ++ decs l)[(k + 1) * 3 + j]? = _
    rw [List.getElem?_append_right (by simp; omega)]
    simp only [List.length_cons, List.length_nil]
    rw [show (k + 1) * 3 + j - (0 + 1 + 1 + 1) = k * 3 + j by omega]
    exact ih
theorem decs_one (l : List Dec) : ∀ u ∈ decs l, u.oneCell' = true := by
  intro u hu
  simp only [decs, List.mem_flatMap] at hu
  obtain ⟨x, _, hu⟩ := hu
  simp only [List.mem_cons, List.not_mem_nil, or_false] at hu
  rcases hu with rfl | rfl | rfl <;> rfl
/-- Nodes that can be read. -/
def RdDec (w : World) (l : List Dec) (a : Option Addr) : Prop := ∀ j u, (decs l)[j]? = some u → ∃ b off, a = some ⟨b, off, none⟩ ∧ w.cell? ⟨b, off + j, none⟩ = some u
theorem RdDec.next {w0 w : World} {O : List Nat} {C : List Chunk} {l : List Dec} {a : Option Addr} (h : RdDec w0 l a) (hS : St w0 O C w) (hO : ∀ b off, a = some ⟨b, off, none⟩ → b < w0.heap.size → b ∉ O) : RdDec w l a := fun j u hu => by
  obtain ⟨b, off, ha, hc⟩ := h j u hu
  exact ⟨b, off, ha, hS.oldc hc (hO b off ha (World.block_lt_of_cell? w0 _ hc))⟩
theorem RdDec.next0 {w0 w : World} {C : List Chunk} {l : List Dec} {a : Option Addr} (h : RdDec w0 l a) (hS : St w0 [] C w) : RdDec w l a := h.next hS (by simp)
theorem RdDec.ext {wb w : World} {l : List Dec} {a : Option Addr} (h : RdDec wb l a) (hE : Ext wb w) : RdDec w l a := fun j u hu => by
  obtain ⟨b, off, ha, hc⟩ := h j u hu
  exact ⟨b, off, ha, hE.cell hc⟩
theorem RdDec.at {w : World} {l : List Dec} {a : Option Addr} (h : RdDec w l a) {k : Nat} {x : Dec} (hk : l[k]? = some x) : ∃ b off, a = some ⟨b, off, none⟩ ∧ ∀ j u, [Value.int .i64 (x.1 : Int), .int .i64 (x.2.1 : Int), .int .i64 (x.2.2 : Int)][j]? = some u → w.cell? ⟨b, off + k * 3 + j, none⟩ = some u := by
  obtain ⟨b, off, ha, _⟩ := h (k * 3 + 0) _ (decs_at hk 0 _ rfl)
  refine ⟨b, off, ha, fun j u hj => ?_⟩
  obtain ⟨b', off', ha', hc⟩ := h (k * 3 + j) u (decs_at hk j u hj)
  rw [ha] at ha'
  injection ha' with e
  injection e with e1 e2
  subst e1; subst e2
  rw [Nat.add_assoc]; exact hc
theorem RdDec.of_row {w : World} {l : List Dec} {a : Option Addr} {n cap : Nat} {e : TypeId} (hn : n = l.length) (h : (rowc (.slice a n cap) n e 3 (decs l)).ok w) : RdDec w l a := fun j u hu => by
  have hpos : 0 < n := by
    have h1 := (List.getElem?_eq_some_iff.1 hu).1
    rw [decs_len] at h1; omega
  obtain ⟨g, hg, _, _⟩ := rowc_addr h hpos
  subst hg
  exact ⟨g, 0, rfl, by rw [Nat.zero_add]; exact rowc_cells h hu⟩
/-- A diagram's own row of nodes. -/
abbrev dC (a : Option Addr) (c : Nat) (t : BT) : Chunk := rowc (.slice a (canon t).1.length c) (canon t).1.length 63 3 (decs (canon t).1)
abbrev dval (t : BT) (a : Option Addr) (c : Nat) : Value := .agg [.slice a (canon t).1.length c, .int .i64 ((canon t).2 : Int)].toArray
/-- A diagram that can be read. -/
def RdD (w : World) (t : BT) (a : Option Addr) : Prop := t.ok 0 ∧ RdDec w (canon t).1 a
theorem RdD.next0 {w0 w : World} {C : List Chunk} {t : BT} {a : Option Addr} (h : RdD w0 t a) (hS : St w0 [] C w) : RdD w t a := ⟨h.1, h.2.next0 hS⟩
theorem RdD.ext {wb w : World} {t : BT} {a : Option Addr} (h : RdD wb t a) (hE : Ext wb w) : RdD w t a := ⟨h.1, h.2.ext hE⟩
theorem RdD.of_row {w : World} {t : BT} {a : Option Addr} {c : Nat} (ht : t.ok 0) (h : (dC a c t).ok w) : RdD w t a := ⟨ht, RdDec.of_row rfl h⟩
/-- A maker's memory. -/
abbrev mkCs (bm : Nat) (l : List Dec) (x : Option Addr × Nat × Nat × (Dec → Option Nat)) : List Chunk :=
  [pt bm [.slice x.1 l.length x.2.1, .map (some x.2.2.1)] 135, rowc (.slice x.1 l.length x.2.1) l.length 63 3 (decs l), mpg enc3 x.2.2.1 (fun y => (x.2.2.2 y).map encI)]
def mkr (F : List Nat) (bm : Nat) (l : List Dec) : Chunk := bun F (mkCs bm l) (fun x => KnowsL l x.2.2.2)
theorem mkr_fp {bm : Nat} {l : List Dec} (x : Option Addr × Nat × Nat × (Dec → Option Nat)) : FpL (mkCs bm l x) ([bm] ++ (ob (.slice x.1 l.length x.2.1) ++ ([x.2.2.1] ++ []))) := .cons FpIs.pt (.cons FpIs.rowc (.cons FpIs.mpg .nil))
theorem St.mkrClose {w0 w : World} {O : List Nat} {C : List Chunk} {bm : Nat} {l : List Dec} {a : Option Addr} {c b n : Nat} {f : Dec → Option Nat} {g : Dec → Option Value} (hf : KnowsL l f) (hg : g = fun y => (f y).map encI) (hn : n = l.length) {xs : List Value} (hx : xs = decs l)
    (h : St w0 O (pt bm [.slice a n c, .map (some b)] 135 :: rowc (.slice a n c) n 63 3 xs :: mpg enc3 b g :: C) w) : St w0 O (mkr ([bm] ++ (ob (.slice a l.length c) ++ ([b] ++ []))) bm l :: C) w := by
  subst hg; subst hn; subst hx
  exact St.bunClose' (Cs := mkCs bm l) (a, c, b, f) hf (mkr_fp (a, c, b, f)) h
end Go.Proofs.Ytkgllhkhdjodeaa

namespace Go.Proofs.Ytkgllhkhdjodeaa
open Go Go.Eng Go.Proofs Dg
theorem newMaker_c (w : World) : Calls Try.prog 54 [].toArray w fun e w' => ∃ x : List Nat × Nat, e = .returned (pp x.2) ∧ St w [] [mkr x.1 x.2 []] w' := by
  refine enter Try.func54 rfl Try.ntmps54 rfl (St.init _) ?_
  refine WC.seq ?_
  refine WC.region ?_
  refine WL.step ?_
  refine WL.assign rfl rfl ?_
  refine WL.nil ?_
  refine WQ.then_normal ?_
  refine WC.seq ?_
  refine WC.region ?_
  refine WL.step ?_
  refine WL.makeMapG enc3 rfl (fun b1 => ?_)
  refine WL.step ?_
  refine WL.build F.stT135 rfl (by repeat (first | exact Built.nil | apply Built.one rfl rfl (by repeat constructor) | apply Built.agg rfl rfl (by repeat constructor))) rfl ?_
  refine WL.step ?_
  refine WL.boxN rfl rfl (fun b3 => ?_)
  refine WL.step ?_
  refine WL.assign rfl rfl ?_
  refine WL.nil ?_
  refine WQ.then_normal ?_
  refine WC.ret ?_
  refine WQ.ret (rs := [.tmp 0]) rfl (.tmp rfl .nil) (fun w hS => ⟨(_, b3), rfl, St.mkrClose (l := []) (a := none) (c := 0) (b := b1) (n := 0) (f := fun _ => none) KnowsL.nil rfl rfl rfl ?_⟩)
  exact St.pick (hS.rowNil 63 3) (c := pt b3 [.slice none 0 0, .map (some b1)] 135) (by repeat (first | exact Rem.here | apply Rem.there))

theorem mnode_c (Fp : List Nat) (bm : Nat) (l : List Dec) (i lo hi : Nat) (w : World) (h24 : i < 24) (hm : Mk l) (hlo : lo < l.length + 2) (hhi : hi < l.length + 2) (hlen : l.length ≤ 16777214) (hS0 : St w Fp [mkr Fp bm l] w) :
    Calls Try.prog 82 [pp bm, .int .i64 (i : Int), .int .i64 (lo : Int), .int .i64 (hi : Int)].toArray w fun e w' => ∃ x : { x : List Nat × List Dec × Nat // MadeN l x.2.1 x.2.2 (mkN i (trs l lo) (trs l hi)) ∧ x.2.1.length ≤ l.length + 1 }, e = .returned (.int .i64 (x.1.2.2 : Int)) ∧ St w Fp [mkr x.1.1 bm x.1.2.1] w' := by
  obtain ⟨⟨a, c, bk, fk⟩, hk, h1, h2, hS0⟩ := hS0.bunOpen
  simp only [List.cons_append, List.nil_append] at hS0
  refine enter Try.func82 rfl Try.ntmps82 rfl (C := [pt bm [.slice a l.length c, .map (some bk)] 135, rowc (.slice a l.length c) l.length 63 3 (decs l), mpg enc3 bk (fun y => (fk y).map encI)]) hS0 ?_
  refine WC.seq ?_
  refine WC.region ?_
  refine WL.step ?_
  refine WL.assign rfl rfl ?_
  refine WL.nil ?_
  refine WQ.then_normal ?_
  refine WC.seq ?_
  refine WC.seq ?_
  refine WC.region ?_
  refine WL.step ?_
  refine WL.move rfl rfl ?_
  refine WL.step ?_
  refine WL.move rfl rfl ?_
  refine WL.step ?_
  refine WL.eqI rfl rfl rfl ?_
  refine WL.nil ?_
  refine WQ.then_normal ?_
  refine WC.cond rfl (fun h14 => ?_) (fun h14 => ?_)
  · skip
    have he : lo = hi := by simp at h14; omega
    subst he
    refine WC.seq ?_
    refine WC.region ?_
    refine WL.step ?_
    refine WL.move rfl rfl ?_
    refine WL.step ?_
    refine WL.assign rfl rfl ?_
    refine WL.nil ?_
    refine WQ.then_normal ?_
    refine WC.ret ?_
    refine WQ.then_ret ?_
    refine WQ.ret (rs := [.tmp 8]) rfl (.tmp rfl .nil) (fun w hS => ⟨⟨(Fp, l, lo), MadeN.same hm hlo, Nat.le_succ _⟩, rfl, ?_⟩)
    exact hS.bunClose (Cs := mkCs bm l) (a, c, bk, fk) hk h1 h2
  · skip
    have hne : lo ≠ hi := by simp at h14; omega
    refine WC.skip ?_
    refine WQ.then_normal ?_
    refine WC.seq ?_
    refine WC.region ?_
    refine WL.step ?_
    refine WL.move rfl rfl ?_
    refine WL.step ?_
    refine WL.move rfl rfl ?_
    refine WL.step ?_
    refine WL.move rfl rfl ?_
    refine WL.step ?_
    refine WL.build F.stT63 rfl (by repeat (first | exact Built.nil | apply Built.one rfl rfl (by repeat constructor) | apply Built.agg rfl rfl (by repeat constructor))) rfl ?_
    refine WL.step ?_
    refine WL.alloc F.zero63 rfl (fun b9 => ?_)
    refine WL.step ?_
    refine WL.storeN F.agg63 rfl rfl rfl (by simp [Value.oneCell']) (by repeat (first | exact Upd.here | apply Upd.there)) (by repeat constructor) ?_
    refine WL.nil ?_
    refine WQ.then_normal ?_
    refine WC.seq ?_
    rcases Option.eq_none_or_eq_some (fk (i, lo, hi)) with hf | ⟨p, hf⟩
    · skip
      refine WC.drawsL (by kernel_rfl) (FactsOk.cons (ds := []) (LoadOk.one (t := 0) (off := 1) rfl (by repeat (first | exact List.Mem.head _ | apply List.Mem.tail)) rfl) (FactsOk.cons (ds := []) (LoadOk.whole (t := 9) rfl (by repeat (first | exact List.Mem.head _ | apply List.Mem.tail))) (FactsOk.cons (ds := []) (LoadOk.by (Y := fun w => (mpg enc3 bk (fun y => (fk y).map encI)).ok w) (fun w hS => hS.ok _ (by repeat (first | exact List.Mem.head _ | apply List.Mem.tail)))) (FactsOk.nil)))) ?_
      refine WD.take (i := 0) rfl rfl rfl rfl (by kernel_rfl) (by kernel_rfl) (by kernel_rfl) (fun _ _ _ h => h) (by kernel_rfl) need_none (Yl.move rfl) ?_
      refine WD.take (i := 1) rfl rfl rfl rfl (by kernel_rfl) (by kernel_rfl) (by kernel_rfl) (fun _ _ _ h => h) (by kernel_rfl) need_none (Yl.nilCheck rfl) ?_
      refine WD.take (i := 2) rfl rfl rfl rfl (by kernel_rfl) (by kernel_rfl) (by kernel_rfl) (fun _ _ _ h => h) (by kernel_rfl) need_none (Yl.fieldAddr0 F.fld135_1 rfl) ?_
      refine WD.take (i := 3) rfl rfl rfl rfl (by kernel_rfl) (by kernel_rfl) (by kernel_rfl) (fun _ _ _ h => h) (by kernel_rfl) (need_at 0 11 rfl (by kernel_rfl)) (Yl.load1 F.one133 rfl) ?_
      refine WD.take (i := 4) rfl rfl rfl rfl (by kernel_rfl) (by kernel_rfl) (by kernel_rfl) (fun _ _ _ h => h) (by kernel_rfl) (need_at 1 11 rfl (by kernel_rfl)) (Yl.loadN F.agg63 rfl rfl) ?_
      refine WD.take (i := 5) rfl rfl rfl rfl (by kernel_rfl) (by kernel_rfl) (by kernel_rfl) (fun _ _ _ h => h) (by kernel_rfl) (need_at 2 11 rfl (by kernel_rfl)) (Yl.lookupMiss (f := fun y => (fk y).map encI) (i, lo, hi) undMD keyDec zeroInt rfl rfl rfl (by rw [hf]; rfl)) ?_
      refine WD.take (i := 6) rfl rfl rfl rfl (by kernel_rfl) (by kernel_rfl) (by kernel_rfl) (fun _ _ _ h => h) (by kernel_rfl) need_none (Yl.move rfl) ?_
      refine WD.take (i := 7) rfl rfl rfl rfl (by kernel_rfl) (by kernel_rfl) (by kernel_rfl) (fun _ _ _ h => h) (by kernel_rfl) need_none (Yl.extract rfl rfl) ?_
      refine WD.take (i := 8) rfl rfl rfl rfl (by kernel_rfl) (by kernel_rfl) (by kernel_rfl) (fun _ _ _ h => h) (by kernel_rfl) need_none (Yl.extract rfl rfl) ?_
      refine WD.take (i := 9) rfl rfl rfl rfl (by kernel_rfl) (by kernel_rfl) (by kernel_rfl) (fun _ _ _ h => h) (by kernel_rfl) need_none (Yl.assign rfl) ?_
      refine WD.take (i := 10) rfl rfl rfl rfl (by kernel_rfl) (by kernel_rfl) (by kernel_rfl) (fun _ _ _ h => h) (by kernel_rfl) need_none (Yl.assign rfl) ?_
      refine WD.done (by kernel_rfl) ?_
      refine WQ.then_normal ?_
      refine WC.seq ?_
      refine WC.seq ?_
      refine WC.region ?_
      refine WL.step ?_
      refine WL.move rfl rfl ?_
      refine WL.step ?_
      refine WL.not rfl rfl ?_
      refine WL.nil ?_
      refine WQ.then_normal ?_
      refine WC.condT rfl ?_
      refine WC.seq ?_
      refine WC.drawsL (by kernel_rfl) (FactsOk.cons (ds := [7, 10]) (LoadOk.one (t := 0) (off := 0) rfl (by repeat (first | exact List.Mem.head _ | apply List.Mem.tail)) rfl) (FactsOk.cons (ds := [6, 7, 10]) (LoadOk.whole (t := 9) rfl (by repeat (first | exact List.Mem.head _ | apply List.Mem.tail))) (FactsOk.nil))) ?_
      refine WD.take (i := 0) rfl rfl rfl rfl (by kernel_rfl) (by kernel_rfl) (by kernel_rfl) (fun _ _ _ h => h) (by kernel_rfl) need_none (Yl.move rfl) ?_
      refine WD.take (i := 1) rfl rfl rfl rfl (by kernel_rfl) (by kernel_rfl) (by kernel_rfl) (fun _ _ _ h => h) (by kernel_rfl) need_none (Yl.move rfl) ?_
      refine WD.take (i := 2) rfl rfl rfl rfl (by kernel_rfl) (by kernel_rfl) (by kernel_rfl) (fun _ _ _ h => h) (by kernel_rfl) need_none (Yl.nilCheck rfl) ?_
      refine WD.take (i := 3) rfl rfl rfl rfl (by kernel_rfl) (by kernel_rfl) (by kernel_rfl) (fun _ _ _ h => h) (by kernel_rfl) need_none (Yl.fieldAddr0 F.fld135_0 rfl) ?_
      refine WD.take (i := 4) rfl rfl rfl rfl (by kernel_rfl) (by kernel_rfl) (by kernel_rfl) (fun _ _ _ h => h) (by kernel_rfl) (need_at 0 11 rfl (by kernel_rfl)) (Yl.load1 F.one25 rfl) ?_
      refine WD.take (i := 5) rfl rfl rfl rfl (by kernel_rfl) (by kernel_rfl) (by kernel_rfl) (fun _ _ _ h => h) (by kernel_rfl) (need_at 1 11 rfl (by kernel_rfl)) (Yl.loadN F.agg63 rfl rfl) ?_
      refine WD.one (i := 6) (by kernel_rfl) rfl ?_
      refine WL.buildSlice F.sl25 F.ez25 rfl rfl rfl rfl (by repeat (first | exact Built.nil | apply Built.one rfl rfl (by repeat constructor) | apply Built.agg rfl rfl (by repeat constructor))) rfl (fun b37 => ?_)
      refine WD.on (closed_of (by kernel_rfl)) (fun w hS => Sx.keep (hS.cell (by repeat (first | exact List.Mem.head _ | apply List.Mem.tail)) rfl) (Sx.gone rfl (Sx.none))) ?_
      refine WD.one (i := 7) (by kernel_rfl) rfl ?_
      refine WL.appendE (news := decs [(i, lo, hi)]) F.el25 rfl rfl rfl (by repeat (first | exact Rem.here | apply Rem.there)) (fun w hS jj u hu => by rw [Nat.zero_add]; exact hS.cell (cs := [.int .i64 (i : Int), .int .i64 (lo : Int), .int .i64 (hi : Int)]) (by repeat (first | exact List.Mem.head _ | apply List.Mem.tail)) hu) rfl (decs_one _) (Nat.le_trans (m := 16777216) (by omega) (by decide)) (by omega) (fun a2 c2 => ?_)
      refine WD.on (closed_of (by kernel_rfl)) (fun w hS => Sx.gone rfl (Sx.gone rfl (Sx.none))) ?_
      refine WD.take (i := 8) rfl rfl rfl rfl (by kernel_rfl) (by kernel_rfl) (by kernel_rfl) (fun _ _ _ h => h) (by kernel_rfl) need_none (Yl.nilCheck rfl) ?_
      refine WD.take (i := 9) rfl rfl rfl rfl (by kernel_rfl) (by kernel_rfl) (by kernel_rfl) (fun _ _ _ h => h) (by kernel_rfl) need_none (Yl.fieldAddr0 F.fld135_0 rfl) ?_
      refine WD.one (i := 10) (by kernel_rfl) rfl ?_
      refine WL.store1 F.one25 rfl rfl rfl (by repeat (first | exact Upd.here | apply Upd.there)) (by repeat constructor) ?_
      refine WD.on (closed_of (by kernel_rfl)) (fun w hS => Sx.gone rfl (Sx.gone rfl (Sx.none))) ?_
      refine WD.done (by kernel_rfl) ?_
      refine WQ.then_normal ?_
      refine WC.seq ?_
      refine WC.region ?_
      refine WL.step ?_
      refine WL.move rfl rfl ?_
      refine WL.step ?_
      refine WL.nilCheck rfl rfl ?_
      refine WL.step ?_
      refine WL.fieldAddr0 F.fld135_0 rfl rfl ?_
      refine WL.step ?_
      refine WL.loadP F.one25 rfl rfl (by repeat (first | exact List.Mem.head _ | apply List.Mem.tail)) rfl ?_
      refine WL.step ?_
      refine WL.lenSl F.und25 rfl rfl ?_
      refine WL.step ?_
      refine WL.add rfl rfl rfl ⟨by omega, by omega⟩ ?_
      refine WL.step ?_
      refine WL.assign rfl rfl ?_
      refine WL.nil ?_
      refine WQ.then_normal ?_
      refine WC.drawsL (by kernel_rfl) (FactsOk.cons (ds := [6]) (LoadOk.one (t := 0) (off := 1) rfl (by repeat (first | exact List.Mem.head _ | apply List.Mem.tail)) rfl) (FactsOk.cons (ds := [6]) (LoadOk.whole (t := 9) rfl (by repeat (first | exact List.Mem.head _ | apply List.Mem.tail))) (FactsOk.nil))) ?_
      refine WD.take (i := 0) rfl rfl rfl rfl (by kernel_rfl) (by kernel_rfl) (by kernel_rfl) (fun _ _ _ h => h) (by kernel_rfl) need_none (Yl.move rfl) ?_
      refine WD.take (i := 1) rfl rfl rfl rfl (by kernel_rfl) (by kernel_rfl) (by kernel_rfl) (fun _ _ _ h => h) (by kernel_rfl) need_none (Yl.nilCheck rfl) ?_
      refine WD.take (i := 2) rfl rfl rfl rfl (by kernel_rfl) (by kernel_rfl) (by kernel_rfl) (fun _ _ _ h => h) (by kernel_rfl) need_none (Yl.fieldAddr0 F.fld135_1 rfl) ?_
      refine WD.take (i := 3) rfl rfl rfl rfl (by kernel_rfl) (by kernel_rfl) (by kernel_rfl) (fun _ _ _ h => h) (by kernel_rfl) (need_at 0 7 rfl (by kernel_rfl)) (Yl.load1 F.one133 rfl) ?_
      refine WD.take (i := 4) rfl rfl rfl rfl (by kernel_rfl) (by kernel_rfl) (by kernel_rfl) (fun _ _ _ h => h) (by kernel_rfl) (need_at 1 7 rfl (by kernel_rfl)) (Yl.loadN F.agg63 rfl rfl) ?_
      refine WD.take (i := 5) rfl rfl rfl rfl (by kernel_rfl) (by kernel_rfl) (by kernel_rfl) (fun _ _ _ h => h) (by kernel_rfl) need_none (Yl.move rfl) ?_
      refine WD.one (i := 6) (by kernel_rfl) rfl ?_
      refine WL.mapPutG (f := fun y => (fk y).map encI) (i, lo, hi) undMD keyDec rfl rfl rfl rfl (by repeat (first | exact Upd.here | apply Upd.there)) ?_
      refine WD.on (closed_of (by kernel_rfl)) (fun w hS => Sx.gone rfl (Sx.gone rfl (Sx.none))) ?_
      refine WD.done (by kernel_rfl) ?_
      refine WQ.then_normal ?_
      refine WC.seq ?_
      refine WC.region ?_
      refine WL.step ?_
      refine WL.move rfl rfl ?_
      refine WL.step ?_
      refine WL.assign rfl rfl ?_
      refine WL.nil ?_
      refine WQ.then_normal ?_
      refine WC.ret ?_
      have hlen2 : (l ++ [(i, lo, hi)]).length = l.length + 1 := by simp
      refine WQ.ret (rs := [.tmp 8]) rfl (.tmp rfl .nil) (fun w hS => ⟨⟨([bm] ++ (ob (.slice a2 (l ++ [(i, lo, hi)]).length c2) ++ ([bk] ++ [])), l ++ [(i, lo, hi)], l.length + 2), MadeN.new hm hk h24 hne hlo hhi hf, by simp⟩, rfl, ?_⟩)
      refine St.mkrClose (a := a2) (c := c2) (b := bk) (n := l.length + 1) (hk.snoc (i, lo, hi) hf) ?_ hlen2.symm (decs_append _ _).symm (((St.pick (St.pick (St.pick hS (c := mpg enc3 bk (fun q => if q = (i, lo, hi) then some (.int .i64 (((l.length + 1 : Nat) : Int) + 1)) else (fk q).map encI)) (by repeat (first | exact Rem.here | apply Rem.there))) (c := rowc (.slice a2 (l.length + 1) c2) (l.length + 1) 63 3 (decs l ++ decs [(i, lo, hi)])) (by repeat (first | exact Rem.here | apply Rem.there))) (c := pt bm [.slice a2 (l.length + 1) c2, .map (some bk)] 135) (by repeat (first | exact Rem.here | apply Rem.there)))).sublist (List.Sublist.cons_cons _ (List.Sublist.cons_cons _ (List.Sublist.cons_cons _ (List.nil_sublist _)))))
      funext q
      by_cases hq : q = (i, lo, hi)
      · simp only [if_pos hq, Option.map_some, encI]; rfl
      · simp only [if_neg hq]
    · skip
      refine WC.drawsL (by kernel_rfl) (FactsOk.cons (ds := []) (LoadOk.one (t := 0) (off := 1) rfl (by repeat (first | exact List.Mem.head _ | apply List.Mem.tail)) rfl) (FactsOk.cons (ds := []) (LoadOk.whole (t := 9) rfl (by repeat (first | exact List.Mem.head _ | apply List.Mem.tail))) (FactsOk.cons (ds := []) (LoadOk.by (Y := fun w => (mpg enc3 bk (fun y => (fk y).map encI)).ok w) (fun w hS => hS.ok _ (by repeat (first | exact List.Mem.head _ | apply List.Mem.tail)))) (FactsOk.nil)))) ?_
      refine WD.take (i := 0) rfl rfl rfl rfl (by kernel_rfl) (by kernel_rfl) (by kernel_rfl) (fun _ _ _ h => h) (by kernel_rfl) need_none (Yl.move rfl) ?_
      refine WD.take (i := 1) rfl rfl rfl rfl (by kernel_rfl) (by kernel_rfl) (by kernel_rfl) (fun _ _ _ h => h) (by kernel_rfl) need_none (Yl.nilCheck rfl) ?_
      refine WD.take (i := 2) rfl rfl rfl rfl (by kernel_rfl) (by kernel_rfl) (by kernel_rfl) (fun _ _ _ h => h) (by kernel_rfl) need_none (Yl.fieldAddr0 F.fld135_1 rfl) ?_
      refine WD.take (i := 3) rfl rfl rfl rfl (by kernel_rfl) (by kernel_rfl) (by kernel_rfl) (fun _ _ _ h => h) (by kernel_rfl) (need_at 0 11 rfl (by kernel_rfl)) (Yl.load1 F.one133 rfl) ?_
      refine WD.take (i := 4) rfl rfl rfl rfl (by kernel_rfl) (by kernel_rfl) (by kernel_rfl) (fun _ _ _ h => h) (by kernel_rfl) (need_at 1 11 rfl (by kernel_rfl)) (Yl.loadN F.agg63 rfl rfl) ?_
      refine WD.take (i := 5) rfl rfl rfl rfl (by kernel_rfl) (by kernel_rfl) (by kernel_rfl) (fun _ _ _ h => h) (by kernel_rfl) (need_at 2 11 rfl (by kernel_rfl)) (Yl.lookupHit (f := fun y => (fk y).map encI) (v := encI p) (i, lo, hi) undMD keyDec zeroInt rfl rfl rfl (by rw [hf]; rfl)) ?_
      refine WD.take (i := 6) rfl rfl rfl rfl (by kernel_rfl) (by kernel_rfl) (by kernel_rfl) (fun _ _ _ h => h) (by kernel_rfl) need_none (Yl.move rfl) ?_
      refine WD.take (i := 7) rfl rfl rfl rfl (by kernel_rfl) (by kernel_rfl) (by kernel_rfl) (fun _ _ _ h => h) (by kernel_rfl) need_none (Yl.extract rfl rfl) ?_
      refine WD.take (i := 8) rfl rfl rfl rfl (by kernel_rfl) (by kernel_rfl) (by kernel_rfl) (fun _ _ _ h => h) (by kernel_rfl) need_none (Yl.extract rfl rfl) ?_
      refine WD.take (i := 9) rfl rfl rfl rfl (by kernel_rfl) (by kernel_rfl) (by kernel_rfl) (fun _ _ _ h => h) (by kernel_rfl) need_none (Yl.assign rfl) ?_
      refine WD.take (i := 10) rfl rfl rfl rfl (by kernel_rfl) (by kernel_rfl) (by kernel_rfl) (fun _ _ _ h => h) (by kernel_rfl) need_none (Yl.assign rfl) ?_
      refine WD.done (by kernel_rfl) ?_
      refine WQ.then_normal ?_
      refine WC.seq ?_
      refine WC.seq ?_
      refine WC.region ?_
      refine WL.step ?_
      refine WL.move rfl rfl ?_
      refine WL.step ?_
      refine WL.not rfl rfl ?_
      refine WL.nil ?_
      refine WQ.then_normal ?_
      refine WC.condF rfl ?_
      refine WC.skip ?_
      refine WQ.then_normal ?_
      refine WC.seq ?_
      refine WC.region ?_
      refine WL.step ?_
      refine WL.move rfl rfl ?_
      refine WL.step ?_
      refine WL.assign rfl rfl ?_
      refine WL.nil ?_
      refine WQ.then_normal ?_
      refine WC.ret ?_
      refine WQ.ret (rs := [.tmp 8]) rfl (.tmp rfl .nil) (fun w hS => ⟨⟨(Fp, l, p), MadeN.known hm hk hne hlo hhi hf, Nat.le_succ _⟩, rfl, ?_⟩)
      exact St.bunClose (Cs := mkCs bm l) (a, c, bk, fk) hk h1 h2 (((St.pick (St.pick (St.pick hS (c := mpg enc3 bk (fun y => (fk y).map encI)) (by repeat (first | exact Rem.here | apply Rem.there))) (c := rowc (.slice a l.length c) l.length 63 3 (decs l)) (by repeat (first | exact Rem.here | apply Rem.there))) (c := pt bm [.slice a l.length c, .map (some bk)] 135) (by repeat (first | exact Rem.here | apply Rem.there)))).sublist (List.Sublist.cons_cons _ (List.Sublist.cons_cons _ (List.Sublist.cons_cons _ (List.nil_sublist _)))))

end Go.Proofs.Ytkgllhkhdjodeaa

/-
  The walk through a maker: its memory.
-/
namespace Go.Proofs.Ytkgllhkhdjodeaa
open Go Go.Eng Go.Proofs Dg
theorem place_map {f : Nat → Option Nat} {r n : Nat} {z : Int} (hz : z = (n : Int)) : (fun q : Nat => if q = r then some (Value.int .i64 z) else (f q).map encI) = (fun y => (if y = r then some n else f y).map encI) := by
  funext q
  by_cases h : q = r
  · rw [if_pos h, if_pos h, hz]; rfl
  · rw [if_neg h, if_neg h]
theorem place_map0 : (fun q : Nat => if q = 1 then some (Value.int .i64 1) else if q = 0 then some (Value.int .i64 0) else none) = (fun y => (if y = 1 then some 1 else if y = 0 then some 0 else none : Option Nat).map encI) := by
  funext q
  by_cases h : q = 1
  · rw [if_pos h, if_pos h]; rfl
  · rw [if_neg h, if_neg h]
    by_cases h0 : q = 0
    · rw [if_pos h0, if_pos h0]; rfl
    · rw [if_neg h0, if_neg h0]; rfl
abbrev viCs (bo bk : Nat) (o : List Dec) (x : Option Addr × Nat × (Nat → Option Nat)) : List Chunk :=
  [pt bo [.slice x.1 o.length x.2.1] 25, rowc (.slice x.1 o.length x.2.1) o.length 63 3 (decs o), mpg encI bk (fun r => (x.2.2 r).map encI)]
def vis (F : List Nat) (bo bk : Nat) (l o : List Dec) : Chunk := bun F (viCs bo bk o) (fun x => PlaceOk l o x.2.2)
theorem vis_fp {bo bk : Nat} {o : List Dec} (x : Option Addr × Nat × (Nat → Option Nat)) : FpL (viCs bo bk o x) ([bo] ++ (ob (.slice x.1 o.length x.2.1) ++ ([bk] ++ []))) := .cons FpIs.pt (.cons FpIs.rowc (.cons FpIs.mpg .nil))
theorem St.visClose {w0 w : World} {O : List Nat} {C : List Chunk} {bo bk n c : Nat} {l o : List Dec} {a : Option Addr} {f : Nat → Option Nat} {g : Nat → Option Value} (hf : PlaceOk l o f) (hg : g = fun y => (f y).map encI) (hn : n = o.length) {xs : List Value} (hx : xs = decs o)
    (h : St w0 O (pt bo [.slice a n c] 25 :: rowc (.slice a n c) n 63 3 xs :: mpg encI bk g :: C) w) : ∃ F, St w0 O (vis F bo bk l o :: C) w := by
  subst hg; subst hn; subst hx
  refine ⟨_, St.bunClose' (Cs := viCs bo bk o) (a, c, f) hf (vis_fp (a, c, f)) h⟩
abbrev visF (bp bm bv bo : Nat) : Value := .func (.func 80) [].toArray [pp bp, pp bm, pp bv, pp bo].toArray
/-- Nodes that can be read, apart from some blocks. -/
def RdDecO (w : World) (l : List Dec) (a : Option Addr) (F : List Nat) : Prop := ∀ j u, (decs l)[j]? = some u → ∃ b off, a = some ⟨b, off, none⟩ ∧ w.cell? ⟨b, off + j, none⟩ = some u ∧ b ∉ F
theorem RdDecO.at {w : World} {l : List Dec} {a : Option Addr} {F : List Nat} (h : RdDecO w l a F) {k : Nat} {x : Dec} (hk : l[k]? = some x) : ∃ b off, a = some ⟨b, off, none⟩ ∧ b ∉ F ∧ ∀ j u, [Value.int .i64 (x.1 : Int), .int .i64 (x.2.1 : Int), .int .i64 (x.2.2 : Int)][j]? = some u → w.cell? ⟨b, off + k * 3 + j, none⟩ = some u := by
  obtain ⟨b, off, ha, _, hb⟩ := h (k * 3 + 0) _ (decs_at hk 0 _ rfl)
  refine ⟨b, off, ha, hb, fun j u hj => ?_⟩
  obtain ⟨b', off', ha', hc, _⟩ := h (k * 3 + j) u (decs_at hk j u hj)
  rw [ha] at ha'
  injection ha' with e
  injection e with e1 e2
  subst e1; subst e2
  rw [Nat.add_assoc]; exact hc
structure VEnv (w : World) (F : List Nat) (bp bmv bv bo bk bm : Nat) (l : List Dec) (a : Option Addr) (c : Nat) : Prop where
  pl : w.cell? ⟨bp, 0, none⟩ = some (.map (some bk))
  pl' : bp ∉ F
  mv : w.cell? ⟨bmv, 0, none⟩ = some (pp bm)
  mv' : bmv ∉ F
  vi : w.cell? ⟨bv, 0, none⟩ = some (visF bp bmv bv bo)
  vi' : bv ∉ F
  li : w.cell? ⟨bm, 0, none⟩ = some (.slice a l.length c)
  li' : bm ∉ F
  rd : RdDecO w l a F
theorem VEnv.next {w0 w : World} {F F' : List Nat} {C1 : List Chunk} {bp bmv bv bo bk bm c : Nat} {l o : List Dec} {a : Option Addr} (h : VEnv w0 F bp bmv bv bo bk bm l a c) (hS : St w0 F ([vis F' bo bk l o] ++ C1) w) : VEnv w F' bp bmv bv bo bk bm l a c := by
  have hap := fun {z : Nat} (h1 : z < w0.heap.size) (h2 : z ∉ F) => hS.apart (F := F') bun_O2 h1 h2
  refine ⟨hS.oldc h.pl h.pl', hap (World.block_lt_of_cell? w0 _ h.pl) h.pl', hS.oldc h.mv h.mv', hap (World.block_lt_of_cell? w0 _ h.mv) h.mv', hS.oldc h.vi h.vi', hap (World.block_lt_of_cell? w0 _ h.vi) h.vi', hS.oldc h.li h.li', hap (World.block_lt_of_cell? w0 _ h.li) h.li', fun j u hu => ?_⟩
  obtain ⟨b, off, e1, e2, e3⟩ := h.rd j u hu
  exact ⟨b, off, e1, hS.oldc e2 e3, hap (World.block_lt_of_cell? w0 _ e2) e3⟩
end Go.Proofs.Ytkgllhkhdjodeaa

namespace Go.Proofs.Ytkgllhkhdjodeaa
open Go Go.Eng Go.Proofs Dg
theorem visit_c (bp bmv bv bo bk bm : Nat) (l : List Dec) (a : Option Addr) (c : Nat) (hl : Mk l) (hll : l.length ≤ 16777216) : ∀ (n r : Nat), r < n → ∀ (Fp : List Nat) (o : List Dec) (w : World), r < l.length + 2 → Mk o → (∃ m, (trs l r).ok m) → (visitT (trs l r) o).1.length ≤ 16777216 → VEnv w Fp bp bmv bv bo bk bm l a c → St w Fp [vis Fp bo bk l o] w →
    Calls Try.prog 80 [.int .i64 (r : Int), pp bp, pp bmv, pp bv, pp bo].toArray w fun e w' => ∃ x : List Nat, e = .returned (.int .i64 ((visitT (trs l r) o).2 : Int)) ∧ St w Fp [vis x bo bk l (visitT (trs l r) o).1] w' := by
  intro n
  induction n with
  | zero => intro r hr; omega
  | succ n hrec =>
  intro r hrn Fp o w hr ho ⟨mo, hok⟩ hb hE hS0
  obtain ⟨⟨a2, c2, fk⟩, hk, h1, h2, hS0⟩ := hS0.bunOpen
  have hk : PlaceOk l o fk := hk
  simp only [List.cons_append, List.nil_append] at hS0
  refine enter Try.func80 rfl Try.ntmps80 rfl (C := [pt bo [.slice a2 o.length c2] 25, rowc (.slice a2 o.length c2) o.length 63 3 (decs o), mpg encI bk (fun y => (fk y).map encI)]) hS0 ?_
  refine WC.seq ?_
  refine WC.region ?_
  refine WL.step ?_
  refine WL.assign rfl rfl ?_
  refine WL.nil ?_
  refine WQ.then_normal ?_
  refine WC.seq ?_
  refine WC.seq ?_
  rcases Option.eq_none_or_eq_some (fk r) with hf | ⟨p, hf⟩
  · skip
    obtain ⟨x, hr2, hx, hlo, hhi, hx24, htr, hlk⟩ := hk.miss hl hr hf
    rw [htr] at hlk hok hb
    have hvt : visitT (trs l r) o = ((visitT (trs l x.2.2) (visitT (trs l x.2.1) o).1).1 ++ [(x.1, (visitT (trs l x.2.1) o).2, (visitT (trs l x.2.2) (visitT (trs l x.2.1) o).1).2)], (visitT (trs l x.2.2) (visitT (trs l x.2.1) o).1).1.length + 2) := by rw [htr]; show visitT (.nd x.1 (trs l x.2.1) (trs l x.2.2)) o = _; conv => lhs; unfold visitT; rw [hlk]
    have hb0 : (visitT (.nd x.1 (trs l x.2.1) (trs l x.2.2)) o).1.length = (visitT (trs l x.2.2) (visitT (trs l x.2.1) o).1).1.length + 1 := by rw [← htr, hvt]; simp
    have hb2 := visitT_len (trs l x.2.2) (visitT (trs l x.2.1) o).1
    have hb1 := visitT_len (trs l x.2.1) o
    have hm1 := visitT_mk hok.2.2.2.1 ho
    have hm2 := visitT_mk hok.2.2.2.2 hm1
    obtain ⟨bl, off, rfl, hbl, hcx⟩ := hE.rd.at hx
    have hri : ((r - 2 : Nat) : Int) = (r : Int) - 2 := by omega
    refine WC.region ?_
    refine WL.step ?_
    refine WL.load1 F.one136 rfl rfl (v := .map (some bk)) (fun w hS => hS.oldc hE.pl hE.pl') ?_
    refine WL.step ?_
    refine WL.move rfl rfl ?_
    refine WL.step ?_
    refine WL.lookupMiss (f := fun y => (fk y).map encI) r undMI keyInt zeroInt rfl rfl rfl rfl (by repeat (first | exact List.Mem.head _ | apply List.Mem.tail)) (by rw [hf]; rfl) ?_
    refine WL.step ?_
    refine WL.move rfl rfl ?_
    refine WL.step ?_
    refine WL.extract rfl rfl rfl ?_
    refine WL.step ?_
    refine WL.extract rfl rfl rfl ?_
    refine WL.step ?_
    refine WL.assign rfl rfl ?_
    refine WL.step ?_
    refine WL.assign rfl rfl ?_
    refine WL.nil ?_
    refine WQ.then_normal ?_
    refine WC.seq ?_
    refine WC.region ?_
    refine WL.step ?_
    refine WL.move rfl rfl ?_
    refine WL.nil ?_
    refine WQ.then_normal ?_
    refine WC.condF rfl ?_
    refine WC.skip ?_
    refine WQ.then_normal ?_
    refine WC.seq ?_
    refine WC.region ?_
    refine WL.step ?_
    refine WL.load1 F.one96 rfl rfl (v := pp bm) (fun w hS => hS.oldc hE.mv hE.mv') ?_
    refine WL.step ?_
    refine WL.nilCheck rfl rfl ?_
    refine WL.step ?_
    refine WL.fieldAddr0 F.fld135_0 rfl rfl ?_
    refine WL.step ?_
    refine WL.load1 F.one25 rfl rfl (v := .slice (some ⟨bl, off, none⟩) l.length c) (fun w hS => hS.oldc hE.li hE.li') ?_
    refine WL.step ?_
    refine WL.move rfl rfl ?_
    refine WL.step ?_
    refine WL.sub rfl rfl rfl ⟨by omega, by omega⟩ ?_
    refine WA.say 25 (.int .i64 ((r - 2 : Nat) : Int)) (by rw [hri]; rfl) ?_
    refine WL.step ?_
    refine WL.indexAddr F.sl25 rfl rfl rfl (List.getElem?_eq_some_iff.1 hx).1 ?_
    refine WL.step ?_
    refine WL.loadN F.agg63 rfl rfl (vs := [Value.int .i64 (x.1 : Int), .int .i64 (x.2.1 : Int), .int .i64 (x.2.2 : Int)]) rfl (fun w hS j v hv => hS.oldc (hcx j v hv) hbl) ?_
    refine WL.step ?_
    refine WL.alloc F.zero63 rfl (fun b9 => ?_)
    refine WL.step ?_
    refine WL.storeN F.agg63 rfl rfl rfl (by simp [Value.oneCell']) (by repeat (first | exact Upd.here | apply Upd.there)) (by repeat constructor) ?_
    refine WL.nil ?_
    refine WQ.then_normal ?_
    refine WC.seq ?_
    refine WC.region ?_
    refine WL.step ?_
    refine WL.load1 F.one94 rfl rfl (v := visF bp bmv bv bo) (fun w hS => hS.oldc hE.vi hE.vi') ?_
    refine WL.step ?_
    refine WL.fieldAddr0 F.fld63_1 rfl rfl ?_
    refine WL.step ?_
    refine WL.loadP F.one3 rfl rfl (by repeat (first | exact List.Mem.head _ | apply List.Mem.tail)) rfl ?_
    refine WA.chunks (C' := [vis Fp bo bk l o, pt b9 [Value.int .i64 (x.1 : Int), .int .i64 (x.2.1 : Int), .int .i64 (x.2.2 : Int)] 63]) (fun w hS => St.bunClose (Cs := viCs bo bk o) (a2, c2, fk) hk h1 h2 (((St.pick (St.pick (St.pick (St.pick hS (c := pt b9 [Value.int .i64 (x.1 : Int), .int .i64 (x.2.1 : Int), .int .i64 (x.2.2 : Int)] 63) (by repeat (first | exact Rem.here | apply Rem.there))) (c := mpg encI bk (fun y => (fk y).map encI)) (by repeat (first | exact Rem.here | apply Rem.there))) (c := rowc (.slice a2 o.length c2) o.length 63 3 (decs o)) (by repeat (first | exact Rem.here | apply Rem.there))) (c := pt bo [.slice a2 o.length c2] 25) (by repeat (first | exact Rem.here | apply Rem.there)))).sublist (List.Sublist.cons_cons _ (List.Sublist.cons_cons _ (List.Sublist.cons_cons _ (List.Sublist.cons_cons _ (List.nil_sublist _))))))) ?_
    refine WL.step ?_
    refine WL.callFC (β := List Nat) (us := []) (cap := [pp bp, pp bmv, pp bv, pp bo]) (res := fun y => .int .i64 ((visitT (trs l x.2.1) o).2 : Int)) (cs := fun y => [vis y bo bk l (visitT (trs l x.2.1) o).1]) (Cs := [vis Fp bo bk l o]) (C1 := [pt b9 [Value.int .i64 (x.1 : Int), .int .i64 (x.2.1 : Int), .int .i64 (x.2.2 : Int)] 63]) (O' := Fp) F.fun80 (fun d h => by cases h; rfl) rfl rfl (List.Perm.refl _) bun_O1 bun_O2 (fun w hS hS2 => hrec x.2.1 (by omega) Fp o w (by omega) ho ⟨_, hok.2.2.2.1⟩ (by omega) (hE.next hS) hS2) (fun Fp1 => ?_)
    refine WL.step ?_
    refine WL.assign rfl rfl ?_
    refine WL.nil ?_
    refine WQ.then_normal ?_
    refine WC.seq ?_
    refine WC.region ?_
    refine WL.step ?_
    refine WL.load1 F.one94 rfl rfl (v := visF bp bmv bv bo) (fun w hS => hS.oldc hE.vi hE.vi') ?_
    refine WL.step ?_
    refine WL.fieldAddr0 F.fld63_2 rfl rfl ?_
    refine WL.step ?_
    refine WL.loadP F.one3 rfl rfl (by repeat (first | exact List.Mem.head _ | apply List.Mem.tail)) rfl ?_
    refine WL.step ?_
    refine WL.callFC (β := List Nat) (us := []) (cap := [pp bp, pp bmv, pp bv, pp bo]) (res := fun y => .int .i64 ((visitT (trs l x.2.2) (visitT (trs l x.2.1) o).1).2 : Int)) (cs := fun y => [vis y bo bk l (visitT (trs l x.2.2) (visitT (trs l x.2.1) o).1).1]) (Cs := [vis Fp1 bo bk l (visitT (trs l x.2.1) o).1]) (C1 := [pt b9 [Value.int .i64 (x.1 : Int), .int .i64 (x.2.1 : Int), .int .i64 (x.2.2 : Int)] 63]) (O' := Fp1) F.fun80 (fun d h => by cases h; rfl) rfl rfl (List.Perm.refl _) bun_O1 bun_O2 (fun w hS hS2 => hrec x.2.2 (by omega) Fp1 (visitT (trs l x.2.1) o).1 w (by omega) hm1 ⟨_, hok.2.2.2.2⟩ (by omega) (hE.next hS) hS2) (fun Fp2 => ?_)
    refine WL.step ?_
    refine WL.assign rfl rfl ?_
    refine WL.nil ?_
    refine WQ.then_normal ?_
    refine WC.seq ?_
    refine WC.region ?_
    refine WA.openB (fun x3 hk3 h13 h23 => ?_)
    obtain ⟨a3, c3, f3⟩ := x3
    have hk3 : PlaceOk l (visitT (trs l x.2.2) (visitT (trs l x.2.1) o).1).1 f3 := hk3
    simp only [viCs, List.cons_append, List.nil_append]
    refine WL.step ?_
    refine WL.loadP F.one25 rfl rfl (by repeat (first | exact List.Mem.head _ | apply List.Mem.tail)) rfl ?_
    refine WL.step ?_
    refine WL.fieldAddr0 F.fld63_0 rfl rfl ?_
    refine WL.step ?_
    refine WL.loadP F.one3 rfl rfl (by repeat (first | exact List.Mem.head _ | apply List.Mem.tail)) rfl ?_
    refine WL.step ?_
    refine WL.move rfl rfl ?_
    refine WL.step ?_
    refine WL.move rfl rfl ?_
    refine WL.step ?_
    refine WL.build F.stT63 rfl (by repeat (first | exact Built.nil | apply Built.one rfl rfl (by repeat constructor) | apply Built.agg rfl rfl (by repeat constructor))) rfl ?_
    refine WL.step ?_
    refine WL.buildSlice F.sl25 F.ez25 rfl rfl rfl rfl (by repeat (first | exact Built.nil | apply Built.one rfl rfl (by repeat constructor) | apply Built.agg rfl rfl (by repeat constructor))) rfl (fun b42 => ?_)
    refine WL.step ?_
    refine WL.appendE (news := decs [(x.1, (visitT (trs l x.2.1) o).2, (visitT (trs l x.2.2) (visitT (trs l x.2.1) o).1).2)]) F.el25 rfl rfl rfl (by repeat (first | exact Rem.here | apply Rem.there)) (fun w hS jj u hu => by rw [Nat.zero_add]; exact hS.cell (cs := [.int .i64 (x.1 : Int), .int .i64 ((visitT (trs l x.2.1) o).2 : Int), .int .i64 ((visitT (trs l x.2.2) (visitT (trs l x.2.1) o).1).2 : Int)]) (by repeat (first | exact List.Mem.head _ | apply List.Mem.tail)) hu) rfl (decs_one _) (Nat.le_trans (m := 16777217) (by omega) (by decide)) (by omega) (fun a4 c4 => ?_)
    refine WL.step ?_
    refine WL.store1 F.one25 rfl rfl rfl (by repeat (first | exact Upd.here | apply Upd.there)) (by repeat constructor) ?_
    refine WL.nil ?_
    refine WQ.then_normal ?_
    refine WC.seq ?_
    refine WC.region ?_
    refine WL.step ?_
    refine WL.load1 F.one136 rfl rfl (v := .map (some bk)) (fun w hS => hS.oldc hE.pl hE.pl') ?_
    refine WL.step ?_
    refine WL.move rfl rfl ?_
    refine WL.step ?_
    refine WL.loadP F.one25 rfl rfl (by repeat (first | exact List.Mem.head _ | apply List.Mem.tail)) rfl ?_
    refine WL.step ?_
    refine WL.lenSl F.und25 rfl rfl ?_
    refine WL.step ?_
    refine WL.add rfl rfl rfl ⟨by omega, by omega⟩ ?_
    refine WL.step ?_
    refine WL.mapPutG (f := fun y => (f3 y).map encI) r undMI keyInt rfl rfl rfl rfl (by repeat (first | exact Upd.here | apply Upd.there)) ?_
    refine WL.nil ?_
    refine WQ.then_normal ?_
    refine WC.seq ?_
    refine WC.region ?_
    refine WL.step ?_
    refine WL.loadP F.one25 rfl rfl (by repeat (first | exact List.Mem.head _ | apply List.Mem.tail)) rfl ?_
    refine WL.step ?_
    refine WL.lenSl F.und25 rfl rfl ?_
    refine WL.step ?_
    refine WL.add rfl rfl rfl ⟨by omega, by omega⟩ ?_
    refine WL.step ?_
    refine WL.assign rfl rfl ?_
    refine WL.nil ?_
    refine WQ.then_normal ?_
    refine WC.ret ?_
    have htn := visitT_at (trs l r) o
    rw [hvt, htr] at htn
    have hst := hk3.step hl hr htr hlk rfl (v := x.1) (p1 := (visitT (trs l x.2.1) o).2) (p2 := (visitT (trs l x.2.2) (visitT (trs l x.2.1) o).1).2) htn.2
    refine WQ.ret (rs := [.tmp 6]) rfl (.tmp rfl .nil) (fun w hS => ?_)
    obtain ⟨F9, hF9⟩ := St.visClose (a := a4) (c := c4) (bk := bk) (bo := bo) (n := (visitT (trs l x.2.2) (visitT (trs l x.2.1) o).1).1.length + 1) hst (place_map (z := ((((visitT (trs l x.2.2) (visitT (trs l x.2.1) o).1).1.length + 1 : Nat) : Int) + 1)) (by omega)) (by simp) (decs_append _ _).symm (((St.pick (St.pick (St.pick hS (c := mpg encI bk (fun q => if q = r then some (.int .i64 ((((visitT (trs l x.2.2) (visitT (trs l x.2.1) o).1).1.length + 1 : Nat) : Int) + 1)) else (f3 q).map encI)) (by repeat (first | exact Rem.here | apply Rem.there))) (c := rowc (.slice a4 ((visitT (trs l x.2.2) (visitT (trs l x.2.1) o).1).1.length + 1) c4) ((visitT (trs l x.2.2) (visitT (trs l x.2.1) o).1).1.length + 1) 63 3 (decs (visitT (trs l x.2.2) (visitT (trs l x.2.1) o).1).1 ++ decs [(x.1, (visitT (trs l x.2.1) o).2, (visitT (trs l x.2.2) (visitT (trs l x.2.1) o).1).2)])) (by repeat (first | exact Rem.here | apply Rem.there))) (c := pt bo [.slice a4 ((visitT (trs l x.2.2) (visitT (trs l x.2.1) o).1).1.length + 1) c4] 25) (by repeat (first | exact Rem.here | apply Rem.there)))).sublist (List.Sublist.cons_cons _ (List.Sublist.cons_cons _ (List.Sublist.cons_cons _ (List.nil_sublist _)))))
    exact ⟨F9, by rw [hvt]; rfl, by rw [hvt]; exact hF9⟩
  · skip
    refine WC.region ?_
    refine WL.step ?_
    refine WL.load1 F.one136 rfl rfl (v := .map (some bk)) (fun w hS => hS.oldc hE.pl hE.pl') ?_
    refine WL.step ?_
    refine WL.move rfl rfl ?_
    refine WL.step ?_
    refine WL.lookupHit (f := fun y => (fk y).map encI) (v := encI p) r undMI keyInt zeroInt rfl rfl rfl rfl (by repeat (first | exact List.Mem.head _ | apply List.Mem.tail)) (by rw [hf]; rfl) ?_
    refine WL.step ?_
    refine WL.move rfl rfl ?_
    refine WL.step ?_
    refine WL.extract rfl rfl rfl ?_
    refine WL.step ?_
    refine WL.extract rfl rfl rfl ?_
    refine WL.step ?_
    refine WL.assign rfl rfl ?_
    refine WL.step ?_
    refine WL.assign rfl rfl ?_
    refine WL.nil ?_
    refine WQ.then_normal ?_
    refine WC.seq ?_
    refine WC.region ?_
    refine WL.step ?_
    refine WL.move rfl rfl ?_
    refine WL.nil ?_
    refine WQ.then_normal ?_
    refine WC.condT rfl ?_
    refine WC.seq ?_
    refine WC.region ?_
    refine WL.step ?_
    refine WL.move rfl rfl ?_
    refine WL.step ?_
    refine WL.assign rfl rfl ?_
    refine WL.nil ?_
    refine WQ.then_normal ?_
    refine WC.ret ?_
    refine WQ.then_ret ?_
    have hh := hk.hit ho hr hf
    refine WQ.ret (rs := [.tmp 6]) rfl (.tmp rfl .nil) (fun w hS => ⟨Fp, by rw [hh]; rfl, ?_⟩)
    rw [hh]
    exact hS.bunClose (Cs := viCs bo bk o) (a2, c2, fk) hk h1 h2

end Go.Proofs.Ytkgllhkhdjodeaa

/-
  Stores into a row of the holder's own.
-/
namespace Go.Eng
open Go Go.RowKit
theorem SetN.append {cs cs' vs : List Value} {off : Nat} (ys : List Value) (h : SetN cs off vs cs') : SetN (cs ++ ys) off vs (cs' ++ ys) := by
  induction h with
  | nil => exact .done
  | done => exact .done
  | put _ ih => exact .put ih
  | skip _ ih => exact .skip ih
theorem SetN.len {cs cs' vs : List Value} {off : Nat} (h : SetN cs off vs cs') : cs'.length = cs.length := by
  obtain ⟨h1, h2⟩ := h.eq
  rw [← h1]; simp; omega
section
variable {P : Program} {w0 : World} {O : List Nat} {ops : Array Oper} {Q : Exit → Act → World → Prop} {N : Nat} {D : List Deferred} {L : FL} {C : List Chunk} {K : Act → World → Prop}
variable {d : Nat} {ty : TypeId} {pos : String} {af : Array Edge}
end
end Go.Eng

/-
  A tree that is partly the entry world's: read it again in any world that keeps the fresh blocks and the old ones.
-/
namespace Go.Eng
open Go Go.RowKit
def Keeps (wb w : World) (F : List Nat) (w' : World) : Prop := (∀ k ∈ F, w'.heap[k]? = w.heap[k]?) ∧ ∀ k, k < wb.heap.size → w'.heap[k]? = wb.heap[k]?
def shr (wb : World) (F : List Nat) (t : Tree) (v : Value) : Chunk where
  fp k := k ∈ F
  ok w := ∃ G, ∀ w', Keeps wb w F w' → rdT w' t G v
  loc w w' h := fun ⟨G, hG⟩ => ⟨G, fun w2 hk => hG w2 ⟨fun k hkF => (hk.1 k hkF).trans (h k hkF), hk.2⟩⟩
def shrL (wb : World) (F : List Nat) (ts : List Tree) (vs : List Value) : Chunk where
  fp k := k ∈ F
  ok w := ∃ G, ∀ w', Keeps wb w F w' → rdL w' ts G vs
  loc w w' h := fun ⟨G, hG⟩ => ⟨G, fun w2 hk => hG w2 ⟨fun k hkF => (hk.1 k hkF).trans (h k hkF), hk.2⟩⟩
section
variable {w0 : World} {O : List Nat} {C : List Chunk}
end
end Go.Eng

namespace Go.Eng
open Go Go.RowKit
section
variable {P : Program} {w0 : World} {O : List Nat} {ops : Array Oper} {Q : Exit → Act → World → Prop} {N : Nat} {D : List Deferred} {L : FL} {C : List Chunk} {K : Act → World → Prop}
variable {Fs : List (List Nat × (World → Prop))}
theorem WD.three {i j l fuel : Nat} {oi oj ol : Oper} {listed : Array Bool} (hr : Region.ready .any ops listed = [i, j, l]) (hi : ops[i]? = some oi) (hj : ops[j]? = some oj) (hl : ops[l]? = some ol)
    (h : WK P w0 O ops Q oi (fun a w => Sx Fs (listed.setIfInBounds i true) w ∧ wpAnyT P ops Q Fs fuel (listed.setIfInBounds i true) a w) N D L C)
    (h' : WK P w0 O ops Q oj (fun a w => Sx Fs (listed.setIfInBounds j true) w ∧ wpAnyT P ops Q Fs fuel (listed.setIfInBounds j true) a w) N D L C)
    (h'' : WK P w0 O ops Q ol (fun a w => Sx Fs (listed.setIfInBounds l true) w ∧ wpAnyT P ops Q Fs fuel (listed.setIfInBounds l true) a w) N D L C) : WD P w0 O ops Q Fs (fuel + 1) listed N D L C := fun hc a w hFr hS hSx => by
  refine ⟨fun h => (by rw [h] at hr; cases hr), fun k hk => ?_⟩
  rw [hr] at hk
  simp only [List.mem_cons, List.not_mem_nil, or_false] at hk
  rcases hk with rfl | rfl | rfl
  · have := h a w hFr hS
    unfold wpOp
    simp only [hi]
    exact this
  · have := h' a w hFr hS
    unfold wpOp
    simp only [hj]
    exact this
  · have := h'' a w hFr hS
    unfold wpOp
    simp only [hl]
    exact this
end
end Go.Eng

/-
  More operations: a map's literal, min, xor.
-/
namespace Go.Eng
open Go Go.RowKit
section
variable {P : Program} {w0 : World} {O : List Nat} {ops : Array Oper} {Q : Exit → Act → World → Prop} {N : Nat} {D : List Deferred} {L : FL} {C : List Chunk} {K : Act → World → Prop}
variable {d : Nat} {ty : TypeId} {pos : String} {af : Array Edge}
variable {κ : Type} [DecidableEq κ] {enc : κ → Value} {kt : TypeId}
theorem WL.insertG {t et : TypeId} {x y z : Operand} {b : Nat} {f : κ → Option Value} {vy v : Value} {C' : List Chunk} (k : κ) (hm : P.underlying t = some (.map kt et)) (hk : KeyT P kt enc)
    (hx : ev L x = some (.map (some b))) (hy : ev L y = some vy) (hvy : vy = enc k) (hz : ev L z = some v) (hu : Upd (mpg enc b f) (mpg enc b (fun q => if q = k then some v else f q)) C C') (h : WA w0 O K N D L C') :
    WK P w0 O ops Q ⟨none, .insert t x y z, ty, pos, af, none⟩ K N D L C := fun a w hF hS => by
  subst hvy
  obtain ⟨es, clock, kvs, h1, h2, h3⟩ := hS.ok _ hu.mem
  have hb : b < w.heap.size := ((hS.bnd _ hu.mem) b rfl).1
  have hf := hk.find w k es.toList kvs h2
  cases hh : kidx kvs k 0 with
  | none =>
    rw [hh] at hf
    have hr : (Instr.mapUpdate t (.map (some b)) (enc k) v).run P w = .ok () { w with heap := w.heap.setIfInBounds b (.map (es.push { key := enc k, val := v, born := clock }) (clock + 1)) } := by
      simp [Instr.mapUpdate, run_underlying hm, MapKept.run_getObj_map h1, hk.check, hf, MapKept.run_setObj_map _ h1, Result.andThen]
    refine wpo_skip rfl (w' := { w with heap := w.heap.setIfInBounds b (.map (es.push { key := enc k, val := v, born := clock }) (clock + 1)) }) ?_ (h _ _ hF (hS.setObj hu (fun k => Iff.rfl) (fun k => Iff.rfl) ⟨es.push { key := enc k, val := v, born := clock }, clock + 1, kvs ++ [(k, v)], ?_, ?_, ?_⟩))
    · simp [execOp, hF.ev hx, hF.ev hy, hF.ev hz, hr]
    · show (w.heap.setIfInBounds b _)[b]? = _
      rw [Array.getElem?_setIfInBounds_self_of_lt hb]
    · simp [h2]
    · intro q
      rw [kfind_snoc (kidx_none.1 hh) q]
      simp only [h3]
  | some p =>
    obtain ⟨j, u⟩ := p
    rw [hh] at hf
    obtain ⟨_, g2, g3, g4⟩ := kidx_some hh
    simp only [Nat.sub_zero] at g2 g4
    have hlen : es.toList.length = kvs.length := by have := congrArg List.length h2; simpa using this
    have hjl : j < es.toList.length := by rw [hlen]; exact (List.getElem?_eq_some_iff.1 g2).1
    have hej : es.toList[j]? = some es.toList[j] := List.getElem?_eq_getElem hjl
    have hkey : es.toList[j].key = enc k := by
      have e1 : (es.toList.map (fun e => (e.key, e.val)))[j]? = some (es.toList[j].key, es.toList[j].val) := by rw [List.getElem?_map, hej]; rfl
      rw [h2, List.getElem?_map, g2] at e1
      simp only [Option.map_some, Option.some.injEq, Prod.mk.injEq] at e1
      exact e1.1.symm
    have hej' : es[j]? = some es.toList[j] := by rw [← Array.getElem?_toList]; exact hej
    have hkey2 := hkey
    simp only [Array.getElem_toList] at hkey2
    have hr : (Instr.mapUpdate t (.map (some b)) (enc k) v).run P w = .ok () { w with heap := w.heap.setIfInBounds b (.map (es.modify j fun e => { e with key := enc k, val := v }) clock) } := by
      simp [Instr.mapUpdate, run_underlying hm, MapKept.run_getObj_map h1, hk.check, hf, MapKept.run_setObj_map _ h1, Result.andThen, hej', hkey, hkey2, hk.stays]
    refine wpo_skip rfl (w' := { w with heap := w.heap.setIfInBounds b (.map (es.modify j fun e => { e with key := enc k, val := v }) clock) }) ?_ (h _ _ hF (hS.setObj hu (fun k => Iff.rfl) (fun k => Iff.rfl) ⟨es.modify j fun e => { e with key := enc k, val := v }, clock, kvs.set j (k, v), ?_, ?_, ?_⟩))
    · simp [execOp, hF.ev hx, hF.ev hy, hF.ev hz, hr]
    · show (w.heap.setIfInBounds b _)[b]? = _
      rw [Array.getElem?_setIfInBounds_self_of_lt hb]
    · rw [Array.toList_modify, map_modify_set _ _ _ _ _ hej, h2, List.map_set]
    · intro q
      rw [g4 v q]
      simp only [h3]
theorem WC.cutQ {c : Code} (M : FL) (C' : List Chunk) (hq : NoLook Q) (hx : ∀ Q', NoLook Q' → WQ w0 O Q' .normal N D M C' → WC P w0 O c Q' N D L C) (hy : WQ w0 O Q .normal N D M C') : WC P w0 O c Q N D L C := hx Q hq hy
theorem Yl.minI {F : World → Prop} {x y : Operand} {k k' : IntKind} {m n r : Int} {ts : Array TypeId} (hx : ev L x = some (.int k m)) (hy : ev L y = some (.int k' n)) (hr : (if n < m then n else m) = r) :
    Yl P N D L F ⟨some d, .call { callee := .builtin .min, args := #[x, y], argTypes := ts }, ty, pos, af, none⟩ (.int k r) := fun a w hF _ => by
  subst hr
  simp [execOp, resolve, invoke, builtin, hF.ev hx, hF.ev hy, Builtin.min_, Builtin.min2]
theorem WL.minI {x y : Operand} {k k' : IntKind} {m n r : Int} {ts : Array TypeId} (hd : Nat.blt d N = true) (hx : ev L x = some (.int k m)) (hy : ev L y = some (.int k' n)) (hr : (if n < m then n else m) = r)
    (h : WA w0 O K N D ((d, .int k r) :: L) C) :
    WK P w0 O ops Q ⟨some d, .call { callee := .builtin .min, args := #[x, y], argTypes := ts }, ty, pos, af, none⟩ K N D L C :=
  WL.y (F := fun _ => True) (Yl.minI hx hy hr) hd (fun _ _ => trivial) h
theorem WL.min3 {x y z : Operand} {k k' k'' : IntKind} {m n o r : Int} {ts : Array TypeId} (hd : Nat.blt d N = true) (hx : ev L x = some (.int k m)) (hy : ev L y = some (.int k' n)) (hz : ev L z = some (.int k'' o)) (hr : (if o < (if n < m then n else m) then o else (if n < m then n else m)) = r)
    (h : WA w0 O K N D ((d, .int k r) :: L) C) :
    WK P w0 O ops Q ⟨some d, .call { callee := .builtin .min, args := #[x, y, z], argTypes := ts }, ty, pos, af, none⟩ K N D L C := by
  subst hr
  refine WL.y (F := fun _ => True) (fun a w hF _ => ?_) hd (fun _ _ => trivial) h
  simp [execOp, resolve, invoke, builtin, hF.ev hx, hF.ev hy, hF.ev hz, Builtin.min_, Builtin.min2]
end
end Go.Eng

namespace Go.Proofs.Ytkgllhkhdjodeaa
open Go Go.Eng Go.Proofs Dg
theorem venv_of {w0 w : World} {O : List Nat} {Fv : List Nat} {b2 b4 b5 b6 b7 b9 bm bk c : Nat} {l : List Dec} {a : Option Addr} {fk : Dec → Option Nat} (hS : St w0 O [vis Fv b5 b9 l [], pt b7 [visF b6 b2 b7 b5] 94, pt b6 [.map (some b9)] 136, pt b2 [pp bm] 96, pt b4 [.slice none 0 0, .int .i64 0] 27, pt bm [.slice a l.length c, .map (some bk)] 135, rowc (.slice a l.length c) l.length 63 3 (decs l), mpg enc3 bk (fun y => (fk y).map encI)] w) : VEnv w Fv b6 b2 b7 b5 b9 bm l a c := by
  have hd := hS.disj
  simp only [List.pairwise_cons, List.mem_cons, List.not_mem_nil, or_false, forall_eq_or_imp, forall_eq] at hd
  obtain ⟨⟨d1, d2, d3, d4, d5, d6, d7⟩, _⟩ := hd
  have hap : ∀ {b : Nat} {cs : List Value} {e : TypeId}, (∀ k, (vis Fv b5 b9 l []).fp k → ¬ (pt b cs e).fp k) → b ∉ Fv := fun h hb => h _ hb rfl
  refine ⟨hS.cell (by repeat (first | exact List.Mem.head _ | apply List.Mem.tail)) rfl, hap d2, hS.cell (by repeat (first | exact List.Mem.head _ | apply List.Mem.tail)) rfl, hap d3, hS.cell (by repeat (first | exact List.Mem.head _ | apply List.Mem.tail)) rfl, hap d1, hS.cell (cs := [.slice a l.length c, .map (some bk)]) (by repeat (first | exact List.Mem.head _ | apply List.Mem.tail)) rfl, hap d5, fun j u hu => ?_⟩
  obtain ⟨b, off, e1, e2⟩ := RdDec.of_row (l := l) (a := a) (cap := c) rfl (hS.ok (rowc (.slice a l.length c) l.length 63 3 (decs l)) (by repeat (first | exact List.Mem.head _ | apply List.Mem.tail))) j u hu
  refine ⟨b, off, e1, e2, fun hb => d6 b hb ?_⟩
  show (Value.slice a l.length c).ownBlock = some b
  have hpos : 0 < l.length := by
    have h1 := (List.getElem?_eq_some_iff.1 hu).1
    rw [decs_len] at h1; omega
  obtain ⟨g, hg, _, _⟩ := rowc_addr (hS.ok (rowc (.slice a l.length c) l.length 63 3 (decs l)) (by repeat (first | exact List.Mem.head _ | apply List.Mem.tail))) hpos
  subst hg
  injection e1 with e
  injection e with e _
  rw [← e]; rfl

theorem done_c (Fp : List Nat) (bm : Nat) (l : List Dec) (r : Nat) (w : World) (hm : Mk l) (hr : r < l.length + 2) (ho : (trs l r).ok 0) (hlen : l.length ≤ 16777216) (hS0 : St w Fp [mkr Fp bm l] w) :
    Calls Try.prog 55 [pp bm, .int .i64 (r : Int)].toArray w fun e w' => ∃ x : Option Addr × Nat, e = .returned (dval (trs l r) x.1 x.2) ∧ St w Fp [dC x.1 x.2 (trs l r)] w' := by
  obtain ⟨⟨a, c, bk, fk⟩, hk, h1, h2, hS0⟩ := hS0.bunOpen
  simp only [List.cons_append, List.nil_append] at hS0
  refine enter Try.func55 rfl Try.ntmps55 rfl (C := [pt bm [.slice a l.length c, .map (some bk)] 135, rowc (.slice a l.length c) l.length 63 3 (decs l), mpg enc3 bk (fun y => (fk y).map encI)]) hS0 ?_
  refine WC.seq ?_
  refine WC.region ?_
  refine WL.step ?_
  refine WL.box1 rfl rfl rfl (fun b2 => ?_)
  refine WL.step ?_
  refine WL.alloc F.zero27 rfl (fun b4 => ?_)
  refine WL.nil ?_
  refine WQ.then_normal ?_
  refine WC.seq ?_
  refine WC.region ?_
  refine WL.step ?_
  refine WL.alloc F.zero25 rfl (fun b5 => ?_)
  refine WL.nil ?_
  refine WQ.then_normal ?_
  refine WC.seq ?_
  refine WC.region ?_
  refine WL.step ?_
  refine WL.makeMapG encI rfl (fun b9 => ?_)
  refine WL.step ?_
  refine WL.insertG (f := fun _ : Nat => none) 0 undMI keyInt rfl rfl rfl rfl (by repeat (first | exact Upd.here | apply Upd.there)) ?_
  refine WL.step ?_
  refine WL.insertG (f := fun q : Nat => if q = 0 then some (.int .i64 0) else none) 1 undMI keyInt rfl rfl rfl rfl (by repeat (first | exact Upd.here | apply Upd.there)) ?_
  refine WL.step ?_
  refine WL.move rfl rfl ?_
  refine WL.step ?_
  refine WL.alloc F.zero136 rfl (fun b6 => ?_)
  refine WL.step ?_
  refine WL.store1 F.one136 rfl rfl rfl (by repeat (first | exact Upd.here | apply Upd.there)) (by repeat constructor) ?_
  refine WL.nil ?_
  refine WQ.then_normal ?_
  refine WC.seq ?_
  refine WC.region ?_
  refine WL.step ?_
  refine WL.alloc F.zero94 rfl (fun b7 => ?_)
  refine WL.nil ?_
  refine WQ.then_normal ?_
  refine WC.seq ?_
  refine WC.region ?_
  refine WL.step ?_
  refine WL.makeFunc rfl rfl rfl ?_
  refine WL.step ?_
  refine WL.store1 F.one94 rfl rfl rfl (by repeat (first | exact Upd.here | apply Upd.there)) (by repeat constructor) ?_
  refine WL.nil ?_
  refine WQ.then_normal ?_
  refine WC.seq ?_
  refine WC.region ?_
  refine WA.chunksE (C' := fun Fv => [vis Fv b5 b9 l [], pt b7 [visF b6 b2 b7 b5] 94, pt b6 [.map (some b9)] 136, pt b2 [pp bm] 96, pt b4 [.slice none 0 0, .int .i64 0] 27, pt bm [.slice a l.length c, .map (some bk)] 135, rowc (.slice a l.length c) l.length 63 3 (decs l), mpg enc3 bk (fun y => (fk y).map encI)]) (fun w hS => ?_) (fun Fv => ?_)
  · exact St.visClose (l := l) (o := []) (a := none) (c := 0) (bk := b9) (bo := b5) (n := 0) (PlaceOk.nil hm) place_map0 rfl rfl (((St.pick (St.pick (St.pick (St.pick (St.pick (St.pick (St.pick (St.pick (St.pick (St.pick (hS.rowNil 63 3) (c := mpg enc3 bk (fun y => (fk y).map encI)) (by repeat (first | exact Rem.here | apply Rem.there))) (c := rowc (.slice a l.length c) l.length 63 3 (decs l)) (by repeat (first | exact Rem.here | apply Rem.there))) (c := pt bm [.slice a l.length c, .map (some bk)] 135) (by repeat (first | exact Rem.here | apply Rem.there))) (c := pt b4 [.slice none 0 0, .int .i64 0] 27) (by repeat (first | exact Rem.here | apply Rem.there))) (c := pt b2 [pp bm] 96) (by repeat (first | exact Rem.here | apply Rem.there))) (c := pt b6 [.map (some b9)] 136) (by repeat (first | exact Rem.here | apply Rem.there))) (c := pt b7 [visF b6 b2 b7 b5] 94) (by repeat (first | exact Rem.here | apply Rem.there))) (c := mpg encI b9 (fun q : Nat => if q = 1 then some (Value.int .i64 1) else if q = 0 then some (Value.int .i64 0) else none)) (by repeat (first | exact Rem.here | apply Rem.there))) (c := rowc (.slice none 0 0) 0 63 3 []) (by repeat (first | exact Rem.here | apply Rem.there))) (c := pt b5 [.slice none 0 0] 25) (by repeat (first | exact Rem.here | apply Rem.there)))).sublist (List.Sublist.cons_cons _ (List.Sublist.cons_cons _ (List.Sublist.cons_cons _ (List.Sublist.cons_cons _ (List.Sublist.cons_cons _ (List.Sublist.cons_cons _ (List.Sublist.cons_cons _ (List.Sublist.cons_cons _ (List.Sublist.cons_cons _ (List.Sublist.cons_cons _ (List.nil_sublist _))))))))))))
  refine WL.step ?_
  refine WL.loadP F.one94 rfl rfl (by repeat (first | exact List.Mem.head _ | apply List.Mem.tail)) rfl ?_
  refine WL.step ?_
  refine WL.move rfl rfl ?_
  refine WL.step ?_
  refine WL.callFC (β := List Nat) (us := []) (cap := [pp b6, pp b2, pp b7, pp b5]) (res := fun y => .int .i64 ((visitT (trs l r) []).2 : Int)) (cs := fun y => [vis y b5 b9 l (visitT (trs l r) []).1]) (Cs := [vis Fv b5 b9 l []]) (C1 := [pt b7 [visF b6 b2 b7 b5] 94, pt b6 [.map (some b9)] 136, pt b2 [pp bm] 96, pt b4 [.slice none 0 0, .int .i64 0] 27, pt bm [.slice a l.length c, .map (some bk)] 135, rowc (.slice a l.length c) l.length 63 3 (decs l), mpg enc3 bk (fun y => (fk y).map encI)]) (O' := Fv) F.fun80 (fun d h => by cases h; rfl) rfl rfl (List.Perm.refl _) bun_O1 bun_O2 (fun w hS hS2 => visit_c b6 b2 b7 b5 b9 bm l a c hm (by omega) (r + 1) r (Nat.lt_succ_self _) Fv [] w hr Mk.nil ⟨_, ho⟩ (Nat.le_of_lt (canon_len ho)) (venv_of hS) hS2) (fun F2 => ?_)
  refine WL.step ?_
  refine WL.assign rfl rfl ?_
  refine WL.nil ?_
  refine WQ.then_normal ?_
  refine WC.seq ?_
  refine WC.region ?_
  refine WA.openB (fun x3 hk3 h13 h23 => ?_)
  obtain ⟨a3, c3, f3⟩ := x3
  simp only [viCs, List.cons_append, List.nil_append]
  refine WL.step ?_
  refine WL.loadP F.one25 rfl rfl (by repeat (first | exact List.Mem.head _ | apply List.Mem.tail)) rfl ?_
  refine WL.step ?_
  refine WL.move rfl rfl ?_
  refine WL.step ?_
  refine WL.build F.stT27 rfl (by repeat (first | exact Built.nil | apply Built.one rfl rfl (by repeat constructor) | apply Built.agg rfl rfl (by repeat constructor))) rfl ?_
  refine WL.step ?_
  refine WL.storeN F.agg27 rfl rfl rfl (by simp [Value.oneCell']) (by repeat (first | exact Upd.here | apply Upd.there)) (by repeat constructor) ?_
  refine WL.nil ?_
  refine WQ.then_normal ?_
  refine WC.ret ?_
  refine WQ.ret (rs := [.cell 4 27]) rfl (.cellN F.agg27 rfl (by repeat (first | exact List.Mem.head _ | apply List.Mem.tail)) rfl .nil) (fun w hS => ⟨(a3, c3), rfl, ((St.pick hS (c := dC a3 c3 (trs l r)) (by repeat (first | exact Rem.here | apply Rem.there)))).sublist (List.Sublist.cons_cons _ (List.nil_sublist _))⟩)

end Go.Proofs.Ytkgllhkhdjodeaa

namespace Go.Proofs.Ytkgllhkhdjodeaa
open Go Go.Eng Go.Proofs Dg
structure FoldG (σ : Type) where
  i : Nat
  out : List Int
  ad : Option Addr
  ac : Nat
  s : σ

theorem Fold_c {σ : Type} (ch : σ → Chunk) (Fs : σ → List Nat) (hF : ∀ s, FpIs (ch s) (Fs s)) (fj : Nat) (hg : funB Try.prog fj = some true) (us cap : List Value) (l : List Dec) (a : Option Addr) (c root : Nat) (e0 e1 : Int) (I : List Int → σ → Prop)
    (hll : l.length ≤ 16777216) (hkid : ∀ k x, l[k]? = some x → x.2.1 < k + 2 ∧ x.2.2 < k + 2) (hroot : root < l.length + 2) (s0 : σ) (h0 : I [e0, e1] s0)
    (hj : ∀ (out : List Int) (s : σ) (x : Dec) (z1 z2 : Int) (w : World), l[out.length - 2]? = some x → I out s → out[x.2.1]? = some z1 → out[x.2.2]? = some z2 → St w (Fs s) [ch s] w →
      Calls Try.prog fj (us ++ [Value.int .i64 (x.1 : Int), .int .i64 z1, .int .i64 z2] ++ cap).toArray w fun e w' => ∃ y : { y : σ × Int // I (out ++ [y.2]) y.1 }, e = .returned (.int .i64 y.1.2) ∧ St w (Fs s) [ch y.1.1] w')
    (w : World) (hrd : RdDecO w l a (Fs s0)) (hS0 : St w (Fs s0) [ch s0] w) :
    Calls Try.prog 32 [.agg [.slice a l.length c, .int .i64 (root : Int)].toArray, .int .i64 e0, .int .i64 e1, Value.func (.func fj) us.toArray cap.toArray].toArray w fun e w' =>
      ∃ y : { y : List Int × σ × Int // I y.1 y.2.1 ∧ y.1.length = l.length + 2 ∧ y.1[root]? = some y.2.2 }, e = .returned (.int .i64 y.1.2.2) ∧ St w (Fs s0) [ch y.1.2.1] w' := by
  refine enter Try.func32 rfl Try.ntmps32 rfl (C := [ch s0]) hS0 ?_
  refine WC.seq ?_
  refine WC.region ?_
  refine WL.step ?_
  refine WL.boxN rfl rfl (fun b4 => ?_)
  refine WL.step ?_
  refine WL.assign rfl rfl ?_
  refine WL.nil ?_
  refine WQ.then_normal ?_
  refine WC.seq ?_
  refine WC.region ?_
  refine WL.step ?_
  refine WL.move rfl rfl ?_
  refine WL.step ?_
  refine WL.move rfl rfl ?_
  refine WL.step ?_
  refine WL.buildSlice F.sl23 F.ez23 rfl rfl rfl rfl (by repeat (first | exact Built.nil | apply Built.one rfl rfl (by repeat constructor) | apply Built.agg rfl rfl (by repeat constructor))) rfl (fun b14 => ?_)
  refine WL.step ?_
  refine WL.assign rfl rfl ?_
  refine WL.nil ?_
  refine WQ.then_normal ?_
  refine WC.seq ?_
  refine WC.seq ?_
  refine WC.region ?_
  refine WL.step ?_
  refine WL.fieldAddr0 F.fld27_0 rfl rfl ?_
  refine WL.step ?_
  refine WL.loadP F.one25 rfl rfl (by repeat (first | exact List.Mem.head _ | apply List.Mem.tail)) rfl ?_
  refine WL.step ?_
  refine WL.lenSl F.und25 rfl rfl ?_
  refine WL.step ?_
  refine WL.move rfl rfl ?_
  refine WL.nil ?_
  refine WQ.then_normal ?_
  refine WC.block ?_
  refine WC.chunks (fun w hS => St.rowOf (n := 2) (sz := 1) (cs := [e0, e1].map (Value.int .i64)) (hS.pick (c := pt b14 [.int .i64 e0, .int .i64 e1] 3) (by repeat (first | exact Rem.here | apply Rem.there))) rfl (by decide)) ?_
  refine WC.chunks (C' := [ch s0, rowc (.slice (some ⟨b14, 0, none⟩) 2 2) 2 3 1 ([e0, e1].map (Value.int .i64)), pt b4 [.slice a l.length c, .int .i64 (root : Int)] 27]) (fun w hS => ((St.pick (St.pick (St.pick hS (c := pt b4 [.slice a l.length c, .int .i64 (root : Int)] 27) (by repeat (first | exact Rem.here | apply Rem.there))) (c := rowc (.slice (some ⟨b14, 0, none⟩) 2 2) 2 3 1 ([e0, e1].map (Value.int .i64))) (by repeat (first | exact Rem.here | apply Rem.there))) (c := ch s0) (by repeat (first | exact Rem.here | apply Rem.there)))).sublist (List.Sublist.cons_cons _ (List.Sublist.cons_cons _ (List.Sublist.cons_cons _ (List.nil_sublist _))))) ?_
  refine WC.loop (α := FoldG σ) (fun g => g.i ≤ l.length ∧ g.out.length = g.i + 2 ∧ I g.out g.s) (fun g => [(3, Value.func (.func fj) us.toArray cap.toArray), (4, pp b4), (9, .slice g.ad (g.i + 2) g.ac), (16, .slice a l.length c), (17, .int .i64 (l.length : Int)), (18, .int .i64 (g.i : Int))]) (fun g => [ch g.s, rowc (.slice g.ad (g.i + 2) g.ac) (g.i + 2) 3 1 (g.out.map (Value.int .i64)), pt b4 [.slice a l.length c, .int .i64 (root : Int)] 27]) (fun g => l.length - g.i) (⟨0, [e0, e1], some ⟨b14, 0, none⟩, 2, s0⟩) ?_ ?_ ?_ ?_
  · exact ⟨Nat.zero_le _, rfl, h0⟩
  · exact ⟨rfl, rfl, rfl, rfl, rfl, rfl, trivial⟩
  · rfl
  rintro ⟨i, out, ad, ac, s⟩ ⟨hi, hol, hI⟩
  dsimp only at hi hol hI
  show WC _ _ _ _ _ _ _ [(3, Value.func (.func fj) us.toArray cap.toArray), (4, pp b4), (9, .slice ad (i + 2) ac), (16, .slice a l.length c), (17, .int .i64 (l.length : Int)), (18, .int .i64 (i : Int))] [ch s, rowc (.slice ad (i + 2) ac) (i + 2) 3 1 (out.map (Value.int .i64)), pt b4 [.slice a l.length c, .int .i64 (root : Int)] 27]
  refine WC.seq ?_
  refine WC.region ?_
  refine WL.step ?_
  refine WL.ltI rfl rfl rfl ?_
  refine WL.nil ?_
  refine WQ.then_normal ?_
  refine WC.seq ?_
  refine WC.cond rfl (fun h19 => ?_) (fun h19 => ?_)
  · skip
    have hlt : i < l.length := by simpa using h19
    obtain ⟨x, hx⟩ : ∃ x, l[i]? = some x := ⟨_, List.getElem?_eq_getElem hlt⟩
    obtain ⟨k1, k2⟩ := hkid i x hx
    obtain ⟨bl, off, rfl, hbl, hcx⟩ := hrd.at hx
    obtain ⟨z1, hz1⟩ : ∃ z, out[x.2.1]? = some z := ⟨_, List.getElem?_eq_getElem (by omega)⟩
    obtain ⟨z2, hz2⟩ : ∃ z, out[x.2.2]? = some z := ⟨_, List.getElem?_eq_getElem (by omega)⟩
    refine WC.skip ?_
    refine WQ.then_normal ?_
    refine WC.seq ?_
    refine WC.block ?_
    refine WC.seq ?_
    refine WC.region ?_
    refine WL.step ?_
    refine WL.indexAddr F.sl25 rfl rfl rfl hlt ?_
    refine WL.step ?_
    refine WL.loadN F.agg63 rfl rfl (vs := [Value.int .i64 (x.1 : Int), .int .i64 (x.2.1 : Int), .int .i64 (x.2.2 : Int)]) rfl (fun w hS j v hv => hS.oldc (hcx j v hv) hbl) ?_
    refine WL.step ?_
    refine WL.alloc F.zero63 rfl (fun b11 => ?_)
    refine WL.step ?_
    refine WL.storeN F.agg63 rfl rfl rfl (by simp [Value.oneCell']) (by repeat (first | exact Upd.here | apply Upd.there)) (by repeat constructor) ?_
    refine WL.nil ?_
    refine WQ.then_normal ?_
    refine WC.know (φ := ∃ g2, ad = some ⟨g2, 0, none⟩ ∧ i + 2 = i + 2 ∧ i + 2 ≤ ac) (fun w hS => rowc_addr (hS.ok (rowc (.slice ad (i + 2) ac) (i + 2) 3 1 (out.map (Value.int .i64))) (by repeat (first | exact List.Mem.head _ | apply List.Mem.tail))) (by omega)) (fun ⟨g2, hg2, _, _⟩ => ?_)
    · skip
      subst hg2
      refine WC.drawsL (by kernel_rfl) (FactsOk.cons (ds := [14, 15, 16]) (LoadOk.one (t := 11) (off := 0) rfl (by repeat (first | exact List.Mem.head _ | apply List.Mem.tail)) rfl) (FactsOk.cons (ds := [14, 15, 16]) (LoadOk.one (t := 11) (off := 1) rfl (by repeat (first | exact List.Mem.head _ | apply List.Mem.tail)) rfl) (FactsOk.cons (ds := [14, 15, 16]) (LoadOk.by (Y := fun w => w.cell? ⟨g2, 0 + x.2.1 * 1, none⟩ = some (.int .i64 z1)) (fun w hS => by rw [Nat.zero_add, Nat.mul_one]; exact rowc_cell (hS.ok (rowc (.slice (some ⟨g2, 0, none⟩) (i + 2) ac) (i + 2) 3 1 (out.map (Value.int .i64))) (by repeat (first | exact List.Mem.head _ | apply List.Mem.tail))) (by simp [hz1]))) (FactsOk.cons (ds := [14, 15, 16]) (LoadOk.one (t := 11) (off := 2) rfl (by repeat (first | exact List.Mem.head _ | apply List.Mem.tail)) rfl) (FactsOk.cons (ds := [14, 15, 16]) (LoadOk.by (Y := fun w => w.cell? ⟨g2, 0 + x.2.2 * 1, none⟩ = some (.int .i64 z2)) (fun w hS => by rw [Nat.zero_add, Nat.mul_one]; exact rowc_cell (hS.ok (rowc (.slice (some ⟨g2, 0, none⟩) (i + 2) ac) (i + 2) 3 1 (out.map (Value.int .i64))) (by repeat (first | exact List.Mem.head _ | apply List.Mem.tail))) (by simp [hz2]))) (FactsOk.nil)))))) ?_
      refine WD.take (i := 0) rfl rfl rfl rfl (by kernel_rfl) (by kernel_rfl) (by kernel_rfl) (fun _ _ _ h => h) (by kernel_rfl) need_none (Yl.move rfl) ?_
      refine WD.take (i := 1) rfl rfl rfl rfl (by kernel_rfl) (by kernel_rfl) (by kernel_rfl) (fun _ _ _ h => h) (by kernel_rfl) need_none (Yl.move rfl) ?_
      refine WD.take (i := 2) rfl rfl rfl rfl (by kernel_rfl) (by kernel_rfl) (by kernel_rfl) (fun _ _ _ h => h) (by kernel_rfl) need_none (Yl.fieldAddr0 F.fld63_0 rfl) ?_
      refine WD.take (i := 3) rfl rfl rfl rfl (by kernel_rfl) (by kernel_rfl) (by kernel_rfl) (fun _ _ _ h => h) (by kernel_rfl) (need_at 0 18 rfl (by kernel_rfl)) (Yl.load1 F.one3 rfl) ?_
      refine WD.take (i := 4) rfl rfl rfl rfl (by kernel_rfl) (by kernel_rfl) (by kernel_rfl) (fun _ _ _ h => h) (by kernel_rfl) need_none (Yl.move rfl) ?_
      refine WD.take (i := 5) rfl rfl rfl rfl (by kernel_rfl) (by kernel_rfl) (by kernel_rfl) (fun _ _ _ h => h) (by kernel_rfl) need_none (Yl.fieldAddr0 F.fld63_1 rfl) ?_
      refine WD.take (i := 6) rfl rfl rfl rfl (by kernel_rfl) (by kernel_rfl) (by kernel_rfl) (fun _ _ _ h => h) (by kernel_rfl) (need_at 1 18 rfl (by kernel_rfl)) (Yl.load1 F.one3 rfl) ?_
      refine WD.take (i := 7) rfl rfl rfl rfl (by kernel_rfl) (by kernel_rfl) (by kernel_rfl) (fun _ _ _ h => h) (by kernel_rfl) need_none (Yl.indexAddr F.sl23 rfl rfl (by omega)) ?_
      refine WD.take (i := 8) rfl rfl rfl rfl (by kernel_rfl) (by kernel_rfl) (by kernel_rfl) (fun _ _ _ h => h) (by kernel_rfl) (need_at 2 18 rfl (by kernel_rfl)) (Yl.load1 F.one3 rfl) ?_
      refine WD.take (i := 9) rfl rfl rfl rfl (by kernel_rfl) (by kernel_rfl) (by kernel_rfl) (fun _ _ _ h => h) (by kernel_rfl) need_none (Yl.move rfl) ?_
      refine WD.take (i := 10) rfl rfl rfl rfl (by kernel_rfl) (by kernel_rfl) (by kernel_rfl) (fun _ _ _ h => h) (by kernel_rfl) need_none (Yl.fieldAddr0 F.fld63_2 rfl) ?_
      refine WD.take (i := 11) rfl rfl rfl rfl (by kernel_rfl) (by kernel_rfl) (by kernel_rfl) (fun _ _ _ h => h) (by kernel_rfl) (need_at 3 18 rfl (by kernel_rfl)) (Yl.load1 F.one3 rfl) ?_
      refine WD.take (i := 12) rfl rfl rfl rfl (by kernel_rfl) (by kernel_rfl) (by kernel_rfl) (fun _ _ _ h => h) (by kernel_rfl) need_none (Yl.indexAddr F.sl23 rfl rfl (by omega)) ?_
      refine WD.take (i := 13) rfl rfl rfl rfl (by kernel_rfl) (by kernel_rfl) (by kernel_rfl) (fun _ _ _ h => h) (by kernel_rfl) (need_at 4 18 rfl (by kernel_rfl)) (Yl.load1 F.one3 rfl) ?_
      refine WD.one (i := 14) (by kernel_rfl) rfl ?_
      refine WL.callFC (β := { y : σ × Int // I (out ++ [y.2]) y.1 }) (us := us) (cap := cap) (res := fun y => .int .i64 y.1.2) (cs := fun y => [ch y.1.1]) (Cs := [ch s]) (C1 := [pt b11 [Value.int .i64 (x.1 : Int), .int .i64 (x.2.1 : Int), .int .i64 (x.2.2 : Int)] 63, rowc (.slice (some ⟨g2, 0, none⟩) (i + 2) ac) (i + 2) 3 1 (out.map (Value.int .i64)), pt b4 [.slice (some ⟨bl, off, none⟩) l.length c, .int .i64 (root : Int)] 27]) (O' := Fs s) hg (fun d h => by cases h; rfl) rfl rfl ?_ (fun c hc k hk => (by rw [List.mem_singleton.1 hc] at hk; exact (hF s k).1 hk)) (fun k hk => ⟨_, List.mem_singleton.2 rfl, (hF s k).2 hk⟩) (fun w hS hS2 => hj out s x z1 z2 w (by rw [hol]; simpa using hx) hI hz1 hz2 hS2) (fun y36 => ?_)
      · exact ((List.Perm.swap _ _ _).trans (List.Perm.refl _))
      refine WD.on (closed_of (by kernel_rfl)) (fun w hS => Sx.gone rfl (Sx.gone rfl (Sx.gone rfl (Sx.gone rfl (Sx.gone rfl (Sx.none)))))) ?_
      refine WD.one (i := 15) (by kernel_rfl) rfl ?_
      refine WL.buildSlice F.sl23 F.ez23 rfl rfl rfl rfl (by repeat (first | exact Built.nil | apply Built.one rfl rfl (by repeat constructor) | apply Built.agg rfl rfl (by repeat constructor))) rfl (fun b37 => ?_)
      refine WD.on (closed_of (by kernel_rfl)) (fun w hS => Sx.gone rfl (Sx.gone rfl (Sx.gone rfl (Sx.gone rfl (Sx.gone rfl (Sx.none)))))) ?_
      refine WD.one (i := 16) (by kernel_rfl) rfl ?_
      refine WL.appendE (news := [.int .i64 y36.1.2]) F.el23 rfl rfl rfl (by repeat (first | exact Rem.here | apply Rem.there)) (fun w hS jj u hu => by rw [Nat.zero_add]; exact hS.cell (cs := [.int .i64 y36.1.2]) (by repeat (first | exact List.Mem.head _ | apply List.Mem.tail)) hu) rfl (by simp [Value.oneCell']) (Nat.le_trans (m := 33554432) (by omega) (by decide)) (by omega) (fun ad2 ac2 => ?_)
      refine WD.on (closed_of (by kernel_rfl)) (fun w hS => Sx.gone rfl (Sx.gone rfl (Sx.gone rfl (Sx.gone rfl (Sx.gone rfl (Sx.none)))))) ?_
      refine WD.take (i := 17) rfl rfl rfl rfl (by kernel_rfl) (by kernel_rfl) (by kernel_rfl) (fun _ _ _ h => h) (by kernel_rfl) need_none (Yl.assign rfl) ?_
      refine WD.done (by kernel_rfl) ?_
      refine WQ.block_normal ?_
      refine WQ.then_normal ?_
      refine WC.region ?_
      refine WL.step ?_
      refine WL.add rfl rfl rfl ⟨by omega, by omega⟩ ?_
      refine WL.step ?_
      refine WL.move rfl rfl ?_
      refine WL.nil ?_
      refine WQ.chunks (C' := [ch y36.1.1, rowc (.slice ad2 (i + 1 + 2) ac2) (i + 1 + 2) 3 1 ((out ++ [y36.1.2]).map (Value.int .i64)), pt b4 [.slice (some ⟨bl, off, none⟩) l.length c, .int .i64 (root : Int)] 27]) (fun w hS => ?_) ?_
      · rw [List.map_append]
        exact ((St.pick (St.pick (St.pick hS (c := pt b4 [.slice (some ⟨bl, off, none⟩) l.length c, .int .i64 (root : Int)] 27) (by repeat (first | exact Rem.here | apply Rem.there))) (c := rowc (.slice ad2 (i + 2 + 1) ac2) (i + 2 + 1) 3 1 (out.map (Value.int .i64) ++ [.int .i64 y36.1.2])) (by repeat (first | exact Rem.here | apply Rem.there))) (c := ch y36.1.1) (by repeat (first | exact Rem.here | apply Rem.there)))).sublist (List.Sublist.cons_cons _ (List.Sublist.cons_cons _ (List.Sublist.cons_cons _ (List.nil_sublist _))))
      refine WQ.back (⟨i + 1, out ++ [y36.1.2], ad2, ac2, y36.1.1⟩) ?_ ?_ ?_ ?_
      · exact ⟨by show i + 1 ≤ _; omega, by simp [hol], y36.2⟩
      · (show l.length - (i + 1) < l.length - i; omega)
      · exact ⟨rfl, rfl, rfl, rfl, rfl, rfl, trivial⟩
      · rfl
  · skip
    have hie : i = l.length := by simp at h19; omega
    subst hie
    obtain ⟨z, hz⟩ : ∃ z, out[root]? = some z := ⟨_, List.getElem?_eq_getElem (by omega)⟩
    refine WC.exit ?_
    refine WQ.then_exit ?_
    refine WQ.then_exit ?_
    refine WQ.block_exit ?_
    refine WQ.then_normal ?_
    refine WC.seq ?_
    refine WC.region ?_
    refine WA.know (φ := ∃ g2, ad = some ⟨g2, 0, none⟩ ∧ l.length + 2 = l.length + 2 ∧ l.length + 2 ≤ ac) (fun w hS => rowc_addr (hS.ok (rowc (.slice ad (l.length + 2) ac) (l.length + 2) 3 1 (out.map (Value.int .i64))) (by repeat (first | exact List.Mem.head _ | apply List.Mem.tail))) (by omega)) (fun ⟨g2, hg2, _, _⟩ => ?_)
    subst hg2
    refine WL.step ?_
    refine WL.move rfl rfl ?_
    refine WL.step ?_
    refine WL.fieldAddr0 F.fld27_1 rfl rfl ?_
    refine WL.step ?_
    refine WL.loadP F.one3 rfl rfl (by repeat (first | exact List.Mem.head _ | apply List.Mem.tail)) rfl ?_
    refine WL.step ?_
    refine WL.indexAddr F.sl23 rfl rfl rfl (by omega) ?_
    refine WL.step ?_
    refine WL.load1 F.one3 rfl rfl (v := .int .i64 z) (fun w hS => by rw [Nat.zero_add, Nat.mul_one]; exact rowc_cell (hS.ok (rowc (.slice (some ⟨g2, 0, none⟩) (l.length + 2) ac) (l.length + 2) 3 1 (out.map (Value.int .i64))) (by repeat (first | exact List.Mem.head _ | apply List.Mem.tail))) (by simp [hz])) ?_
    refine WL.step ?_
    refine WL.assign rfl rfl ?_
    refine WL.nil ?_
    refine WQ.then_normal ?_
    refine WC.ret ?_
    refine WQ.ret (rs := [.tmp 8]) rfl (.tmp rfl .nil) (fun w hS => ⟨⟨(out, s, z), hI, hol, hz⟩, rfl, ((St.pick hS (c := ch s) (by repeat (first | exact Rem.here | apply Rem.there)))).sublist (List.Sublist.cons_cons _ (List.nil_sublist _))⟩)

end Go.Proofs.Ytkgllhkhdjodeaa

/-! What joins two diagrams. -/
namespace Dg
/-- The node at a place, or one behind all features. -/
def atD (l : List Dec) (r : Nat) : Dec := if r < 2 then (24, r, r) else l.getD (r - 2) (24, r, r)
theorem atD_ge {l : List Dec} {r : Nat} {x : Dec} (h2 : 2 ≤ r) (hx : l[r - 2]? = some x) : atD l r = x := by
  unfold atD
  rw [if_neg (by omega)]
  simp [List.getD, hx]
/-- Below a feature i: the places of a set's two halves. -/
def loP (l : List Dec) (r i : Nat) : Nat := if (atD l r).1 = i then (atD l r).2.1 else r
def hiP (l : List Dec) (r i : Nat) : Nat := if (atD l r).1 = i then (atD l r).2.2 else r
theorem half_at {l : List Dec} (h : Mk l) {r i : Nat} (hr : r < l.length + 2) {m : Nat} (ho : (trs l r).ok m) (hi : i ≤ (atD l r).1) (hi24 : i < 24) :
    loP l r i < l.length + 2 ∧ hiP l r i < l.length + 2 ∧ (trs l (loP l r i)).ok (i + 1) ∧ (trs l (hiP l r i)).ok (i + 1) ∧ (∀ c, (trs l r).ev c = bif c i then (trs l (hiP l r i)).ev c else (trs l (loP l r i)).ev c) ∧ ((atD l r).1 = i → m ≤ i) ∧ ((atD l r).1 = i → 2 ≤ r) := by
  unfold loP hiP
  rcases Nat.lt_or_ge r 2 with h2 | h2
  · have e : atD l r = (24, r, r) := by unfold atD; rw [if_pos h2]
    rw [e]
    have hne : ¬ ((24, r, r) : Dec).1 = i := by simp only; omega
    simp only [if_neg hne]
    have hlf : ∃ b, trs l r = .lf b := by
      rcases r with _ | _ | r
      · exact ⟨_, (trs_zero l).1⟩
      · exact ⟨_, (trs_zero l).2⟩
      · omega
    obtain ⟨b, hb⟩ := hlf
    rw [hb]
    exact ⟨hr, hr, trivial, trivial, fun c => by cases c i <;> rfl, fun h => absurd h hne, fun h => absurd h hne⟩
  · obtain ⟨k, rfl⟩ : ∃ k, r = k + 2 := ⟨r - 2, by omega⟩
    have hk : k < l.length := by omega
    have hx := List.getElem?_eq_getElem hk
    have e : atD l (k + 2) = l[k] := atD_ge h2 hx
    have hb := h.kid k _ hx
    have ht := h.at hx
    rw [e] at hi ⊢
    rw [ht] at ho ⊢
    by_cases hv : l[k].1 = i
    · simp only [if_pos hv]
      refine ⟨by omega, by omega, hv ▸ ho.2.2.2.1, hv ▸ ho.2.2.2.2, fun c => ?_, fun _ => hv ▸ ho.1, fun _ => h2⟩
      simp only [BT.ev, hv]
    · simp only [if_neg hv]
      have hok : (BT.nd l[k].1 (trs l l[k].2.1) (trs l l[k].2.2)).ok (i + 1) := ⟨by omega, ho.2⟩
      rw [ht]
      exact ⟨hr, hr, hok, hok, fun c => by cases c i <;> rfl, fun h => absurd h hv, fun h => absurd h hv⟩
theorem atD_lt {l : List Dec} (h : Mk l) {r : Nat} (hr : r < l.length + 2) (h2 : 2 ≤ r) : (atD l r).1 < 24 := by
  obtain ⟨k, rfl⟩ : ∃ k, r = k + 2 := ⟨r - 2, by omega⟩
  have hk : k < l.length := by omega
  rw [atD_ge h2 (List.getElem?_eq_getElem hk)]
  exact (h.kid k _ (List.getElem?_eq_getElem hk)).1
theorem atD_ok {l : List Dec} (h : Mk l) {r m : Nat} (hr : r < l.length + 2) (ho : (trs l r).ok m) (hm : m ≤ 24) : m ≤ (atD l r).1 := by
  rcases Nat.lt_or_ge r 2 with h2 | h2
  · unfold atD; rw [if_pos h2]; exact hm
  · obtain ⟨k, rfl⟩ : ∃ k, r = k + 2 := ⟨r - 2, by omega⟩
    have hk : k < l.length := by omega
    rw [atD_ge h2 (List.getElem?_eq_getElem hk)]
    rw [h.at (List.getElem?_eq_getElem hk)] at ho
    exact ho.1
/-- A place that holds what an operation makes of two trees. -/
structure JR (bop : Bool → Bool → Bool) (l : List Dec) (r : Nat) (s t : BT) : Prop where
  lt : r < l.length + 2
  ok : ∀ j, s.ok j → t.ok j → (trs l r).ok j
  ev : ∀ c, (trs l r).ev c = bop (s.ev c) (t.ev c)
theorem JR.ext {bop : Bool → Bool → Bool} {l : List Dec} {r : Nat} {s t : BT} (h : JR bop l r s t) {l' : List Dec} (hp : ∃ z, l' = l ++ z) : JR bop l' r s t := by
  obtain ⟨z, rfl⟩ := hp
  have e := trs_append (m := z) h.lt
  exact ⟨by rw [List.length_append]; have := h.lt; omega, fun j hs ht => by rw [e]; exact h.ok j hs ht, fun c => by rw [e]; exact h.ev c⟩
def SeenOk (bop : Bool → Bool → Bool) (la lb l : List Dec) (f : Nat × Nat → Option Nat) : Prop := ∀ x y r, f (x, y) = some r → JR bop l r (trs la x) (trs lb y)
theorem SeenOk.ext {bop : Bool → Bool → Bool} {la lb l l' : List Dec} {f : Nat × Nat → Option Nat} (h : SeenOk bop la lb l f) (hp : ∃ z, l' = l ++ z) : SeenOk bop la lb l' f := fun x y r hr => (h x y r hr).ext hp
theorem SeenOk.put {bop : Bool → Bool → Bool} {la lb l : List Dec} {f : Nat × Nat → Option Nat} (h : SeenOk bop la lb l f) {x y r : Nat} (hr : JR bop l r (trs la x) (trs lb y)) : SeenOk bop la lb l (fun q => if q = (x, y) then some r else f q) := by
  intro x' y' r' h'
  by_cases e : (x', y') = (x, y)
  · simp only [if_pos e, Option.some.injEq] at h'
    cases e
    rw [← h']; exact hr
  · simp only [if_neg e] at h'
    exact h x' y' r' h'
/-- What an operation says of two places, and whether that is enough. -/
structure OpSpec (bop : Bool → Bool → Bool) (opf : Nat → Nat → Nat × Bool) : Prop where
  stop : ∀ x y, (opf x y).2 = true → ∃ b : Bool, (opf x y).1 = (bif b then 1 else 0) ∧ ∀ p q : Bool, (x = 0 → p = false) → (x = 1 → p = true) → (y = 0 → q = false) → (y = 1 → q = true) → bop p q = b
  go : ∀ x y, (opf x y).2 = false → 2 ≤ x ∨ 2 ≤ y
theorem OpSpec.done {bop : Bool → Bool → Bool} {opf : Nat → Nat → Nat × Bool} (h : OpSpec bop opf) {la lb l : List Dec} {x y : Nat} (hs : (opf x y).2 = true) : JR bop l (opf x y).1 (trs la x) (trs lb y) := by
  obtain ⟨b, h1, h2⟩ := h.stop x y hs
  have hb : trs l (opf x y).1 = .lf b := by
    rw [h1]; cases b
    · exact (trs_zero l).1
    · exact (trs_zero l).2
  refine ⟨by rw [h1]; cases b <;> simp, fun j _ _ => by rw [hb]; trivial, fun c => ?_⟩
  rw [hb]
  symm
  refine h2 _ _ (fun e => ?_) (fun e => ?_) (fun e => ?_) (fun e => ?_)
  · rw [e, (trs_zero la).1]; rfl
  · rw [e, (trs_zero la).2]; rfl
  · rw [e, (trs_zero lb).1]; rfl
  · rw [e, (trs_zero lb).2]; rfl
/-- A node over what the halves give. -/
theorem JR.node {bop : Bool → Bool → Bool} {la lb l1 l2 l3 : List Dec} {x y i p q r m : Nat} (ha : Mk la) (hb : Mk lb) (hx : x < la.length + 2) (hy : y < lb.length + 2) (hox : (trs la x).ok m) (hoy : (trs lb y).ok m) (hi : i = min (atD la x).1 (atD lb y).1) (hi24 : i < 24)
    (h1 : JR bop l1 p (trs la (loP la x i)) (trs lb (loP lb y i))) (h2 : JR bop l2 q (trs la (hiP la x i)) (trs lb (hiP lb y i))) (he : ∃ z, l2 = l1 ++ z) (h3 : MadeN l2 l3 r (mkN i (trs l2 p) (trs l2 q))) : JR bop l3 r (trs la x) (trs lb y) := by
  have hix : i ≤ (atD la x).1 := by omega
  have hiy : i ≤ (atD lb y).1 := by omega
  obtain ⟨a1, a2, a3, a4, a5, a6, _⟩ := half_at ha hx hox hix hi24
  obtain ⟨b1, b2, b3, b4, b5, b6, _⟩ := half_at hb hy hoy hiy hi24
  have h1' := h1.ext he
  refine ⟨h3.lt, fun j hs ht => ?_, fun c => ?_⟩
  · rw [h3.tree]
    refine mkN_ok ?_ hi24 (h1'.ok _ a3 b3) (h2.ok _ a4 b4)
    have e : (atD la x).1 = i ∨ (atD lb y).1 = i := by omega
    rcases e with e | e
    · exact (half_at ha hx hs hix hi24).2.2.2.2.2.1 e
    · exact (half_at hb hy ht hiy hi24).2.2.2.2.2.1 e
  · rw [h3.tree, mkN_ev, a5 c, b5 c, h1'.ev c, h2.ev c]
    cases c i <;> rfl
def andF (x y : Nat) : Nat × Bool := (min (min x y) 1, x == 0 || y == 0 || (x == 1 && y == 1))
def orF (x y : Nat) : Nat × Bool := if x = 1 ∨ y = 1 then (1, true) else (0, x == 0 && y == 0)
def xorF (x y : Nat) : Nat × Bool := (x ^^^ y, decide (x < 2) && decide (y < 2))
theorem and_spec : OpSpec (fun p q => p && q) andF where
  stop x y h := by
    unfold andF at h ⊢
    simp only [Bool.or_eq_true, Bool.and_eq_true, beq_iff_eq] at h
    rcases h with (h | h) | ⟨h, h'⟩
    · refine ⟨false, by simp only [cond_false]; omega, fun p q h1 _ _ _ => by rw [h1 h]; rfl⟩
    · refine ⟨false, by simp only [cond_false]; omega, fun p q _ _ h1 _ => by rw [h1 h]; simp⟩
    · refine ⟨true, by simp only [cond_true]; omega, fun p q _ h1 _ h2 => by rw [h1 h, h2 h']; rfl⟩
  go x y h := by
    unfold andF at h
    simp at h
    omega
end Dg

namespace Go.Proofs.Ytkgllhkhdjodeaa
open Go Go.Eng Go.Proofs Dg
theorem at_c (l : List Dec) (a : Option Addr) (c root r : Nat) (w : World) (hll : l.length ≤ 16777216) (hr : r < l.length + 2) (hrd : RdDec w l a) :
    Pure Try.prog 81 [.agg [.slice a l.length c, .int .i64 (root : Int)].toArray, .int .i64 (r : Int)] w (.agg [.int .i64 ((atD l r).1 : Int), .int .i64 ((atD l r).2.1 : Int), .int .i64 ((atD l r).2.2 : Int)].toArray) := by
  refine enter Try.func81 rfl Try.ntmps81 rfl (St.init _) ?_
  refine WC.seq ?_
  refine WC.region ?_
  refine WL.step ?_
  refine WL.boxN rfl rfl (fun b2 => ?_)
  refine WL.step ?_
  refine WL.alloc F.zero63 rfl (fun b4 => ?_)
  refine WL.nil ?_
  refine WQ.then_normal ?_
  refine WC.seq ?_
  refine WC.seq ?_
  refine WC.region ?_
  refine WL.step ?_
  refine WL.move rfl rfl ?_
  refine WL.step ?_
  refine WL.ltI rfl rfl rfl ?_
  refine WL.nil ?_
  refine WQ.then_normal ?_
  refine WC.cond rfl (fun h6 => ?_) (fun h6 => ?_)
  · skip
    have h2 : r < 2 := by simp at h6; omega
    have ha : atD l r = (24, r, r) := by unfold atD; rw [if_pos h2]
    refine WC.seq ?_
    refine WC.region ?_
    refine WL.step ?_
    refine WL.move rfl rfl ?_
    refine WL.step ?_
    refine WL.move rfl rfl ?_
    refine WL.step ?_
    refine WL.build F.stT63 rfl (by repeat (first | exact Built.nil | apply Built.one rfl rfl (by repeat constructor) | apply Built.agg rfl rfl (by repeat constructor))) rfl ?_
    refine WL.step ?_
    refine WL.storeN F.agg63 rfl rfl rfl (by simp [Value.oneCell']) (by repeat (first | exact Upd.here | apply Upd.there)) (by repeat constructor) ?_
    refine WL.nil ?_
    refine WQ.then_normal ?_
    refine WC.ret ?_
    refine WQ.then_ret ?_
    exact WQ.ret (rs := [.cell 4 63]) rfl (.cellN F.agg63 rfl (by repeat (first | exact List.Mem.head _ | apply List.Mem.tail)) rfl .nil) (fun w hS => ⟨by rw [ha]; rfl, hS.sublist (List.nil_sublist _)⟩)
  · skip
    have h2 : 2 ≤ r := by simp at h6; omega
    obtain ⟨x, hx⟩ : ∃ x, l[r - 2]? = some x := ⟨_, List.getElem?_eq_getElem (by omega)⟩
    have ha : atD l r = x := atD_ge h2 hx
    obtain ⟨bl, off, rfl, hcx⟩ := hrd.at hx
    have hri : ((r - 2 : Nat) : Int) = (r : Int) - 2 := by omega
    refine WC.skip ?_
    refine WQ.then_normal ?_
    refine WC.seq ?_
    refine WC.region ?_
    refine WL.step ?_
    refine WL.fieldAddr0 F.fld27_0 rfl rfl ?_
    refine WL.step ?_
    refine WL.loadP F.one25 rfl rfl (by repeat (first | exact List.Mem.head _ | apply List.Mem.tail)) rfl ?_
    refine WL.step ?_
    refine WL.move rfl rfl ?_
    refine WL.step ?_
    refine WL.sub rfl rfl rfl ⟨by omega, by omega⟩ ?_
    refine WA.say 13 (.int .i64 ((r - 2 : Nat) : Int)) (by rw [hri]; rfl) ?_
    refine WL.step ?_
    refine WL.indexAddr F.sl25 rfl rfl rfl (List.getElem?_eq_some_iff.1 hx).1 ?_
    refine WL.step ?_
    refine WL.loadN F.agg63 rfl rfl (vs := [Value.int .i64 (x.1 : Int), .int .i64 (x.2.1 : Int), .int .i64 (x.2.2 : Int)]) rfl (fun w hS j v hv => hS.oldc (hcx j v hv) (by simp)) ?_
    refine WL.step ?_
    refine WL.storeN F.agg63 rfl rfl rfl (by simp [Value.oneCell']) (by repeat (first | exact Upd.here | apply Upd.there)) (by repeat constructor) ?_
    refine WL.nil ?_
    refine WQ.then_normal ?_
    refine WC.ret ?_
    exact WQ.ret (rs := [.cell 4 63]) rfl (.cellN F.agg63 rfl (by repeat (first | exact List.Mem.head _ | apply List.Mem.tail)) rfl .nil) (fun w hS => ⟨by rw [ha]; rfl, hS.sublist (List.nil_sublist _)⟩)

/-- An operation on the empty and the full set, as the program has it. -/
structure OpOk (g : Nat) (bop : Bool → Bool → Bool) (opf : Nat → Nat → Nat × Bool) : Prop where
  fn : funB Try.prog g = some true
  spec : OpSpec bop opf
  call : ∀ (x y : Nat) (w : World), x ≤ 1099511627776 → y ≤ 1099511627776 → Pure Try.prog g [.int .i64 (x : Int), .int .i64 (y : Int)] w (.tuple #[.int .i64 ((opf x y).1 : Int), .bool (opf x y).2])

theorem both_c (x y : Nat) (w : World) (hx : x ≤ 1099511627776) (hy : y ≤ 1099511627776) : Pure Try.prog 70 [.int .i64 (x : Int), .int .i64 (y : Int)] w (.tuple #[.int .i64 ((andF x y).1 : Int), .bool (andF x y).2]) := by
  refine enter Try.func70 rfl Try.ntmps70 rfl (St.init _) ?_
  refine WC.seq ?_
  refine WC.region ?_
  refine WL.step ?_
  refine WL.assign rfl rfl ?_
  refine WL.step ?_
  refine WL.assign rfl rfl ?_
  refine WL.nil ?_
  refine WQ.then_normal ?_
  refine WC.seq ?_
  refine WC.region ?_
  refine WL.step ?_
  refine WL.move rfl rfl ?_
  refine WL.step ?_
  refine WL.move rfl rfl ?_
  refine WL.step ?_
  refine WL.min3 (r := ((min (min x y) 1 : Nat) : Int)) rfl rfl rfl rfl (by (repeat split) <;> omega) ?_
  refine WL.step ?_
  refine WL.move rfl rfl ?_
  refine WL.step ?_
  refine WL.eqI rfl rfl rfl ?_
  refine WL.step ?_
  refine WL.move rfl rfl ?_
  refine WA.splitB (i := 11) rfl (fun g11 => ?_) (fun g11 => ?_)
  · skip
    refine WL.step (WL.guardF rfl rfl rfl rfl rfl rfl ?_)
    refine WL.step (WL.guardF rfl rfl rfl rfl rfl rfl ?_)
    refine WL.step ?_
    refine WL.pickT rfl rfl rfl ?_
    refine WL.step ?_
    refine WL.move rfl rfl ?_
    refine WL.step (WL.guardF rfl rfl rfl rfl rfl rfl ?_)
    refine WL.step (WL.guardF rfl rfl rfl rfl rfl rfl ?_)
    refine WL.step (WL.guardF rfl rfl rfl rfl rfl rfl ?_)
    refine WL.step (WL.guardU rfl rfl rfl rfl rfl ?_)
    refine WL.step (WL.guardU rfl rfl rfl rfl rfl ?_)
    refine WL.step (WL.guardF rfl rfl rfl rfl rfl rfl ?_)
    refine WL.step ?_
    refine WL.pickT rfl rfl rfl ?_
    refine WL.step ?_
    refine WL.assign rfl rfl ?_
    refine WL.step ?_
    refine WL.assign rfl rfl ?_
    refine WL.nil ?_
    refine WQ.then_normal ?_
    refine WC.ret ?_
    refine WQ.ret (rs := [.tmp 4, .tmp 5]) rfl (.tmp rfl (.tmp rfl .nil)) (fun w hS => ⟨?_, hS⟩)
    have e : ∀ b : Bool, b = (andF x y).2 → Ending.returned (tup [.int .i64 ((min (min x y) 1 : Nat) : Int), .bool b]) = .returned (.tuple #[.int .i64 ((andF x y).1 : Int), .bool (andF x y).2]) := fun b hb => by rw [hb]; rfl
    refine e _ ?_
    unfold andF
    simp at *
    first | done | omega | (simp [*]; done) | (rw [Bool.eq_iff_iff]; simp; omega)
  · skip
    refine WL.step (WL.guardT rfl rfl rfl ?_)
    refine WL.move rfl rfl ?_
    refine WL.step (WL.guardT rfl rfl rfl ?_)
    refine WL.eqI rfl rfl rfl ?_
    refine WL.step ?_
    refine WL.pickF rfl rfl rfl ?_
    refine WL.step ?_
    refine WL.move rfl rfl ?_
    refine WA.splitB (i := 15) rfl (fun g15 => ?_) (fun g15 => ?_)
    · skip
      refine WL.step (WL.guardF rfl rfl rfl rfl rfl rfl ?_)
      refine WL.step (WL.guardF rfl rfl rfl rfl rfl rfl ?_)
      refine WL.step (WL.guardF rfl rfl rfl rfl rfl rfl ?_)
      refine WL.step (WL.guardU rfl rfl rfl rfl rfl ?_)
      refine WL.step (WL.guardU rfl rfl rfl rfl rfl ?_)
      refine WL.step (WL.guardF rfl rfl rfl rfl rfl rfl ?_)
      refine WL.step ?_
      refine WL.pickT rfl rfl rfl ?_
      refine WL.step ?_
      refine WL.assign rfl rfl ?_
      refine WL.step ?_
      refine WL.assign rfl rfl ?_
      refine WL.nil ?_
      refine WQ.then_normal ?_
      refine WC.ret ?_
      refine WQ.ret (rs := [.tmp 4, .tmp 5]) rfl (.tmp rfl (.tmp rfl .nil)) (fun w hS => ⟨?_, hS⟩)
      have e : ∀ b : Bool, b = (andF x y).2 → Ending.returned (tup [.int .i64 ((min (min x y) 1 : Nat) : Int), .bool b]) = .returned (.tuple #[.int .i64 ((andF x y).1 : Int), .bool (andF x y).2]) := fun b hb => by rw [hb]; rfl
      refine e _ ?_
      unfold andF
      simp at *
      first | done | omega | (simp [*]; done) | (rw [Bool.eq_iff_iff]; simp; omega)
    · skip
      refine WL.step (WL.guardT rfl rfl rfl ?_)
      refine WL.move rfl rfl ?_
      refine WL.step (WL.guardT rfl rfl rfl ?_)
      refine WL.eqI rfl rfl rfl ?_
      refine WL.step (WL.guardT rfl rfl rfl ?_)
      refine WL.move rfl rfl ?_
      refine WA.splitB (i := 18) rfl (fun g18 => ?_) (fun g18 => ?_)
      · skip
        refine WL.step (WL.guardT rfl rfl rfl ?_)
        refine WL.move rfl rfl ?_
        refine WL.step (WL.guardT rfl rfl rfl ?_)
        refine WL.eqI rfl rfl rfl ?_
        refine WL.step (WL.guardT rfl rfl rfl ?_)
        refine WL.pickT rfl rfl rfl ?_
        refine WL.step ?_
        refine WL.pickF rfl rfl rfl ?_
        refine WL.step ?_
        refine WL.assign rfl rfl ?_
        refine WL.step ?_
        refine WL.assign rfl rfl ?_
        refine WL.nil ?_
        refine WQ.then_normal ?_
        refine WC.ret ?_
        refine WQ.ret (rs := [.tmp 4, .tmp 5]) rfl (.tmp rfl (.tmp rfl .nil)) (fun w hS => ⟨?_, hS⟩)
        have e : ∀ b : Bool, b = (andF x y).2 → Ending.returned (tup [.int .i64 ((min (min x y) 1 : Nat) : Int), .bool b]) = .returned (.tuple #[.int .i64 ((andF x y).1 : Int), .bool (andF x y).2]) := fun b hb => by rw [hb]; rfl
        refine e _ ?_
        unfold andF
        simp at *
        first | done | omega | (simp [*]; done) | (rw [Bool.eq_iff_iff]; simp; omega)
      · skip
        refine WL.step (WL.guardF rfl rfl rfl rfl rfl rfl ?_)
        refine WL.step (WL.guardF rfl rfl rfl rfl rfl rfl ?_)
        refine WL.step (WL.guardT rfl rfl rfl ?_)
        refine WL.pickF rfl rfl rfl ?_
        refine WL.step ?_
        refine WL.pickF rfl rfl rfl ?_
        refine WL.step ?_
        refine WL.assign rfl rfl ?_
        refine WL.step ?_
        refine WL.assign rfl rfl ?_
        refine WL.nil ?_
        refine WQ.then_normal ?_
        refine WC.ret ?_
        refine WQ.ret (rs := [.tmp 4, .tmp 5]) rfl (.tmp rfl (.tmp rfl .nil)) (fun w hS => ⟨?_, hS⟩)
        have e : ∀ b : Bool, b = (andF x y).2 → Ending.returned (tup [.int .i64 ((min (min x y) 1 : Nat) : Int), .bool b]) = .returned (.tuple #[.int .i64 ((andF x y).1 : Int), .bool (andF x y).2]) := fun b hb => by rw [hb]; rfl
        refine e _ ?_
        unfold andF
        simp at *
        first | done | omega | (simp [*]; done) | (rw [Bool.eq_iff_iff]; simp; omega)

theorem both_ok : OpOk 70 (fun p q => p && q) andF := ⟨F.fun70, and_spec, both_c⟩
end Go.Proofs.Ytkgllhkhdjodeaa

/-
  Two diagrams that are joined: the memory.
-/
namespace Go.Proofs.Ytkgllhkhdjodeaa
open Go Go.Eng Go.Proofs Dg
theorem keyPair : KeyT Try.prog 137 enc2 := KeyT.twoOf (by kernel_rfl)
theorem undMP : Try.prog.underlying 98 = some (.map 137 3) := by kernel_rfl
abbrev jnCs (bm bs : Nat) (l : List Dec) (f : Nat × Nat → Option Nat) (F1 : List Nat) : List Chunk := [mkr F1 bm l, mpg enc2 bs (fun q => (f q).map encI)]
def jns (F : List Nat) (bm bs : Nat) (l : List Dec) (f : Nat × Nat → Option Nat) : Chunk := bun F (jnCs bm bs l f) (fun _ => True)
theorem St.jnsClose {w0 w : World} {O : List Nat} {C : List Chunk} {F1 : List Nat} {bm bs : Nat} {l : List Dec} {f : Nat × Nat → Option Nat} (h : St w0 O (mkr F1 bm l :: mpg enc2 bs (fun q => (f q).map encI) :: C) w) : St w0 O (jns (F1 ++ ([bs] ++ [])) bm bs l f :: C) w :=
  St.bunClose' (Cs := jnCs bm bs l f) F1 trivial (.cons FpIs.bun (.cons FpIs.mpg .nil)) h
theorem pair_map {f : Nat × Nat → Option Nat} {k : Nat × Nat} {n : Nat} {z : Int} (hz : z = (n : Int)) : (fun q : Nat × Nat => if q = k then some (Value.int .i64 z) else (f q).map encI) = (fun y => (if y = k then some n else f y).map encI) := by
  funext q
  by_cases h : q = k
  · rw [if_pos h, if_pos h, hz]; rfl
  · rw [if_neg h, if_neg h]
theorem RdDecO.now {w0 w : World} {F : List Nat} {C : List Chunk} {l : List Dec} {a : Option Addr} (h : RdDecO w0 l a F) (hS : St w0 F C w) : RdDec w l a := fun j u hu => by
  obtain ⟨b, off, e1, e2, e3⟩ := h j u hu
  exact ⟨b, off, e1, hS.oldc e2 e3⟩
structure JEnv (w : World) (F : List Nat) (bp bm bs : Nat) (la lb : List Dec) (aa ab : Option Addr) (ca cb ra rb : Nat) : Prop where
  ce : ∀ j v, [pp bm, .slice aa la.length ca, .int .i64 (ra : Int), .slice ab lb.length cb, .int .i64 (rb : Int), .map (some bs)][j]? = some v → w.cell? ⟨bp, j, none⟩ = some v
  ce' : bp ∉ F
  rda : RdDecO w la aa F
  rdb : RdDecO w lb ab F
theorem JEnv.next {w0 w : World} {F F' : List Nat} {C1 : List Chunk} {bp bm bs ca cb ra rb : Nat} {la lb l : List Dec} {aa ab : Option Addr} {f : Nat × Nat → Option Nat} (h : JEnv w0 F bp bm bs la lb aa ab ca cb ra rb) (hS : St w0 F ([jns F' bm bs l f] ++ C1) w) : JEnv w F' bp bm bs la lb aa ab ca cb ra rb := by
  have hap := fun {z : Nat} (h1 : z < w0.heap.size) (h2 : z ∉ F) => hS.apart (F := F') bun_O2 h1 h2
  refine ⟨fun j v hv => hS.oldc (h.ce j v hv) h.ce', hap (World.block_lt_of_cell? w0 _ (h.ce 0 _ rfl)) h.ce', fun j u hu => ?_, fun j u hu => ?_⟩
  · obtain ⟨b, off, e1, e2, e3⟩ := h.rda j u hu
    exact ⟨b, off, e1, hS.oldc e2 e3, hap (World.block_lt_of_cell? w0 _ e2) e3⟩
  · obtain ⟨b, off, e1, e2, e3⟩ := h.rdb j u hu
    exact ⟨b, off, e1, hS.oldc e2 e3, hap (World.block_lt_of_cell? w0 _ e2) e3⟩
abbrev JT := List Nat × List Dec × (Nat × Nat → Option Nat) × Nat
structure JPost (bop : Bool → Bool → Bool) (la lb l : List Dec) (m x y : Nat) (z : JT) : Prop where
  ismk : Mk z.2.1
  pre : ∃ t, z.2.1 = l ++ t
  len : z.2.1.length + 1 ≤ l.length + 2 ^ (24 - m)
  jr : JR bop z.2.1 z.2.2.2 (trs la x) (trs lb y)
  seen : SeenOk bop la lb z.2.1 z.2.2.1
end Go.Proofs.Ytkgllhkhdjodeaa
