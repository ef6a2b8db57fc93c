import Derived.Test.YtbippghgkbapnaaEng13
import Derived.Test.YtbippghgkbapnaaSpec
import Derived.Test.YtbippghgkbapnaaFacts
set_option linter.unusedSimpArgs false
set_option linter.unusedVariables false
namespace Go.Proofs.Ytbippghgkbapnaa
open Go Go.Eng Go.Proofs
theorem Clone_c (ls : List (List Int)) (a : Option Addr) (cap : Nat) (us : List Value) (hlen : ls.length ≤ 1099511627776) (ha : a = none ∨ ∃ b off, a = some ⟨b, off, none⟩) (w : World) (hr : RdLL w ls a us) :
    Calls Try.prog 62 [.slice a ls.length cap].toArray w fun e w' => ∃ x : Option Addr × Nat, e = .returned (.slice x.1 ls.length x.2) ∧ St w [] [rowc (.slice x.1 ls.length x.2) ls.length 54 1 us] w' := by
  refine enter Try.func62 rfl Try.ntmps62 rfl (St.init _) ?_
  refine WC.seq ?_
  refine WC.region ?_
  refine WL.step ?_
  refine WL.assign rfl rfl ?_
  refine WL.nil ?_
  refine WQ.then_normal ?_
  refine WC.seq ?_
  refine WC.seq ?_
  rcases ha with rfl | ⟨b, off, rfl⟩
  · skip
    have hus : us = [] := by
      cases us with
      | nil => rfl
      | cons u r =>
        obtain ⟨b, off, h1, _⟩ := hr.hd 0 u rfl
        cases h1
    have hl0 : ls = [] := by (have := hr.len; rw [hus] at this; exact List.eq_nil_of_length_eq_zero this.symm)
    subst hus; subst hl0
    refine WC.region ?_
    refine WL.step ?_
    refine WL.move rfl rfl ?_
    refine WL.step ?_
    refine WL.bin rfl rfl rfl (v := .bool true) (fun w => by kernel_rfl) ?_
    refine WL.nil ?_
    refine WQ.then_normal ?_
    refine WC.condT rfl ?_
    refine WC.seq ?_
    refine WC.region ?_
    refine WL.step ?_
    refine WL.assign rfl rfl ?_
    refine WL.nil ?_
    refine WQ.then_normal ?_
    refine WC.ret ?_
    refine WQ.then_ret ?_
    exact WQ.ret (rs := [.tmp 2]) rfl (.tmp rfl .nil) (fun w hS => ⟨(none, 0), rfl, hS.rowNil 54 1⟩)
  · skip
    refine WC.region ?_
    refine WL.step ?_
    refine WL.move rfl rfl ?_
    refine WL.step ?_
    refine WL.bin rfl rfl rfl (v := .bool false) (fun w => by kernel_rfl) ?_
    refine WL.nil ?_
    refine WQ.then_normal ?_
    refine WC.condF rfl ?_
    refine WC.skip ?_
    refine WQ.then_normal ?_
    refine WC.seq ?_
    refine WC.region ?_
    refine WL.step ?_
    refine WL.buildSlice0 F.sl38 rfl (fun b5 => ?_)
    refine WA.chunks (fun w hS => hS.rowOf (n := 0) (sz := 1) rfl (by decide)) ?_
    refine WL.step ?_
    refine WL.move rfl rfl ?_
    refine WL.step ?_
    refine WL.appendE (news := us) F.el38 rfl rfl rfl (by repeat (first | exact Rem.here | apply Rem.there)) (fun w hS i u hu => ?_) (by rw [hr.len, Nat.mul_one]) (fun u hu => ?_) (Nat.le_trans (m := 1099511627776) (by omega) (by decide)) (by omega) (fun a2 cap2 => ?_)
    · obtain ⟨b2, off2, h1, h2⟩ := hr.hd i u hu
      injection h1 with h1
      injection h1 with h1 h3
      subst h1; subst h3
      exact hS.oldc h2 (by simp)
    · obtain ⟨i, hi, he⟩ := List.getElem_of_mem hu
      have h1 : us[i]? = some u := by rw [List.getElem?_eq_getElem hi, he]
      have h2 : ls[i]? = some (ls[i]'(by rw [← hr.len]; exact hi)) := List.getElem?_eq_getElem _
      obtain ⟨a1, c1, h3, _⟩ := hr.rd i _ u h2 h1
      subst h3
      rfl
    refine WL.step ?_
    refine WL.assign rfl rfl ?_
    refine WL.nil ?_
    refine WQ.then_normal ?_
    refine WC.ret ?_
    refine WQ.ret (rs := [.tmp 2]) rfl (.tmp rfl .nil) (fun w hS => ⟨(a2, cap2), ?_, ?_⟩)
    · simp [tup]
    · simpa using hS

theorem passK_KB : ∀ {ls : List (List Int)} {k : Fm.Kn} {ag : Bool}, KB k → (∀ c ∈ ls, ∀ x ∈ c, Lit x) → (∀ k', Fm.passK ls k ag = .inl k' → KB k') ∧ (∀ k' b, Fm.passK ls k ag = .inr (k', b) → KB k')
  | [], k, ag, hk, _ => ⟨fun k' h => by simp [Fm.passK] at h, fun k' b h => by simp only [Fm.passK, Sum.inr.injEq, Prod.mk.injEq] at h; rw [← h.1]; exact hk⟩
  | c :: cs, k, ag, hk, hl => by
    have hcs : ∀ c ∈ cs, ∀ x ∈ c, Lit x := fun c' h => hl c' (List.mem_cons_of_mem _ h)
    simp only [Fm.passK]
    split
    · exact ⟨fun k' h => by injection h with h; rw [← h]; exact hk, fun k' b h => by cases h⟩
    split
    · exact ⟨fun k' h => by injection h with h; rw [← h]; exact hk, fun k' b h => by cases h⟩
    split
    · rename_i h1 h2 h3
      have hx : Lit (Fm.unitK k c).1 := by
        rcases unitG_mem (x := (Fm.unitK k c).1) (c := c) (op := 0) (k := k) (by have := h3; unfold Fm.unitK at this ⊢; rw [← this]) with h0 | h0
        · exfalso
          apply h2
          rw [h3, h0]; rfl
        · exact hl c (List.mem_cons_self ..) _ h0
      exact passK_KB (hk.with hx) hcs
    · exact passK_KB hk hcs
theorem closedF_KB : ∀ {f : Nat} {ls : List (List Int)} {k k' : Fm.Kn} {b : Bool}, KB k → (∀ c ∈ ls, ∀ x ∈ c, Lit x) → Fm.closedF f ls k = some (k', b) → KB k'
  | 0, ls, k, k', b, _, _, h => by simp [Fm.closedF] at h
  | f + 1, ls, k, k', b, hk, hl, h => by
    have hp := passK_KB (ag := false) hk hl
    simp only [Fm.closedF] at h
    split at h
    · rename_i k2 h2
      simp only [Option.some.injEq, Prod.mk.injEq] at h
      rw [← h.1]; exact hp.1 _ h2
    · rename_i k2 b2 h2
      split at h
      · exact closedF_KB (hp.2 _ _ h2) hl h
      · simp only [Option.some.injEq, Prod.mk.injEq] at h
        rw [← h.1]; exact hp.2 _ _ h2
theorem solveF_true {n f : Nat} {all proof : List (List Int)} {path : List Int} : Fm.solveF n (f + 1) true all path proof = match path.getLast? with
    | none => some ⟨false, 0, proof ++ [path.map (fun x => -x)]⟩
    | some last => if last < 0 then Fm.solveF n f false (all ++ [path.map (fun x => -x)]) (path.dropLast ++ [-last]) (proof ++ [path.map (fun x => -x)]) else Fm.solveF n f true (all ++ [path.map (fun x => -x)]) path.dropLast (proof ++ [path.map (fun x => -x)]) := rfl
structure SG where
  f : Nat
  path : List Int
  ss : List (List Int)
  vs : List Value
  hs : List Value
  ps : List Value
  F : List Nat
  aa : Option Addr
  pa : Option Addr
  ta : Option Addr
  ca : Nat
  pc : Nat
  tc : Nat
  nA : Nat
  nP : Nat
  nT : Nat
structure SInv (n : Nat) (ls : List (List Int)) (us : List Value) (r : Fm.Ans) (mode : Bool) (g : SG) : Prop where
  sol : Fm.solveF n g.f mode (ls ++ g.ss) g.path g.ss = some r
  hhs : g.hs = us ++ g.vs
  hps : g.ps = g.path.map (Value.int .i64)
  hA : g.nA = ls.length + g.ss.length
  hP : g.nP = g.ss.length
  hT : g.nT = g.path.length
  lit : ∀ x ∈ g.path, x ≠ 0 ∧ -24 ≤ x ∧ x ≤ 24
  slit : ∀ c ∈ g.ss, ∀ x ∈ c, Lit x
  slen : ∀ c ∈ g.ss, c.length ≤ 1099511627776
  bp : g.path.length + g.f ≤ 1073741824
  bs : g.ss.length + g.f ≤ 1073741824
/-- The step that shows that a path leads to no model, laid up to i. -/
def stepAt (path : List Int) (i : Nat) : List Value := ((path.map (fun x => -x)).take i).map (Value.int .i64) ++ List.replicate (path.length - i) (.int .i64 0)
theorem stepAt_len {path : List Int} {i : Nat} (h : i ≤ path.length) : (stepAt path i).length = path.length := by
  simp [stepAt]; omega
theorem stepAt_set {path : List Int} {i : Nat} {x : Int} (h : path[i]? = some x) : (stepAt path i).set i (.int .i64 (-x)) = stepAt path (i + 1) := by
  have hi := (List.getElem?_eq_some_iff.1 h).1
  have hl : (((path.map (fun x => -x)).take i).map (Value.int .i64)).length = i := by simp; omega
  unfold stepAt
  rw [List.set_append_right _ _ (by omega), hl, Nat.sub_self, List.take_add_one, List.map_append]
  have hg : (path.map (fun x => -x))[i]? = some (-x) := by simp [h]
  rw [hg]
  have hr : path.length - i = (path.length - (i + 1)) + 1 := by omega
  rw [hr, List.replicate_succ, List.set_cons_zero]
  simp
theorem stepAt_end {path : List Int} : stepAt path path.length = (path.map (fun x => -x)).map (Value.int .i64) := by
  simp [stepAt]
  rw [List.take_of_length_le (by simp)]
theorem Lit.neg {x : Int} (h : x ≠ 0 ∧ -24 ≤ x ∧ x ≤ 24) : Lit (-x) := ⟨by omega, by omega, by omega⟩
theorem litB_lit {n : Nat} {x : Int} (hn : n ≤ 24) (h : Fm.litB (n : Int) x = true) : Lit x := by
  simp only [Fm.litB, Bool.and_eq_true, Bool.not_eq_true', decide_eq_true_eq, beq_eq_false_iff_ne] at h
  exact ⟨h.1.1, by omega, by omega⟩
theorem may_lit {n : Nat} {ls : List (List Int)} (hn : n ≤ 24) (h : ls.all (Fm.fitsB (n : Int)) = true) : (∀ c ∈ ls, ∀ x ∈ c, Lit x) ∧ (∀ c ∈ ls, c.length ≤ 64) := by
  rw [List.all_eq_true] at h
  refine ⟨fun c hc x hx => ?_, fun c hc => ?_⟩
  · have := h c hc
    simp only [Fm.fitsB, Bool.and_eq_true, List.all_eq_true] at this
    exact litB_lit hn (this.2 x hx)
  · have := h c hc
    simp only [Fm.fitsB, Bool.and_eq_true, decide_eq_true_eq] at this
    exact this.1
theorem foldl_KB {path : List Int} (h : ∀ x ∈ path, x ≠ 0 ∧ -24 ≤ x ∧ x ≤ 24) : ∀ {k : Fm.Kn}, KB k → KB (path.foldl Fm.withK k) := by
  induction path with
  | nil => intro k hk; exact hk
  | cons x r ih =>
    intro k hk
    have hx := h x (List.mem_cons_self ..)
    exact ih (fun y hy => h y (List.mem_cons_of_mem _ hy)) (hk.with ⟨hx.1, by omega, by omega⟩)
def SolvePost (w : World) (r : Fm.Ans) (e : Ending) (w' : World) : Prop :=
  ∃ (x : Option Addr × Nat) (F : List Nat) (vs : List Value), e = .returned (.tuple #[.agg #[.bool r.ok, .int .u32 (r.model : Int), .slice x.1 r.proof.length x.2], .int .i64 0]) ∧
    St w [] [rowc (.slice x.1 r.proof.length x.2) r.proof.length 54 1 vs, stepsC F vs r.proof] w'

theorem may_zero {m : Int} {ls : List (List Int)} (h : Fm.mayE m ls = 0) : (0 ≤ m ∧ m ≤ 24) ∧ ls.length ≤ 4096 ∧ ls.all (Fm.fitsB m) = true := by
  unfold Fm.mayE at h
  split at h
  · cases h
  split at h
  · cases h
  split at h
  · rename_i h1 h2 h3
    exact ⟨by omega, by omega, h3⟩
  · cases h
theorem stepAt_zero {path : List Int} {k : Nat} (h : k = path.length) : stepAt path 0 = List.replicate k (.int .i64 0) := by
  simp [stepAt, h]
theorem last_at {path : List Int} {x : Int} {k : Nat} (hk : k = path.length) (h : path.getLast? = some x) : path[k - 1]? = some x ∧ 0 < k := by
  subst hk
  rw [List.getLast?_eq_getElem?] at h
  exact ⟨h, by have := (List.getElem?_eq_some_iff.1 h).1; omega⟩
namespace F
theorem info3 : (Try.prog.info? 3).map (fun i => (i.zero, i.size, i.bytes)) = some (some (.int .i64 0), 1, 8) := by kernel_rfl
end F

theorem Solve_c (m : Int) (ls : List (List Int)) (a : Option Addr) (cap : Nat) (us : List Value) (ha : a = none ∨ ∃ b off, a = some ⟨b, off, none⟩) (w : World) (hr : RdLL w ls a us)
    (f0 : Nat) (r : Fm.Ans) (hf0 : f0 ≤ 536870912) (hsol : ∀ n : Nat, m = (n : Int) → Fm.mayE m ls = 0 → Fm.solveF n f0 false ls [] [] = some r) :
    Calls Try.prog 24 [.int .i64 m, .slice a ls.length cap].toArray w fun e w' => (Fm.mayE m ls ≠ 0 ∧ e = .returned (.tuple #[.agg #[.bool false, .int .u32 0, .slice none 0 0], .int .i64 (Fm.mayE m ls)]) ∧ St w [] [] w') ∨
      (Fm.mayE m ls = 0 ∧ SolvePost w r e w') := by
  refine enter Try.func24 rfl Try.ntmps24 rfl (St.init _) ?_
  refine WC.seq ?_
  refine WC.region ?_
  refine WL.step ?_
  refine WL.alloc F.zero43 rfl (fun b4 => ?_)
  refine WL.step ?_
  refine WL.assign rfl rfl ?_
  refine WL.nil ?_
  refine WQ.then_normal ?_
  refine WC.scope ?_
  refine WC.seq ?_
  refine WC.seq ?_
  refine WC.region ?_
  refine WL.step ?_
  refine WL.move rfl rfl ?_
  refine WL.step ?_
  refine WL.move rfl rfl ?_
  refine WL.step ?_
  refine WL.callV F.fun61 rfl rfl (fun w hS => may_c m ls a cap us w (hr.next hS)) ?_
  refine WL.step ?_
  refine WL.assign rfl rfl ?_
  refine WL.nil ?_
  refine WQ.then_normal ?_
  refine WC.seq ?_
  refine WC.region ?_
  refine WL.step ?_
  refine WL.move rfl rfl ?_
  refine WL.step ?_
  refine WL.neI rfl rfl rfl ?_
  refine WL.nil ?_
  refine WQ.then_normal ?_
  refine WC.cond rfl (fun h23 => ?_) (fun h23 => ?_)
  · skip
    have hme : Fm.mayE m ls ≠ 0 := by simpa using h23
    refine WC.seq ?_
    refine WC.region ?_
    refine WL.step ?_
    refine WL.build F.stT43 rfl (by repeat (first | exact Built.nil | apply Built.one rfl rfl (by repeat constructor) | apply Built.agg rfl rfl (by repeat constructor))) rfl ?_
    refine WL.step ?_
    refine WL.move rfl rfl ?_
    refine WL.step ?_
    refine WL.storeN F.agg43 rfl rfl rfl (by simp [Value.oneCell']) (by repeat (first | exact Upd.here | apply Upd.there)) (by repeat constructor) ?_
    refine WL.step ?_
    refine WL.assign rfl rfl ?_
    refine WL.nil ?_
    refine WQ.then_normal ?_
    refine WC.ret ?_
    refine WQ.then_ret ?_
    refine WQ.scope_ret ?_
    refine WQ.ret (rs := [.cell 4 43, .tmp 5]) rfl (.cellN F.agg43 rfl (by repeat (first | exact List.Mem.head _ | apply List.Mem.tail)) rfl (.tmp rfl .nil)) (fun w hS => .inl ⟨hme, rfl, hS.drop⟩)
  · skip
    have hme : Fm.mayE m ls = 0 := by simpa using h23
    obtain ⟨hm0, hcount, hall⟩ := may_zero hme
    obtain ⟨n, rfl⟩ : ∃ n : Nat, m = (n : Int) := ⟨m.toNat, by omega⟩
    have hn : n ≤ 24 := by omega
    obtain ⟨hlits, hlens⟩ := may_lit hn hall
    have h := hsol n rfl hme
    refine WC.skip ?_
    refine WQ.then_normal ?_
    refine WC.seq ?_
    refine WC.region ?_
    refine WL.step ?_
    refine WL.move rfl rfl ?_
    refine WL.step ?_
    refine WL.callC (β := Option Addr × Nat) (res := fun x => .slice x.1 ls.length x.2) (cs := fun x => [rowc (.slice x.1 ls.length x.2) ls.length 54 1 us]) (Cs := []) (O' := []) F.fun62 (fun d h => by cases h; rfl) rfl (List.Perm.refl _) (by simp) (by simp) (fun w hS _ => Clone_c ls a cap us (by omega) ha w (hr.next hS)) (fun x27 => ?_)
    refine WL.step ?_
    refine WL.assign rfl rfl ?_
    refine WL.nil ?_
    refine WQ.then_normal ?_
    refine WC.seq ?_
    refine WC.region ?_
    refine WL.step ?_
    refine WL.assign rfl rfl ?_
    refine WL.nil ?_
    refine WQ.then_normal ?_
    refine WC.seq ?_
    refine WC.region ?_
    refine WL.step ?_
    refine WL.assign rfl rfl ?_
    refine WL.nil ?_
    refine WQ.then_normal ?_
    refine WC.seq ?_
    refine WC.label ?_
    refine WQ.then_normal ?_
    refine WC.block ?_
    obtain ⟨a1, c1⟩ := x27
    refine WC.chunks (fun w hS => (hS.rowNil 54 1)) ?_
    refine WC.chunks (fun w hS => (hS.rowNil 3 1)) ?_
    refine WC.chunks (fun w hS => hS.stepsNil) ?_
    refine WC.chunks (C' := [pt b4 [.bool false, .int .u32 0, .slice none 0 0] 43, rowc (.slice a1 ls.length c1) ls.length 54 1 us, rowc (.slice none 0 0) 0 54 1 [], rowc (.slice none 0 0) 0 3 1 [], stepsC [] [] []]) (fun w hS => (St.pick (St.pick (St.pick (St.pick hS (c := rowc (.slice none 0 0) 0 3 1 []) (by repeat (first | exact Rem.here | apply Rem.there))) (c := rowc (.slice none 0 0) 0 54 1 []) (by repeat (first | exact Rem.here | apply Rem.there))) (c := rowc (.slice a1 ls.length c1) ls.length 54 1 us) (by repeat (first | exact Rem.here | apply Rem.there))) (c := pt b4 [.bool false, .int .u32 0, .slice none 0 0] 43) (by repeat (first | exact Rem.here | apply Rem.there)))) ?_
    refine WC.loop (α := SG) (SInv n ls us r false) (fun g => [(0, .int .i64 (n : Int)), (4, pp b4), (7, .slice g.aa g.nA g.ca), (8, .slice g.ta g.nT g.tc), (9, .slice g.pa g.nP g.pc)]) (fun g => [pt b4 [.bool false, .int .u32 0, .slice none 0 0] 43, rowc (.slice g.aa g.nA g.ca) g.nA 54 1 g.hs, rowc (.slice g.pa g.nP g.pc) g.nP 54 1 g.vs, rowc (.slice g.ta g.nT g.tc) g.nT 3 1 g.ps, stepsC g.F g.vs g.ss]) (fun g => g.f) (⟨f0, [], [], [], us, [], [], a1, none, none, c1, 0, 0, ls.length, 0, 0⟩) ?_ ?_ ?_ ?_
    · exact ⟨by rw [List.append_nil]; exact h, by rw [List.append_nil], rfl, rfl, rfl, rfl, by simp, by simp, by simp, by simp; omega, by simp; omega⟩
    · exact ⟨rfl, rfl, rfl, rfl, rfl, trivial⟩
    · rfl
    rintro ⟨f, path, ss, vs, hs, ps, Fb, aa, pa, ta, ca, pc, tc, nA, nP, nT⟩ hI
    obtain ⟨sol, hhs, hps, hA, hP, hT, hlit, hslit, hslen, hbp, hbs⟩ := hI
    dsimp only at sol hhs hps hA hP hT hlit hslit hslen hbp hbs
    obtain ⟨f, rfl⟩ : ∃ f2, f = f2 + 1 := by cases f with | zero => simp [Fm.solveF] at sol | succ f => exact ⟨f, rfl⟩
    show WC _ _ _ _ _ _ _ [(0, .int .i64 (n : Int)), (4, pp b4), (7, .slice aa nA ca), (8, .slice ta nT tc), (9, .slice pa nP pc)] [pt b4 [.bool false, .int .u32 0, .slice none 0 0] 43, rowc (.slice aa nA ca) nA 54 1 hs, rowc (.slice pa nP pc) nP 54 1 vs, rowc (.slice ta nT tc) nT 3 1 ps, stepsC Fb vs ss]
    simp only [Fm.solveF] at sol
    obtain rfl : nA = (ls ++ ss).length := by rw [hA, List.length_append]
    have hLL : ∀ c ∈ ls ++ ss, ∀ x ∈ c, Lit x := by
      intro c hc
      rcases List.mem_append.1 hc with hc | hc
      · exact hlits c hc
      · exact hslit c hc
    have hLen : ∀ c ∈ ls ++ ss, c.length ≤ 1099511627776 := by
      intro c hc
      rcases List.mem_append.1 hc with hc | hc
      · have := hlens c hc; omega
      · exact hslen c hc
    refine WC.block ?_
    refine WC.seq ?_
    refine WC.region ?_
    refine WL.step ?_
    refine WL.build F.stT103 rfl (by repeat (first | exact Built.nil | apply Built.one rfl rfl (by repeat constructor) | apply Built.agg rfl rfl (by repeat constructor))) rfl ?_
    refine WL.step ?_
    refine WL.alloc F.zero103 rfl (fun b10 => ?_)
    refine WL.step ?_
    refine WL.storeN F.agg103 rfl rfl rfl (by simp [Value.oneCell']) (by repeat (first | exact Upd.here | apply Upd.there)) (by repeat constructor) ?_
    refine WL.nil ?_
    refine WQ.then_normal ?_
    refine WC.seq ?_
    refine WC.seq ?_
    refine WC.region ?_
    refine WL.step ?_
    refine WL.move rfl rfl ?_
    refine WL.step ?_
    refine WL.lenSl F.und54 rfl rfl ?_
    refine WL.step ?_
    refine WL.move rfl rfl ?_
    refine WL.nil ?_
    refine WQ.then_normal ?_
    refine WC.block ?_
    refine WC.loop (α := Nat × Fm.Kn) (fun g => g.1 ≤ nT ∧ KB g.2 ∧ g.2 = (path.take g.1).foldl Fm.withK (0, 0)) (fun g => [(0, .int .i64 (n : Int)), (4, pp b4), (7, .slice aa (ls ++ ss).length ca), (8, .slice ta nT tc), (9, .slice pa nP pc), (10, pp b10), (29, .slice ta nT tc), (30, .int .i64 (nT : Int)), (31, .int .i64 (g.1 : Int))]) (fun g => [pt b10 [.int .u32 (g.2.1 : Int), .int .u32 (g.2.2 : Int)] 103, pt b4 [.bool false, .int .u32 0, .slice none 0 0] 43, rowc (.slice aa (ls ++ ss).length ca) (ls ++ ss).length 54 1 hs, rowc (.slice pa nP pc) nP 54 1 vs, rowc (.slice ta nT tc) nT 3 1 ps, stepsC Fb vs ss]) (fun g => nT - g.1) ((0, (0, 0))) ?_ ?_ ?_ ?_
    · exact ⟨Nat.zero_le _, ⟨by decide, by decide⟩, rfl⟩
    · exact ⟨rfl, rfl, rfl, rfl, rfl, rfl, rfl, rfl, rfl, trivial⟩
    · rfl
    rintro ⟨i, k⟩ ⟨hi, hk, hke⟩
    dsimp only at hi hk hke
    show WC _ _ _ _ _ _ _ [(0, .int .i64 (n : Int)), (4, pp b4), (7, .slice aa (ls ++ ss).length ca), (8, .slice ta nT tc), (9, .slice pa nP pc), (10, pp b10), (29, .slice ta nT tc), (30, .int .i64 (nT : Int)), (31, .int .i64 (i : Int))] [pt b10 [.int .u32 (k.1 : Int), .int .u32 (k.2 : Int)] 103, pt b4 [.bool false, .int .u32 0, .slice none 0 0] 43, rowc (.slice aa (ls ++ ss).length ca) (ls ++ ss).length 54 1 hs, rowc (.slice pa nP pc) nP 54 1 vs, rowc (.slice ta nT tc) nT 3 1 ps, stepsC Fb vs ss]
    refine WC.seq ?_
    refine WC.region ?_
    refine WL.step ?_
    refine WL.ltI rfl rfl rfl ?_
    refine WL.nil ?_
    refine WQ.then_normal ?_
    refine WC.seq ?_
    refine WC.cond rfl (fun h32 => ?_) (fun h32 => ?_)
    · skip
      have hlt : i < nT := by simpa using h32
      obtain ⟨x, hx⟩ : ∃ x, path[i]? = some x := ⟨_, List.getElem?_eq_getElem (by omega)⟩
      have hxl := hlit x (List.mem_of_getElem? hx)
      refine WC.know (φ := ∃ g, ta = some ⟨g, 0, none⟩ ∧ nT = nT ∧ nT ≤ tc) (fun w hS => rowc_addr (hS.ok (rowc (.slice ta nT tc) nT 3 1 ps) (by repeat (first | exact List.Mem.head _ | apply List.Mem.tail))) (by omega)) (fun ⟨g, hta, _, _⟩ => ?_)
      subst hta
      refine WC.skip ?_
      refine WQ.then_normal ?_
      refine WC.seq ?_
      refine WC.block ?_
      refine WC.seq ?_
      refine WC.region ?_
      refine WL.step ?_
      refine WL.indexAddr F.sl54 rfl rfl rfl hlt ?_
      refine WL.step ?_
      refine WL.load1 F.one3 rfl rfl (v := .int .i64 x) (fun w hS => by simpa using rowc_cell (hS.ok (rowc (.slice (some ⟨g, 0, none⟩) nT tc) nT 3 1 ps) (by repeat (first | exact List.Mem.head _ | apply List.Mem.tail))) (u := .int .i64 x) (by rw [hps]; simp [hx])) ?_
      refine WL.step ?_
      refine WL.assign rfl rfl ?_
      refine WL.nil ?_
      refine WQ.then_normal ?_
      refine WC.region ?_
      refine WL.step ?_
      refine WL.loadW F.agg103 rfl rfl (by repeat (first | exact List.Mem.head _ | apply List.Mem.tail)) rfl ?_
      refine WL.step ?_
      refine WL.move rfl rfl ?_
      refine WL.step ?_
      refine WL.callV F.fun63 rfl rfl (fun w _ => with_c k x hk ⟨hxl.1, by omega, by omega⟩ w) ?_
      refine WL.step ?_
      refine WL.storeN F.agg103 rfl rfl rfl (by simp [Value.oneCell']) (by repeat (first | exact Upd.here | apply Upd.there)) (by repeat constructor) ?_
      refine WL.nil ?_
      refine WQ.block_normal ?_
      refine WQ.then_normal ?_
      refine WC.region ?_
      refine WL.step ?_
      refine WL.add rfl rfl rfl ⟨by omega, by omega⟩ ?_
      refine WL.step ?_
      refine WL.move rfl rfl ?_
      refine WL.nil ?_
      refine WQ.back ((i + 1, Fm.withK k x)) ?_ ?_ ?_ ?_
      · exact ⟨by show i + 1 ≤ nT; omega, hk.with ⟨hxl.1, by omega, by omega⟩, by show Fm.withK k x = _; rw [List.take_add_one, hx, List.foldl_append, ← hke]; rfl⟩
      · (show nT - (i + 1) < nT - i; omega)
      · exact ⟨rfl, rfl, rfl, rfl, rfl, rfl, rfl, rfl, rfl, trivial⟩
      · rfl
    · skip
      have hie : nT = i := by simp at h32; omega
      subst hie
      rw [hT, List.take_length] at hke
      refine WC.exit ?_
      refine WQ.then_exit ?_
      refine WQ.then_exit ?_
      refine WQ.block_exit ?_
      refine WQ.then_normal ?_
      refine WC.seq ?_
      rcases hcl : Fm.closedF 65 (ls ++ ss) k with _ | ⟨k1, ok⟩
      · skip
        rw [← hke, hcl] at sol
        cases sol
      · skip
        rw [← hke, hcl] at sol
        have hk1 := closedF_KB hk hLL hcl
        refine WC.region ?_
        refine WL.step ?_
        refine WL.move rfl rfl ?_
        refine WL.step ?_
        refine WL.loadW F.agg103 rfl rfl (by repeat (first | exact List.Mem.head _ | apply List.Mem.tail)) rfl ?_
        refine WL.step ?_
        refine WL.callV F.fun64 rfl rfl (fun w hS => closed_c (ls ++ ss) aa ca hs k 65 (k1, ok) hk hLL hLen (by simp; omega) w (hr.join hS hhs (by rw [List.length_append]) (n := (ls ++ ss).length) (cap := ca) (F := Fb) (vs := vs) (by repeat (first | exact List.Mem.head _ | apply List.Mem.tail)) (by repeat (first | exact List.Mem.head _ | apply List.Mem.tail))) hcl) ?_
        refine WL.step ?_
        refine WL.move rfl rfl ?_
        refine WL.step ?_
        refine WL.extract rfl rfl rfl ?_
        refine WL.step ?_
        refine WL.extract rfl rfl rfl ?_
        refine WL.step ?_
        refine WL.storeN F.agg103 rfl rfl rfl (by simp [Value.oneCell']) (by repeat (first | exact Upd.here | apply Upd.there)) (by repeat constructor) ?_
        refine WL.step ?_
        refine WL.assign rfl rfl ?_
        refine WL.nil ?_
        refine WQ.then_normal ?_
        refine WC.seq ?_
        refine WC.seq ?_
        refine WC.region ?_
        refine WL.step ?_
        refine WL.move rfl rfl ?_
        refine WL.nil ?_
        refine WQ.then_normal ?_
        refine WC.cond rfl (fun h45 => ?_) (fun h45 => ?_)
        · skip
          have hok : ok = true := h45
          subst hok
          simp only at sol
          refine WC.seq ?_
          refine WC.seq ?_
          refine WC.region ?_
          refine WL.step ?_
          refine WL.move rfl rfl ?_
          refine WL.step ?_
          refine WL.assign rfl rfl ?_
          refine WL.nil ?_
          refine WQ.then_normal ?_
          refine WC.block ?_
          refine WC.loop (α := Nat) (fun i => i ≤ n ∧ Fm.openK k1 n = Fm.openK k1 i) (fun i => [(0, .int .i64 (n : Int)), (4, pp b4), (7, .slice aa (ls ++ ss).length ca), (8, .slice ta nT tc), (9, .slice pa nP pc), (10, pp b10), (14, .int .i64 (i : Int))]) (fun _ => [pt b10 [.int .u32 (k1.1 : Int), .int .u32 (k1.2 : Int)] 103, pt b4 [.bool false, .int .u32 0, .slice none 0 0] 43, rowc (.slice aa (ls ++ ss).length ca) (ls ++ ss).length 54 1 hs, rowc (.slice pa nP pc) nP 54 1 vs, rowc (.slice ta nT tc) nT 3 1 ps, stepsC Fb vs ss]) (fun i => i) (n) ?_ ?_ ?_ ?_
          · exact ⟨Nat.le_refl _, rfl⟩
          · exact ⟨rfl, rfl, rfl, rfl, rfl, rfl, rfl, trivial⟩
          · rfl
          rintro i ⟨hi, hop⟩
          refine WC.seq ?_
          refine WC.seq ?_
          refine WC.region ?_
          refine WL.step ?_
          refine WL.move rfl rfl ?_
          refine WL.step ?_
          refine WL.gtI rfl rfl rfl ?_
          refine WL.nil ?_
          refine WQ.then_normal ?_
          refine WC.cond rfl (fun h48 => ?_) (fun h48 => ?_)
          · skip
            have hi0 : 0 < i := by simp at h48; omega
            have hLi : Lit (i : Int) := ⟨by omega, by omega, by omega⟩
            have hLn : Lit (-(i : Int)) := ⟨by omega, by omega, by omega⟩
            have hok2 : Fm.openK k1 i = if !Fm.hasK k1 (i : Int) && !Fm.hasK k1 (-(i : Int)) then i else Fm.openK k1 (i - 1) := by
              obtain ⟨j, rfl⟩ : ∃ j, i = j + 1 := ⟨i - 1, by omega⟩
              simp only [Fm.openK, Nat.add_sub_cancel]
            refine WC.skip ?_
            refine WQ.then_normal ?_
            refine WC.seq ?_
            refine WC.block ?_
            refine WC.seq ?_
            refine WC.region ?_
            refine WL.step ?_
            refine WL.loadW F.agg103 rfl rfl (by repeat (first | exact List.Mem.head _ | apply List.Mem.tail)) rfl ?_
            refine WL.step ?_
            refine WL.move rfl rfl ?_
            refine WL.step ?_
            refine WL.callV F.fun65 rfl rfl (fun w _ => has_c k1 _ hk1 hLi w) ?_
            refine WL.step ?_
            refine WL.not rfl rfl ?_
            refine WL.step ?_
            refine WL.move rfl rfl ?_
            refine WA.splitB (i := 55) rfl (fun h55 => ?_) (fun h55 => ?_)
            · skip
              refine WL.step (WL.guardT rfl rfl rfl ?_)
              refine WL.loadW F.agg103 rfl rfl (by repeat (first | exact List.Mem.head _ | apply List.Mem.tail)) rfl ?_
              refine WL.step (WL.guardT rfl rfl rfl ?_)
              refine WL.move rfl rfl ?_
              refine WL.step (WL.guardT rfl rfl rfl ?_)
              refine WL.negI rfl rfl (by omega) ?_
              refine WL.step (WL.guardT rfl rfl rfl ?_)
              refine WL.callV F.fun65 rfl rfl (fun w _ => has_c k1 _ hk1 hLn w) ?_
              refine WL.step (WL.guardT rfl rfl rfl ?_)
              refine WL.not rfl rfl ?_
              refine WL.step ?_
              refine WL.pickT rfl rfl rfl ?_
              refine WL.nil ?_
              refine WQ.then_normal ?_
              refine WC.cond rfl (fun h61 => ?_) (fun h61 => ?_)
              · skip
                have hoi : Fm.openK k1 n = i := by rw [hop, hok2, h55, h61]; rfl
                rw [if_neg (by rw [hoi]; omega), hoi] at sol
                refine WC.seq ?_
                refine WC.region ?_
                refine WL.step ?_
                refine WL.move rfl rfl ?_
                refine WL.step ?_
                refine WL.move rfl rfl ?_
                refine WL.step ?_
                refine WL.negI rfl rfl (by omega) ?_
                refine WL.step ?_
                refine WL.buildSlice F.sl54 F.ez54 rfl rfl rfl rfl (by repeat (first | exact Built.nil | apply Built.one rfl rfl (by repeat constructor) | apply Built.agg rfl rfl (by repeat constructor))) rfl (fun b65 => ?_)
                refine WL.step ?_
                refine WL.appendE (news := [.int .i64 (-(i : Int))]) F.el54 rfl rfl rfl (by repeat (first | exact Rem.here | apply Rem.there)) (fun w hS j u hu => by rw [Nat.zero_add]; exact hS.cell (cs := [.int .i64 (-(i : Int))]) (by repeat (first | exact List.Mem.head _ | apply List.Mem.tail)) hu) rfl (by simp [Value.oneCell']) (Nat.le_trans (m := 1099511627776) (by omega) (by decide)) (by omega) (fun a3 c3 => ?_)
                refine WL.step ?_
                refine WL.assign rfl rfl ?_
                refine WL.nil ?_
                refine WQ.then_normal ?_
                refine WC.exit ?_
                refine WQ.block_other rfl ?_
                refine WQ.then_exit ?_
                refine WQ.then_exit ?_
                refine WQ.block_other rfl ?_
                refine WQ.then_exit ?_
                refine WQ.then_exit ?_
                refine WQ.block_exit ?_
                refine WQ.chunks (C' := [pt b4 [.bool false, .int .u32 0, .slice none 0 0] 43, rowc (.slice aa (ls ++ ss).length ca) (ls ++ ss).length 54 1 hs, rowc (.slice pa nP pc) nP 54 1 vs, rowc (.slice a3 (nT + 1) c3) (nT + 1) 3 1 (ps ++ [.int .i64 (-(i : Int))]), stepsC Fb vs ss]) (fun w hS => ((St.pick (St.pick (St.pick (St.pick (St.pick hS (c := stepsC Fb vs ss) (by repeat (first | exact Rem.here | apply Rem.there))) (c := rowc (.slice a3 (nT + 1) c3) (nT + 1) 3 1 (ps ++ [.int .i64 (-(i : Int))])) (by repeat (first | exact Rem.here | apply Rem.there))) (c := rowc (.slice pa nP pc) nP 54 1 vs) (by repeat (first | exact Rem.here | apply Rem.there))) (c := rowc (.slice aa (ls ++ ss).length ca) (ls ++ ss).length 54 1 hs) (by repeat (first | exact Rem.here | apply Rem.there))) (c := pt b4 [.bool false, .int .u32 0, .slice none 0 0] 43) (by repeat (first | exact Rem.here | apply Rem.there)))).sublist (List.Sublist.cons_cons _ (List.Sublist.cons_cons _ (List.Sublist.cons_cons _ (List.Sublist.cons_cons _ (List.Sublist.cons_cons _ (List.nil_sublist _))))))) ?_
                refine WQ.back (⟨f, path ++ [-(i : Int)], ss, vs, hs, ps ++ [.int .i64 (-(i : Int))], Fb, aa, pa, a3, ca, pc, c3, (ls ++ ss).length, nP, nT + 1⟩) ?_ ?_ ?_ ?_
                · exact ⟨sol, hhs, by show ps ++ _ = (path ++ _).map _; rw [hps]; simp, by show (ls ++ ss).length = _; rw [List.length_append], hP, by show nT + 1 = (path ++ [_]).length; rw [hT]; simp, by intro x hx; rcases List.mem_append.1 hx with hx | hx; exact hlit x hx; simp at hx; subst hx; exact ⟨by omega, by omega, by omega⟩, hslit, hslen, by show (path ++ [_]).length + f ≤ _; simp; omega, by show ss.length + f ≤ _; omega⟩
                · exact Nat.lt_succ_self f
                · exact ⟨rfl, rfl, rfl, rfl, rfl, trivial⟩
                · rfl
              · skip
                have hop2 : Fm.openK k1 n = Fm.openK k1 (i - 1) := by rw [hop, hok2, h55, h61]; rfl
                refine WC.skip ?_
                refine WQ.block_normal ?_
                refine WQ.then_normal ?_
                refine WC.region ?_
                refine WL.step ?_
                refine WL.move rfl rfl ?_
                refine WL.step ?_
                refine WL.sub rfl rfl rfl ⟨by omega, by omega⟩ ?_
                refine WL.step ?_
                refine WL.assign rfl rfl ?_
                refine WL.nil ?_
                obtain ⟨i, rfl⟩ : ∃ i2, i = i2 + 1 := ⟨i - 1, by omega⟩
                rw [show (((i + 1 : Nat) : Int) - 1) = (i : Int) by omega]
                refine WQ.back (i) ?_ ?_ ?_ ?_
                · exact ⟨by omega, hop2⟩
                · omega
                · exact ⟨rfl, rfl, rfl, rfl, rfl, rfl, rfl, trivial⟩
                · rfl
            · skip
              have hop2 : Fm.openK k1 n = Fm.openK k1 (i - 1) := by rw [hop, hok2, h55]; rfl
              refine WL.step (WL.guardF rfl rfl rfl rfl rfl rfl ?_)
              refine WL.step (WL.guardF rfl rfl rfl rfl rfl rfl ?_)
              refine WL.step (WL.guardF rfl rfl rfl rfl rfl rfl ?_)
              refine WL.step (WL.guardF rfl rfl rfl rfl rfl rfl ?_)
              refine WL.step (WL.guardF rfl rfl rfl rfl rfl rfl ?_)
              refine WL.step ?_
              refine WL.pickF rfl rfl rfl ?_
              refine WL.nil ?_
              refine WQ.then_normal ?_
              refine WC.condF rfl ?_
              refine WC.skip ?_
              refine WQ.block_normal ?_
              refine WQ.then_normal ?_
              refine WC.region ?_
              refine WL.step ?_
              refine WL.move rfl rfl ?_
              refine WL.step ?_
              refine WL.sub rfl rfl rfl ⟨by omega, by omega⟩ ?_
              refine WL.step ?_
              refine WL.assign rfl rfl ?_
              refine WL.nil ?_
              obtain ⟨i, rfl⟩ : ∃ i2, i = i2 + 1 := ⟨i - 1, by omega⟩
              rw [show (((i + 1 : Nat) : Int) - 1) = (i : Int) by omega]
              refine WQ.back (i) ?_ ?_ ?_ ?_
              · exact ⟨by omega, hop2⟩
              · omega
              · exact ⟨rfl, rfl, rfl, rfl, rfl, rfl, rfl, trivial⟩
              · rfl
          · skip
            have hi0 : i = 0 := by simp at h48; omega
            subst hi0
            have hop0 : Fm.openK k1 n = 0 := hop
            rw [if_pos hop0] at sol
            injection sol with sol
            refine WC.exit ?_
            refine WQ.then_exit ?_
            refine WQ.then_exit ?_
            refine WQ.block_exit ?_
            refine WQ.then_normal ?_
            refine WC.seq ?_
            refine WC.region ?_
            refine WL.step ?_
            refine WL.fieldAddr0 F.fld103_0 rfl rfl ?_
            refine WL.step ?_
            refine WL.loadP F.one41 rfl rfl (by repeat (first | exact List.Mem.head _ | apply List.Mem.tail)) rfl ?_
            refine WL.step ?_
            refine WL.build F.stT43 rfl (by repeat (first | exact Built.nil | apply Built.one rfl rfl (by repeat constructor) | apply Built.agg rfl rfl (by repeat constructor))) rfl ?_
            refine WL.step ?_
            refine WL.storeN F.agg43 rfl rfl rfl (by simp [Value.oneCell']) (by repeat (first | exact Upd.here | apply Upd.there)) (by repeat constructor) ?_
            refine WL.step ?_
            refine WL.assign rfl rfl ?_
            refine WL.nil ?_
            refine WQ.then_normal ?_
            refine WC.ret ?_
            refine WQ.then_ret ?_
            refine WQ.block_ret ?_
            refine WQ.then_ret ?_
            refine WQ.block_ret ?_
            refine WQ.scope_ret ?_
            refine WQ.ret (rs := [.cell 4 43, .tmp 5]) rfl (.cellN F.agg43 rfl (by repeat (first | exact List.Mem.head _ | apply List.Mem.tail)) rfl (.tmp rfl .nil)) (fun w hS => .inr ⟨hme, (none, 0), [], [], ?_, ?_⟩)
            · rw [← sol]; rfl
            · rw [← sol]; exact (((hS.sublist (List.nil_sublist _)).stepsNil).rowNil 54 1)
        · skip
          have hok : ok = false := h45
          subst hok
          simp only at sol
          refine WC.skip ?_
          refine WQ.then_normal ?_
          refine WC.block ?_
          obtain ⟨fo, hfo0⟩ : ∃ fo, fo = f := ⟨_, rfl⟩
          refine WC.chunks (C' := [pt b4 [.bool false, .int .u32 0, .slice none 0 0] 43, rowc (.slice aa (ls ++ ss).length ca) (ls ++ ss).length 54 1 hs, rowc (.slice pa nP pc) nP 54 1 vs, rowc (.slice ta nT tc) nT 3 1 ps, stepsC Fb vs ss]) (fun w hS => ((St.pick (St.pick (St.pick (St.pick (St.pick hS (c := stepsC Fb vs ss) (by repeat (first | exact Rem.here | apply Rem.there))) (c := rowc (.slice ta nT tc) nT 3 1 ps) (by repeat (first | exact Rem.here | apply Rem.there))) (c := rowc (.slice pa nP pc) nP 54 1 vs) (by repeat (first | exact Rem.here | apply Rem.there))) (c := rowc (.slice aa (ls ++ ss).length ca) (ls ++ ss).length 54 1 hs) (by repeat (first | exact Rem.here | apply Rem.there))) (c := pt b4 [.bool false, .int .u32 0, .slice none 0 0] 43) (by repeat (first | exact Rem.here | apply Rem.there)))).sublist (List.Sublist.cons_cons _ (List.Sublist.cons_cons _ (List.Sublist.cons_cons _ (List.Sublist.cons_cons _ (List.Sublist.cons_cons _ (List.nil_sublist _))))))) ?_
          refine WC.loop (α := SG) (fun g => SInv n ls us r true g ∧ g.f ≤ fo) (fun g => [(0, .int .i64 (n : Int)), (4, pp b4), (7, .slice g.aa g.nA g.ca), (8, .slice g.ta g.nT g.tc), (9, .slice g.pa g.nP g.pc)]) (fun g => [pt b4 [.bool false, .int .u32 0, .slice none 0 0] 43, rowc (.slice g.aa g.nA g.ca) g.nA 54 1 g.hs, rowc (.slice g.pa g.nP g.pc) g.nP 54 1 g.vs, rowc (.slice g.ta g.nT g.tc) g.nT 3 1 g.ps, stepsC g.F g.vs g.ss]) (fun g => g.f) (⟨f, path, ss, vs, hs, ps, Fb, aa, pa, ta, ca, pc, tc, (ls ++ ss).length, nP, nT⟩) ?_ ?_ ?_ ?_
          · exact ⟨⟨sol, hhs, hps, by show (ls ++ ss).length = _; rw [List.length_append], hP, hT, hlit, hslit, hslen, by show path.length + f ≤ _; omega, by show ss.length + f ≤ _; omega⟩, by show f ≤ fo; omega⟩
          · exact ⟨rfl, rfl, rfl, rfl, rfl, trivial⟩
          · rfl
          rintro ⟨f, path, ss, vs, hs, ps, Fb, aa, pa, ta, ca, pc, tc, nA, nP, nT⟩ ⟨hI, hfo⟩
          dsimp only at hfo
          obtain ⟨sol, hhs, hps, hA, hP, hT, hlit, hslit, hslen, hbp, hbs⟩ := hI
          dsimp only at sol hhs hps hA hP hT hlit hslit hslen hbp hbs
          obtain ⟨f, rfl⟩ : ∃ f2, f = f2 + 1 := by cases f with | zero => simp [Fm.solveF] at sol | succ f => exact ⟨f, rfl⟩
          show WC _ _ _ _ _ _ _ [(0, .int .i64 (n : Int)), (4, pp b4), (7, .slice aa nA ca), (8, .slice ta nT tc), (9, .slice pa nP pc)] [pt b4 [.bool false, .int .u32 0, .slice none 0 0] 43, rowc (.slice aa nA ca) nA 54 1 hs, rowc (.slice pa nP pc) nP 54 1 vs, rowc (.slice ta nT tc) nT 3 1 ps, stepsC Fb vs ss]
          rw [solveF_true] at sol
          refine WC.block ?_
          refine WC.seq ?_
          refine WC.region ?_
          refine WL.step ?_
          refine WL.move rfl rfl ?_
          refine WL.step ?_
          refine WL.lenSl F.und54 rfl rfl ?_
          refine WL.step ?_
          refine WL.makeSlice F.und54 F.info3 rfl rfl rfl rfl (by omega) (by omega) (fun b72 => ?_)
          rw [← stepAt_zero hT]
          refine WL.step ?_
          refine WL.assign rfl rfl ?_
          refine WL.nil ?_
          refine WQ.then_normal ?_
          refine WC.seq ?_
          refine WC.seq ?_
          refine WC.region ?_
          refine WL.step ?_
          refine WL.move rfl rfl ?_
          refine WL.step ?_
          refine WL.lenSl F.und54 rfl rfl ?_
          refine WL.step ?_
          refine WL.move rfl rfl ?_
          refine WL.nil ?_
          refine WQ.then_normal ?_
          refine WC.block ?_
          refine WC.loop (α := Nat) (fun i => i ≤ nT) (fun i => [(0, .int .i64 (n : Int)), (4, pp b4), (7, .slice aa nA ca), (8, .slice ta nT tc), (9, .slice pa nP pc), (15, .slice (some ⟨b72, 0, none⟩) nT nT), (73, .slice ta nT tc), (74, .int .i64 (nT : Int)), (75, .int .i64 (i : Int))]) (fun i => [pt b72 (stepAt path i) 3, pt b4 [.bool false, .int .u32 0, .slice none 0 0] 43, rowc (.slice aa nA ca) nA 54 1 hs, rowc (.slice pa nP pc) nP 54 1 vs, rowc (.slice ta nT tc) nT 3 1 ps, stepsC Fb vs ss]) (fun i => nT - i) (0) ?_ ?_ ?_ ?_
          · exact Nat.zero_le _
          · exact ⟨rfl, rfl, rfl, rfl, rfl, rfl, rfl, rfl, rfl, trivial⟩
          · rfl
          rintro i hi
          refine WC.seq ?_
          refine WC.region ?_
          refine WL.step ?_
          refine WL.ltI rfl rfl rfl ?_
          refine WL.nil ?_
          refine WQ.then_normal ?_
          refine WC.seq ?_
          refine WC.cond rfl (fun h76 => ?_) (fun h76 => ?_)
          · skip
            have hlt : i < nT := by simpa using h76
            obtain ⟨x, hx⟩ : ∃ x, path[i]? = some x := ⟨_, List.getElem?_eq_getElem (by omega)⟩
            have hxl := hlit x (List.mem_of_getElem? hx)
            refine WC.know (φ := ∃ g, ta = some ⟨g, 0, none⟩ ∧ nT = nT ∧ nT ≤ tc) (fun w hS => rowc_addr (hS.ok (rowc (.slice ta nT tc) nT 3 1 ps) (by repeat (first | exact List.Mem.head _ | apply List.Mem.tail))) (by omega)) (fun ⟨g, hta, _, _⟩ => ?_)
            subst hta
            refine WC.skip ?_
            refine WQ.then_normal ?_
            refine WC.seq ?_
            refine WC.block ?_
            refine WC.seq ?_
            refine WC.region ?_
            refine WL.step ?_
            refine WL.move rfl rfl ?_
            refine WL.step ?_
            refine WL.indexAddr F.sl54 rfl rfl rfl hlt ?_
            refine WL.step ?_
            refine WL.load1 F.one3 rfl rfl (v := .int .i64 x) (fun w hS => by simpa using rowc_cell (hS.ok (rowc (.slice (some ⟨g, 0, none⟩) nT tc) nT 3 1 ps) (by repeat (first | exact List.Mem.head _ | apply List.Mem.tail))) (u := .int .i64 x) (by rw [hps]; simp [hx])) ?_
            refine WL.step ?_
            refine WL.assign rfl rfl ?_
            refine WL.step ?_
            refine WL.assign rfl rfl ?_
            refine WL.nil ?_
            refine WQ.then_normal ?_
            refine WC.region ?_
            refine WL.step ?_
            refine WL.move rfl rfl ?_
            refine WL.step ?_
            refine WL.move rfl rfl ?_
            refine WL.step ?_
            refine WL.move rfl rfl ?_
            refine WL.step ?_
            refine WL.negI rfl rfl (by omega) ?_
            refine WL.step ?_
            refine WL.indexAddr F.sl54 rfl rfl rfl hlt ?_
            refine WL.step ?_
            refine WL.store1 (cs := stepAt path i) (cs' := stepAt path (i + 1)) F.one3 rfl rfl rfl (by repeat (first | exact Upd.here | apply Upd.there)) (by have h9 := setN_set (stepAt path i) i (.int .i64 (-x)) (by rw [stepAt_len (by omega)]; omega); rw [stepAt_set hx] at h9; simpa using h9) ?_
            refine WL.nil ?_
            refine WQ.block_normal ?_
            refine WQ.then_normal ?_
            refine WC.region ?_
            refine WL.step ?_
            refine WL.add rfl rfl rfl ⟨by omega, by omega⟩ ?_
            refine WL.step ?_
            refine WL.move rfl rfl ?_
            refine WL.nil ?_
            refine WQ.back (i + 1) ?_ ?_ ?_ ?_
            · exact by omega
            · omega
            · exact ⟨rfl, rfl, rfl, rfl, rfl, rfl, rfl, rfl, rfl, trivial⟩
            · rfl
          · skip
            have hie : i = nT := by simp at h76; omega
            subst hie
            have hse : stepAt path i = (path.map (fun x => -x)).map (Value.int .i64) := by rw [hT]; exact stepAt_end
            have hcl : (path.map (fun x => -x)).length = i := by simp [hT]
            refine WC.exit ?_
            refine WQ.then_exit ?_
            refine WQ.then_exit ?_
            refine WQ.block_exit ?_
            refine WQ.then_normal ?_
            refine WC.seq ?_
            refine WC.region ?_
            refine WL.step ?_
            refine WL.move rfl rfl ?_
            refine WL.step ?_
            refine WL.move rfl rfl ?_
            refine WL.step ?_
            refine WL.buildSlice F.sl38 F.ez38 rfl rfl rfl rfl (by repeat (first | exact Built.nil | apply Built.one rfl rfl (by repeat constructor) | apply Built.agg rfl rfl (by repeat constructor))) rfl (fun b88 => ?_)
            refine WL.step ?_
            refine WL.appendE (news := [Value.slice (some ⟨b72, 0, none⟩) i i]) F.el38 rfl rfl rfl (by repeat (first | exact Rem.here | apply Rem.there)) (fun w hS j u hu => by rw [Nat.zero_add]; exact hS.cell (cs := [Value.slice (some ⟨b72, 0, none⟩) i i]) (by repeat (first | exact List.Mem.head _ | apply List.Mem.tail)) hu) rfl (by simp [Value.oneCell']) (Nat.le_trans (m := 1099511627776) (by omega) (by decide)) (by omega) (fun a4 c4 => ?_)
            refine WL.step ?_
            refine WL.assign rfl rfl ?_
            refine WL.nil ?_
            refine WQ.then_normal ?_
            refine WC.seq ?_
            refine WC.region ?_
            refine WL.step ?_
            refine WL.move rfl rfl ?_
            refine WL.step ?_
            refine WL.move rfl rfl ?_
            refine WL.step ?_
            refine WL.buildSlice F.sl38 F.ez38 rfl rfl rfl rfl (by repeat (first | exact Built.nil | apply Built.one rfl rfl (by repeat constructor) | apply Built.agg rfl rfl (by repeat constructor))) rfl (fun b92 => ?_)
            refine WL.step ?_
            refine WL.appendE (news := [Value.slice (some ⟨b72, 0, none⟩) i i]) F.el38 rfl rfl rfl (by repeat (first | exact Rem.here | apply Rem.there)) (fun w hS j u hu => by rw [Nat.zero_add]; exact hS.cell (cs := [Value.slice (some ⟨b72, 0, none⟩) i i]) (by repeat (first | exact List.Mem.head _ | apply List.Mem.tail)) hu) rfl (by simp [Value.oneCell']) (Nat.le_trans (m := 1099511627776) (by omega) (by decide)) (by omega) (fun a5 c5 => ?_)
            refine WL.step ?_
            refine WL.assign rfl rfl ?_
            refine WA.chunks (C' := [pt b4 [.bool false, .int .u32 0, .slice none 0 0] 43, rowc (.slice a5 (nA + 1) c5) (nA + 1) 54 1 (hs ++ [Value.slice (some ⟨b72, 0, none⟩) i i]), rowc (.slice a4 (nP + 1) c4) (nP + 1) 54 1 (vs ++ [Value.slice (some ⟨b72, 0, none⟩) i i]), rowc (.slice ta i tc) i 3 1 ps, stepsC (b72 :: Fb) (vs ++ [Value.slice (some ⟨b72, 0, none⟩) i i]) (ss ++ [(path.map (fun x => -x))])]) (fun w hS => ?_) ?_
            · rw [hse] at hS
              have h9 := St.stepsSnoc (St.pick (St.pick hS (c := pt b72 ((path.map (fun x => -x)).map (Value.int .i64)) 3) (by repeat (first | exact Rem.here | apply Rem.there))) (c := stepsC Fb vs ss) (by repeat (first | exact Rem.here | apply Rem.there)))
              rw [hcl] at h9
              exact ((St.pick (St.pick (St.pick (St.pick (St.pick h9 (c := stepsC (b72 :: Fb) (vs ++ [Value.slice (some ⟨b72, 0, none⟩) i i]) (ss ++ [(path.map (fun x => -x))])) (by repeat (first | exact Rem.here | apply Rem.there))) (c := rowc (.slice ta i tc) i 3 1 ps) (by repeat (first | exact Rem.here | apply Rem.there))) (c := rowc (.slice a4 (nP + 1) c4) (nP + 1) 54 1 (vs ++ [Value.slice (some ⟨b72, 0, none⟩) i i])) (by repeat (first | exact Rem.here | apply Rem.there))) (c := rowc (.slice a5 (nA + 1) c5) (nA + 1) 54 1 (hs ++ [Value.slice (some ⟨b72, 0, none⟩) i i])) (by repeat (first | exact Rem.here | apply Rem.there))) (c := pt b4 [.bool false, .int .u32 0, .slice none 0 0] 43) (by repeat (first | exact Rem.here | apply Rem.there)))).sublist (List.Sublist.cons_cons _ (List.Sublist.cons_cons _ (List.Sublist.cons_cons _ (List.Sublist.cons_cons _ (List.Sublist.cons_cons _ (List.nil_sublist _))))))
            refine WL.nil ?_
            refine WQ.then_normal ?_
            refine WC.seq ?_
            refine WC.seq ?_
            refine WC.region ?_
            refine WL.step ?_
            refine WL.move rfl rfl ?_
            refine WL.step ?_
            refine WL.lenSl F.und54 rfl rfl ?_
            refine WL.step ?_
            refine WL.eqI rfl rfl rfl ?_
            refine WL.nil ?_
            refine WQ.then_normal ?_
            refine WC.cond rfl (fun h96 => ?_) (fun h96 => ?_)
            · skip
              have hp0 : path = [] := List.eq_nil_of_length_eq_zero (by simp at h96; omega)
              subst hp0
              simp only [List.getLast?_nil] at sol
              injection sol with sol
              refine WC.seq ?_
              refine WC.region ?_
              refine WL.step ?_
              refine WL.move rfl rfl ?_
              refine WL.step ?_
              refine WL.build F.stT43 rfl (by repeat (first | exact Built.nil | apply Built.one rfl rfl (by repeat constructor) | apply Built.agg rfl rfl (by repeat constructor))) rfl ?_
              refine WL.step ?_
              refine WL.storeN F.agg43 rfl rfl rfl (by simp [Value.oneCell']) (by repeat (first | exact Upd.here | apply Upd.there)) (by repeat constructor) ?_
              refine WL.step ?_
              refine WL.assign rfl rfl ?_
              refine WL.nil ?_
              refine WQ.then_normal ?_
              refine WC.ret ?_
              refine WQ.then_ret ?_
              refine WQ.block_ret ?_
              refine WQ.then_ret ?_
              refine WQ.block_ret ?_
              refine WQ.block_ret ?_
              refine WQ.then_ret ?_
              refine WQ.block_ret ?_
              refine WQ.scope_ret ?_
              refine WQ.ret (rs := [.cell 4 43, .tmp 5]) rfl (.cellN F.agg43 rfl (by repeat (first | exact List.Mem.head _ | apply List.Mem.tail)) rfl (.tmp rfl .nil)) (fun w hS => .inr ⟨hme, (a4, c4), b72 :: Fb, vs ++ [Value.slice (some ⟨b72, 0, none⟩) i i], ?_, ?_⟩)
              · have hpl : nP + 1 = r.proof.length := by rw [← sol, hP]; simp
                rw [← hpl, ← sol]; rfl
              · have hpl : nP + 1 = r.proof.length := by rw [← sol, hP]; simp
                have h9 := ((St.pick (St.pick hS (c := stepsC (b72 :: Fb) (vs ++ [Value.slice (some ⟨b72, 0, none⟩) i i]) (ss ++ [([] : List Int).map (fun x => -x)])) (by repeat (first | exact Rem.here | apply Rem.there))) (c := rowc (.slice a4 (nP + 1) c4) (nP + 1) 54 1 (vs ++ [Value.slice (some ⟨b72, 0, none⟩) i i])) (by repeat (first | exact Rem.here | apply Rem.there)))).two2
                rw [← hpl, ← sol]; exact h9
            · skip
              have hp0 : path ≠ [] := by (intro h0; rw [h0] at hT; simp at h96 hT; omega)
              obtain ⟨last, hlast⟩ : ∃ x, path.getLast? = some x := ⟨_, List.getLast?_eq_some_getLast hp0⟩
              rw [hlast] at sol
              simp only at sol
              obtain ⟨hli, hpos⟩ := last_at hT hlast
              have hll := hlit last (List.mem_of_getLast? hlast)
              refine WC.know (φ := ∃ g, ta = some ⟨g, 0, none⟩ ∧ i = i ∧ i ≤ tc) (fun w hS => rowc_addr (hS.ok (rowc (.slice ta i tc) i 3 1 ps) (by repeat (first | exact List.Mem.head _ | apply List.Mem.tail))) hpos) (fun ⟨g, hta, _, htc⟩ => ?_)
              subst hta
              have htk : ps.take (i - 1) = path.dropLast.map (Value.int .i64) := by rw [hps, ← List.map_take, List.dropLast_eq_take, hT]
              have hslit5 : ∀ c ∈ ss ++ [(path.map (fun x => -x))], ∀ x ∈ c, Lit x := by
                intro c hc x hx
                rcases List.mem_append.1 hc with hc | hc
                · exact hslit c hc x hx
                · simp only [List.mem_singleton] at hc
                  subst hc
                  obtain ⟨y, hy, hyx⟩ := List.mem_map.1 hx
                  rw [← hyx]; exact Lit.neg (hlit y hy)
              have hslen5 : ∀ c ∈ ss ++ [(path.map (fun x => -x))], c.length ≤ 1099511627776 := by
                intro c hc
                rcases List.mem_append.1 hc with hc | hc
                · exact hslen c hc
                · simp only [List.mem_singleton] at hc
                  subst hc
                  simp; omega
              have hbs5 : (ss ++ [(path.map (fun x => -x))]).length + f ≤ 1073741824 := by simp; omega
              have hdl : path.dropLast.length = i - 1 := by simp [hT]
              refine WC.skip ?_
              refine WQ.then_normal ?_
              refine WC.seq ?_
              refine WC.region ?_
              refine WL.step ?_
              refine WL.move rfl rfl ?_
              refine WL.step ?_
              refine WL.move rfl rfl ?_
              refine WL.step ?_
              refine WL.lenSl F.und54 rfl rfl ?_
              refine WL.step ?_
              refine WL.sub rfl rfl rfl ⟨by omega, by omega⟩ ?_
              refine WA.say 102 (.int .i64 ((i - 1 : Nat) : Int)) (congrArg (fun z => some (Value.int .i64 z)) (show (i : Int) - 1 = ((i - 1 : Nat) : Int) by omega)) ?_
              refine WL.step ?_
              refine WL.indexAddr F.sl54 rfl rfl rfl (i := i - 1) (by omega) ?_
              refine WL.step ?_
              refine WL.load1 F.one3 rfl rfl (v := .int .i64 last) (fun w hS => by simpa using rowc_cell (hS.ok (rowc (.slice (some ⟨g, 0, none⟩) i tc) i 3 1 ps) (by repeat (first | exact List.Mem.head _ | apply List.Mem.tail))) (u := .int .i64 last) (by rw [hps]; simp [hli])) ?_
              refine WL.step ?_
              refine WL.assign rfl rfl ?_
              refine WL.nil ?_
              refine WQ.then_normal ?_
              refine WC.seq ?_
              refine WC.region ?_
              refine WL.step ?_
              refine WL.move rfl rfl ?_
              refine WL.step ?_
              refine WL.move rfl rfl ?_
              refine WL.step ?_
              refine WL.lenSl F.und54 rfl rfl ?_
              refine WL.step ?_
              refine WL.sub rfl rfl rfl ⟨by omega, by omega⟩ ?_
              refine WA.say 108 (.int .i64 ((i - 1 : Nat) : Int)) (congrArg (fun z => some (Value.int .i64 z)) (show (i : Int) - 1 = ((i - 1 : Nat) : Int) by omega)) ?_
              refine WL.step ?_
              refine WL.y (F := fun _ => True) (Yl.sliceSlTo (n := i - 1) F.sl54 rfl rfl (by omega)) rfl (fun _ _ => trivial) ?_
              refine WL.step ?_
              refine WL.assign rfl rfl ?_
              refine WA.chunks (fun w hS => (St.rowTake (St.pick hS (c := rowc (.slice (some ⟨g, 0, none⟩) i tc) i 3 1 ps) (by repeat (first | exact Rem.here | apply Rem.there))) hpos (k := i - 1) (by omega))) ?_
              refine WL.nil ?_
              refine WQ.then_normal ?_
              refine WC.seq ?_
              refine WC.region ?_
              refine WL.step ?_
              refine WL.move rfl rfl ?_
              refine WL.step ?_
              refine WL.ltI rfl rfl rfl ?_
              refine WL.nil ?_
              refine WQ.then_normal ?_
              refine WC.cond rfl (fun h111 => ?_) (fun h111 => ?_)
              · skip
                have hneg : last < 0 := by simpa using h111
                rw [if_pos hneg, List.append_assoc] at sol
                refine WC.seq ?_
                refine WC.region ?_
                refine WL.step ?_
                refine WL.move rfl rfl ?_
                refine WL.step ?_
                refine WL.move rfl rfl ?_
                refine WL.step ?_
                refine WL.negI rfl rfl (by omega) ?_
                refine WL.step ?_
                refine WL.buildSlice F.sl54 F.ez54 rfl rfl rfl rfl (by repeat (first | exact Built.nil | apply Built.one rfl rfl (by repeat constructor) | apply Built.agg rfl rfl (by repeat constructor))) rfl (fun b115 => ?_)
                refine WL.step ?_
                refine WL.appendE (news := [.int .i64 (-last)]) F.el54 rfl rfl rfl (by repeat (first | exact Rem.here | apply Rem.there)) (fun w hS j u hu => by rw [Nat.zero_add]; exact hS.cell (cs := [.int .i64 (-last)]) (by repeat (first | exact List.Mem.head _ | apply List.Mem.tail)) hu) rfl (by simp [Value.oneCell']) (Nat.le_trans (m := 1099511627776) (by omega) (by decide)) (by omega) (fun a6 c6 => ?_)
                refine WL.step ?_
                refine WL.assign rfl rfl ?_
                refine WL.nil ?_
                refine WQ.then_normal ?_
                refine WC.exit ?_
                refine WQ.block_other rfl ?_
                refine WQ.then_exit ?_
                refine WQ.block_other rfl ?_
                refine WQ.block_exit ?_
                refine WQ.chunks (C' := [pt b4 [.bool false, .int .u32 0, .slice none 0 0] 43, rowc (.slice a5 (nA + 1) c5) (nA + 1) 54 1 (hs ++ [Value.slice (some ⟨b72, 0, none⟩) i i]), rowc (.slice a4 (nP + 1) c4) (nP + 1) 54 1 (vs ++ [Value.slice (some ⟨b72, 0, none⟩) i i]), rowc (.slice a6 (i - 1 + 1) c6) (i - 1 + 1) 3 1 (ps.take (i - 1) ++ [.int .i64 (-last)]), stepsC (b72 :: Fb) (vs ++ [Value.slice (some ⟨b72, 0, none⟩) i i]) (ss ++ [(path.map (fun x => -x))])]) (fun w hS => ((St.pick (St.pick (St.pick (St.pick (St.pick hS (c := stepsC (b72 :: Fb) (vs ++ [Value.slice (some ⟨b72, 0, none⟩) i i]) (ss ++ [(path.map (fun x => -x))])) (by repeat (first | exact Rem.here | apply Rem.there))) (c := rowc (.slice a6 (i - 1 + 1) c6) (i - 1 + 1) 3 1 (ps.take (i - 1) ++ [.int .i64 (-last)])) (by repeat (first | exact Rem.here | apply Rem.there))) (c := rowc (.slice a4 (nP + 1) c4) (nP + 1) 54 1 (vs ++ [Value.slice (some ⟨b72, 0, none⟩) i i])) (by repeat (first | exact Rem.here | apply Rem.there))) (c := rowc (.slice a5 (nA + 1) c5) (nA + 1) 54 1 (hs ++ [Value.slice (some ⟨b72, 0, none⟩) i i])) (by repeat (first | exact Rem.here | apply Rem.there))) (c := pt b4 [.bool false, .int .u32 0, .slice none 0 0] 43) (by repeat (first | exact Rem.here | apply Rem.there)))).sublist (List.Sublist.cons_cons _ (List.Sublist.cons_cons _ (List.Sublist.cons_cons _ (List.Sublist.cons_cons _ (List.Sublist.cons_cons _ (List.nil_sublist _))))))) ?_
                refine WQ.back (⟨f, path.dropLast ++ [-last], ss ++ [(path.map (fun x => -x))], vs ++ [Value.slice (some ⟨b72, 0, none⟩) i i], hs ++ [Value.slice (some ⟨b72, 0, none⟩) i i], ps.take (i - 1) ++ [.int .i64 (-last)], b72 :: Fb, a5, a4, a6, c5, c4, c6, nA + 1, nP + 1, i - 1 + 1⟩) ?_ ?_ ?_ ?_
                · exact ⟨sol, by show hs ++ _ = us ++ (vs ++ _); rw [hhs, List.append_assoc], by show ps.take (i - 1) ++ _ = (path.dropLast ++ _).map _; rw [htk]; simp, by show nA + 1 = ls.length + (ss ++ [_]).length; rw [hA]; simp; omega, by show nP + 1 = (ss ++ [_]).length; rw [hP]; simp, by show i - 1 + 1 = (path.dropLast ++ [_]).length; simp; omega, by intro x hx; rcases List.mem_append.1 hx with hx | hx; exact hlit x ((List.dropLast_sublist path).subset hx); simp at hx; subst hx; exact ⟨by omega, by omega, by omega⟩, hslit5, hslen5, by show (path.dropLast ++ [_]).length + f ≤ _; simp; omega, hbs5⟩
                · dsimp only; omega
                · exact ⟨rfl, rfl, rfl, rfl, rfl, trivial⟩
                · rfl
              · skip
                have hneg : ¬ last < 0 := by simpa using h111
                rw [if_neg hneg, List.append_assoc] at sol
                refine WC.skip ?_
                refine WQ.block_normal ?_
                refine WQ.chunks (C' := [pt b4 [.bool false, .int .u32 0, .slice none 0 0] 43, rowc (.slice a5 (nA + 1) c5) (nA + 1) 54 1 (hs ++ [Value.slice (some ⟨b72, 0, none⟩) i i]), rowc (.slice a4 (nP + 1) c4) (nP + 1) 54 1 (vs ++ [Value.slice (some ⟨b72, 0, none⟩) i i]), rowc (.slice (some ⟨g, 0, none⟩) (i - 1) tc) (i - 1) 3 1 (ps.take (i - 1)), stepsC (b72 :: Fb) (vs ++ [Value.slice (some ⟨b72, 0, none⟩) i i]) (ss ++ [(path.map (fun x => -x))])]) (fun w hS => ((St.pick (St.pick (St.pick (St.pick (St.pick hS (c := stepsC (b72 :: Fb) (vs ++ [Value.slice (some ⟨b72, 0, none⟩) i i]) (ss ++ [(path.map (fun x => -x))])) (by repeat (first | exact Rem.here | apply Rem.there))) (c := rowc (.slice (some ⟨g, 0, none⟩) (i - 1) tc) (i - 1) 3 1 (ps.take (i - 1))) (by repeat (first | exact Rem.here | apply Rem.there))) (c := rowc (.slice a4 (nP + 1) c4) (nP + 1) 54 1 (vs ++ [Value.slice (some ⟨b72, 0, none⟩) i i])) (by repeat (first | exact Rem.here | apply Rem.there))) (c := rowc (.slice a5 (nA + 1) c5) (nA + 1) 54 1 (hs ++ [Value.slice (some ⟨b72, 0, none⟩) i i])) (by repeat (first | exact Rem.here | apply Rem.there))) (c := pt b4 [.bool false, .int .u32 0, .slice none 0 0] 43) (by repeat (first | exact Rem.here | apply Rem.there)))).sublist (List.Sublist.cons_cons _ (List.Sublist.cons_cons _ (List.Sublist.cons_cons _ (List.Sublist.cons_cons _ (List.Sublist.cons_cons _ (List.nil_sublist _))))))) ?_
                refine WQ.back (⟨f, path.dropLast, ss ++ [(path.map (fun x => -x))], vs ++ [Value.slice (some ⟨b72, 0, none⟩) i i], hs ++ [Value.slice (some ⟨b72, 0, none⟩) i i], ps.take (i - 1), b72 :: Fb, a5, a4, some ⟨g, 0, none⟩, c5, c4, tc, nA + 1, nP + 1, i - 1⟩) ?_ ?_ ?_ ?_
                · exact ⟨⟨sol, by show hs ++ _ = us ++ (vs ++ _); rw [hhs, List.append_assoc], by show ps.take (i - 1) = path.dropLast.map _; exact htk, by show nA + 1 = ls.length + (ss ++ [_]).length; rw [hA]; simp; omega, by show nP + 1 = (ss ++ [_]).length; rw [hP]; simp, by show i - 1 = path.dropLast.length; simp; omega, fun x hx => hlit x ((List.dropLast_sublist path).subset hx), hslit5, hslen5, by show path.dropLast.length + f ≤ _; simp; omega, hbs5⟩, by show f ≤ fo; omega⟩
                · exact Nat.lt_succ_self f
                · exact ⟨rfl, rfl, rfl, rfl, rfl, trivial⟩
                · rfl

end Go.Proofs.Ytbippghgkbapnaa
