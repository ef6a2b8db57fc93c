import Derived.Test.YtkgllhkhdjodeaaDoorPaWrites2
import Derived.Shelf.LaysM
import Derived.Shelf.Strconv.Itoa3
import Derived.Lib.ItoaLen
import Derived.Test.YtkgllhkhdjodeaaDoorProg
set_option linter.unusedSimpArgs false
set_option linter.unusedVariables false
namespace Go.Proofs.YtkgllhkhdjodeaaDoor
open Go Go.Eng Go.Proofs
theorem Clone_c (ls : List (List Int)) (a : Option Addr) (cap : Nat) (us : List Value) (hlen : ls.length ≤ 1099511627776) (ha : a = none ∨ ∃ b off, a = some ⟨b, off, none⟩) (w : World) (hr : RdLL w ls a us) :
  Calls Tryd.prog 29 [.slice a ls.length cap].toArray w fun e w' => ∃ x : Option Addr × Nat, e = .returned (.slice x.1 ls.length x.2) ∧ St w [] [rowc (.slice x.1 ls.length x.2) ls.length 32 1 us] w' := by
 refine enter Tryd.func29 rfl Tryd.ntmps29 rfl (St.init _) ?_
 refine jN 8 ?_
 rcases ha with rfl | ⟨b, off, rfl⟩
 ·have hus : us = [] := by
   cases us with
   | nil => rfl
   | cons u r =>
    obtain ⟨b, off, h1, _⟩ := hr.hd 0 u rfl
    cases h1
  have hl0 : ls = [] := by (have := hr.len; rw [hus] at this; exact List.eq_nil_of_length_eq_zero this.symm)
  subst hus; subst hl0
  refine jN 4 ?_
  refine WL.bin rfl rfl rfl (v := .bool true) (fun w => by kernel_rfl) ?_
  refine jN 11 ?_
  exact WQ.ret (rs := [.tmp 2]) rfl (.tmp rfl .nil) (fun w hS => ⟨(none, 0), rfl, hS.rowNil 32 1⟩)
 ·refine jN 4 ?_
  refine WL.bin rfl rfl rfl (v := .bool false) (fun w => by kernel_rfl) ?_
  refine jN 8 ?_
  refine WL.buildSlice0 F.sl22 rfl (fun b5 => ?_)
  refine WA.chunks (fun w hS => hS.rowOf (n := 0) (sz := 1) rfl (by decide)) ?_
  refine jN 3 ?_
  refine WL.appendE (news := us) F.el22 rfl rfl rfl jR (fun w hS i u hu => ?_) (by rw [hr.len, Nat.mul_one]) (fun u hu => ?_) (Nat.le_trans (m := 1099511627776) (by omega) (by decide)) (by omega) (fun a2 cap2 => ?_)
  ·obtain ⟨b2, off2, h1, h2⟩ := hr.hd i u hu
   injection h1 with h1
   injection h1 with h1 h3
   subst h1; subst h3
   exact hS.oldc h2 (by simp)
  ·obtain ⟨i, hi, he⟩ := List.getElem_of_mem hu
   have h1 : us[i]? = some u := by rw [List.getElem?_eq_getElem hi, he]
   have h2 : ls[i]? = some (ls[i]'(by rw [← hr.len]; exact hi)) := List.getElem?_eq_getElem _
   obtain ⟨a1, c1, h3, _⟩ := hr.rd i _ u h2 h1
   subst h3
   rfl
  refine jN 5 ?_
  refine WQ.ret (rs := [.tmp 2]) rfl (.tmp rfl .nil) (fun w hS => ⟨(a2, cap2), ?_, ?_⟩)
  ·simp [tup]
  ·simpa using hS

theorem passK_KB : ∀ {ls : List (List Int)} {k : Fm.Kn} {ag : Bool}, KB k → (∀ c ∈ ls, ∀ x ∈ c, Lit x) → (∀ k', Fm.passK ls k ag = .inl k' → KB k') ∧ (∀ k' b, Fm.passK ls k ag = .inr (k', b) → KB k')
 | [], k, ag, hk, _ => ⟨fun k' h => by simp [Fm.passK] at h, fun k' b h => by simp only [Fm.passK, Sum.inr.injEq, Prod.mk.injEq] at h; rw [← h.1]; exact hk⟩
 | c :: cs, k, ag, hk, hl => by
  have hcs : ∀ c ∈ cs, ∀ x ∈ c, Lit x := fun c' h => hl c' (List.mem_cons_of_mem _ h)
  simp only [Fm.passK]
  split
  ·exact ⟨fun k' h => by injection h with h; rw [← h]; exact hk, fun k' b h => by cases h⟩
  split
  ·exact ⟨fun k' h => by injection h with h; rw [← h]; exact hk, fun k' b h => by cases h⟩
  split
  ·rename_i h1 h2 h3
   have hx : Lit (Fm.unitK k c).1 := by
    rcases unitG_mem (x := (Fm.unitK k c).1) (c := c) (op := 0) (k := k) (by have := h3; unfold Fm.unitK at this ⊢; rw [← this]) with h0 | h0
    ·exfalso
     apply h2
     rw [h3, h0]; rfl
    ·exact hl c (List.mem_cons_self ..) _ h0
   exact passK_KB (hk.with hx) hcs
  ·exact passK_KB hk hcs
theorem closedF_KB : ∀ {f : Nat} {ls : List (List Int)} {k k' : Fm.Kn} {b : Bool}, KB k → (∀ c ∈ ls, ∀ x ∈ c, Lit x) → Fm.closedF f ls k = some (k', b) → KB k'
 | 0, ls, k, k', b, _, _, h => by simp [Fm.closedF] at h
 | f + 1, ls, k, k', b, hk, hl, h => by
  have hp := passK_KB (ag := false) hk hl
  simp only [Fm.closedF] at h
  split at h
  ·rename_i k2 h2
   simp only [Option.some.injEq, Prod.mk.injEq] at h
   rw [← h.1]; exact hp.1 _ h2
  ·rename_i k2 b2 h2
   split at h
   ·exact closedF_KB (hp.2 _ _ h2) hl h
   ·simp only [Option.some.injEq, Prod.mk.injEq] at h
    rw [← h.1]; exact hp.2 _ _ h2
theorem solveF_true {n f : Nat} {all proof : List (List Int)} {path : List Int} : Fm.solveF n (f + 1) true all path proof = match path.getLast? with
  | none => some ⟨false, 0, proof ++ [path.map (fun x => -x)]⟩
  | some last => if last < 0 then Fm.solveF n f false (all ++ [path.map (fun x => -x)]) (path.dropLast ++ [-last]) (proof ++ [path.map (fun x => -x)]) else Fm.solveF n f true (all ++ [path.map (fun x => -x)]) path.dropLast (proof ++ [path.map (fun x => -x)]) := rfl
structure SG where
 f : Nat
 path : List Int
 ss : List (List Int)
 vs : List Value
 hs : List Value
 ps : List Value
 F : List Nat
 aa : Option Addr
 pa : Option Addr
 ta : Option Addr
 ca : Nat
 pc : Nat
 tc : Nat
 nA : Nat
 nP : Nat
 nT : Nat
structure SInv (n : Nat) (ls : List (List Int)) (us : List Value) (r : Fm.Ans) (mode : Bool) (g : SG) : Prop where
 sol : Fm.solveF n g.f mode (ls ++ g.ss) g.path g.ss = some r
 hhs : g.hs = us ++ g.vs
 hps : g.ps = g.path.map (Value.int .i64)
 hA : g.nA = ls.length + g.ss.length
 hP : g.nP = g.ss.length
 hT : g.nT = g.path.length
 lit : ∀ x ∈ g.path, x ≠ 0 ∧ -24 ≤ x ∧ x ≤ 24
 slit : ∀ c ∈ g.ss, ∀ x ∈ c, Lit x
 slen : ∀ c ∈ g.ss, c.length ≤ 1099511627776
 bp : g.path.length + g.f ≤ 1073741824
 bs : g.ss.length + g.f ≤ 1073741824
/-- The step that shows that a path leads to no model, laid up to i. -/
def stepAt (path : List Int) (i : Nat) : List Value := ((path.map (fun x => -x)).take i).map (Value.int .i64) ++ List.replicate (path.length - i) (.int .i64 0)
theorem stepAt_len {path : List Int} {i : Nat} (h : i ≤ path.length) : (stepAt path i).length = path.length := by
 simp [stepAt]; omega
theorem stepAt_set {path : List Int} {i : Nat} {x : Int} (h : path[i]? = some x) : (stepAt path i).set i (.int .i64 (-x)) = stepAt path (i + 1) := by
 have hi := (List.getElem?_eq_some_iff.1 h).1
 have hl : (((path.map (fun x => -x)).take i).map (Value.int .i64)).length = i := by simp; omega
 unfold stepAt
 rw [List.set_append_right _ _ (by omega), hl, Nat.sub_self, List.take_add_one, List.map_append]
 have hg : (path.map (fun x => -x))[i]? = some (-x) := by simp [h]
 rw [hg]
 have hr : path.length - i = (path.length - (i + 1)) + 1 := by omega
 rw [hr, List.replicate_succ, List.set_cons_zero]
 simp
theorem stepAt_end {path : List Int} : stepAt path path.length = (path.map (fun x => -x)).map (Value.int .i64) := by
 simp [stepAt]
 rw [List.take_of_length_le (by simp)]
theorem Lit.neg {x : Int} (h : x ≠ 0 ∧ -24 ≤ x ∧ x ≤ 24) : Lit (-x) := ⟨by omega, by omega, by omega⟩
theorem litB_lit {n : Nat} {x : Int} (hn : n ≤ 24) (h : Fm.litB (n : Int) x = true) : Lit x := by
 simp only [Fm.litB, Bool.and_eq_true, Bool.not_eq_true', decide_eq_true_eq, beq_eq_false_iff_ne] at h
 exact ⟨h.1.1, by omega, by omega⟩
theorem may_lit {n : Nat} {ls : List (List Int)} (hn : n ≤ 24) (h : ls.all (Fm.fitsB (n : Int)) = true) : (∀ c ∈ ls, ∀ x ∈ c, Lit x) ∧ (∀ c ∈ ls, c.length ≤ 64) := by
 rw [List.all_eq_true] at h
 refine ⟨fun c hc x hx => ?_, fun c hc => ?_⟩
 ·have := h c hc
  simp only [Fm.fitsB, Bool.and_eq_true, List.all_eq_true] at this
  exact litB_lit hn (this.2 x hx)
 ·have := h c hc
  simp only [Fm.fitsB, Bool.and_eq_true, decide_eq_true_eq] at this
  exact this.1
def SolvePost (w : World) (r : Fm.Ans) (e : Ending) (w' : World) : Prop :=
 ∃ (x : Option Addr × Nat) (F : List Nat) (vs : List Value), e = .returned (.tuple #[.agg #[.bool r.ok, .int .u32 (r.model : Int), .slice x.1 r.proof.length x.2], .int .i64 0]) ∧
  St w [] [rowc (.slice x.1 r.proof.length x.2) r.proof.length 32 1 vs, stepsC F vs r.proof] w'

theorem may_zero {m : Int} {ls : List (List Int)} (h : Fm.mayE m ls = 0) : (0 ≤ m ∧ m ≤ 24) ∧ ls.length ≤ 4096 ∧ ls.all (Fm.fitsB m) = true := by
 unfold Fm.mayE at h
 split at h
 ·cases h
 split at h
 ·cases h
 split at h
 ·rename_i h1 h2 h3
  exact ⟨by omega, by omega, h3⟩
 ·cases h
theorem stepAt_zero {path : List Int} {k : Nat} (h : k = path.length) : stepAt path 0 = List.replicate k (.int .i64 0) := by
 simp [stepAt, h]
theorem last_at {path : List Int} {x : Int} {k : Nat} (hk : k = path.length) (h : path.getLast? = some x) : path[k - 1]? = some x ∧ 0 < k := by
 subst hk
 rw [List.getLast?_eq_getElem?] at h
 exact ⟨h, by have := (List.getElem?_eq_some_iff.1 h).1; omega⟩
namespace F
theorem info3 : (Tryd.prog.info? 3).map (fun i => (i.zero, i.size, i.bytes)) = some (some (.int .i64 0), 1, 8) := by kernel_rfl
end F

theorem Solve_c (m : Int) (ls : List (List Int)) (a : Option Addr) (cap : Nat) (us : List Value) (ha : a = none ∨ ∃ b off, a = some ⟨b, off, none⟩) (w : World) (hr : RdLL w ls a us)
  (f0 : Nat) (r : Fm.Ans) (hf0 : f0 ≤ 536870912) (hsol : ∀ n : Nat, m = (n : Int) → Fm.mayE m ls = 0 → Fm.solveF n f0 false ls [] [] = some r) :
  Calls Tryd.prog 13 [.int .i64 m, .slice a ls.length cap].toArray w fun e w' => (Fm.mayE m ls ≠ 0 ∧ e = .returned (.tuple #[.agg #[.bool false, .int .u32 0, .slice none 0 0], .int .i64 (Fm.mayE m ls)]) ∧ St w [] [] w') ∨
   (Fm.mayE m ls = 0 ∧ SolvePost w r e w') := by
 refine enter Tryd.func13 rfl Tryd.ntmps13 rfl (St.init _) ?_
 refine jN 3 ?_
 refine WL.alloc F.zero42 rfl (fun b4 => ?_)
 refine jN 4 ?_
 refine WC.scope ?_
 refine jN 8 ?_
 refine WL.callV F.fun14 rfl rfl (fun w hS => may_c m ls a cap us w (hr.next hS)) ?_
 refine jN 12 ?_
 refine WC.cond rfl (fun h23 => ?_) (fun h23 => ?_)
 ·have hme : Fm.mayE m ls ≠ 0 := by simpa using h23
  refine jN 14 ?_
  refine WQ.scope_ret ?_
  refine WQ.ret (rs := [.cell 4 42, .tmp 5]) rfl (.cellN F.agg42 rfl jM rfl (.tmp rfl .nil)) (fun w hS => .inl ⟨hme, rfl, hS.drop⟩)
 ·have hme : Fm.mayE m ls = 0 := by simpa using h23
  obtain ⟨hm0, hcount, hall⟩ := may_zero hme
  obtain ⟨n, rfl⟩ : ∃ n : Nat, m = (n : Int) := ⟨m.toNat, by omega⟩
  have hn : n ≤ 24 := by omega
  obtain ⟨hlits, hlens⟩ := may_lit hn hall
  have h := hsol n rfl hme
  refine jN 7 ?_
  refine jC (β := Option Addr × Nat) (res := fun x => .slice x.1 ls.length x.2) (cs := fun x => [rowc (.slice x.1 ls.length x.2) ls.length 32 1 us]) F.fun29 rfl (fun w hS _ => Clone_c ls a cap us (by omega) ha w (hr.next hS)) (fun x27 => ?_)
  refine jN 17 ?_
  refine WC.label ?_
  refine jN 2 ?_
  obtain ⟨a1, c1⟩ := x27
  refine WC.chunks (fun w hS => (hS.rowNil 32 1)) ?_
  refine WC.chunks (fun w hS => (hS.rowNil 3 1)) ?_
  refine WC.chunks (fun w hS => hS.stepsNil) ?_
  refine WC.chunks (C' := [pt b4 [.bool false, .int .u32 0, .slice none 0 0] 42, rowc (.slice a1 ls.length c1) ls.length 32 1 us, rowc (.slice none 0 0) 0 32 1 [], rowc (.slice none 0 0) 0 3 1 [], stepsC [] [] []]) (fun w hS => (St.pick (St.pick (St.pick (St.pick hS (c := rowc (.slice none 0 0) 0 3 1 []) jR) (c := rowc (.slice none 0 0) 0 32 1 []) jR) (c := rowc (.slice a1 ls.length c1) ls.length 32 1 us) jR) (c := pt b4 [.bool false, .int .u32 0, .slice none 0 0] 42) jR)) ?_
  refine WC.loop (α := SG) (SInv n ls us r false) (fun g => [(0, .int .i64 (n : Int)), (4, pp b4), (7, .slice g.aa g.nA g.ca), (8, .slice g.ta g.nT g.tc), (9, .slice g.pa g.nP g.pc)]) (fun g => [pt b4 [.bool false, .int .u32 0, .slice none 0 0] 42, rowc (.slice g.aa g.nA g.ca) g.nA 32 1 g.hs, rowc (.slice g.pa g.nP g.pc) g.nP 32 1 g.vs, rowc (.slice g.ta g.nT g.tc) g.nT 3 1 g.ps, stepsC g.F g.vs g.ss]) (fun g => g.f) (⟨f0, [], [], [], us, [], [], a1, none, none, c1, 0, 0, ls.length, 0, 0⟩) ?_ ?_ ?_ ?_
  ·exact ⟨by rw [List.append_nil]; exact h, by rw [List.append_nil], rfl, rfl, rfl, rfl, by simp, by simp, by simp, by simp; omega, by simp; omega⟩
  ·exact ⟨rfl, rfl, rfl, rfl, rfl, trivial⟩
  ·rfl
  rintro ⟨f, path, ss, vs, hs, ps, Fb, aa, pa, ta, ca, pc, tc, nA, nP, nT⟩ hI
  obtain ⟨sol, hhs, hps, hA, hP, hT, hlit, hslit, hslen, hbp, hbs⟩ := hI
  dsimp only at sol hhs hps hA hP hT hlit hslit hslen hbp hbs
  obtain ⟨f, rfl⟩ : ∃ f2, f = f2 + 1 := by cases f with | zero => simp [Fm.solveF] at sol | succ f => exact ⟨f, rfl⟩
  show WC _ _ _ _ _ _ _ [(0, .int .i64 (n : Int)), (4, pp b4), (7, .slice aa nA ca), (8, .slice ta nT tc), (9, .slice pa nP pc)] [pt b4 [.bool false, .int .u32 0, .slice none 0 0] 42, rowc (.slice aa nA ca) nA 32 1 hs, rowc (.slice pa nP pc) nP 32 1 vs, rowc (.slice ta nT tc) nT 3 1 ps, stepsC Fb vs ss]
  simp only [Fm.solveF] at sol
  obtain rfl : nA = (ls ++ ss).length := by rw [hA, List.length_append]
  have hLL : ∀ c ∈ ls ++ ss, ∀ x ∈ c, Lit x := by
   intro c hc
   rcases List.mem_append.1 hc with hc | hc
   ·exact hlits c hc
   ·exact hslit c hc
  have hLen : ∀ c ∈ ls ++ ss, c.length ≤ 1099511627776 := by
   intro c hc
   rcases List.mem_append.1 hc with hc | hc
   ·have := hlens c hc; omega
   ·exact hslen c hc
  refine jN 6 ?_
  refine WL.alloc F.zero70 rfl (fun b10 => ?_)
  refine jN 16 ?_
  refine WC.loop (α := Nat × Fm.Kn) (fun g => g.1 ≤ nT ∧ KB g.2 ∧ g.2 = (path.take g.1).foldl Fm.withK (0, 0)) (fun g => [(0, .int .i64 (n : Int)), (4, pp b4), (7, .slice aa (ls ++ ss).length ca), (8, .slice ta nT tc), (9, .slice pa nP pc), (10, pp b10), (29, .slice ta nT tc), (30, .int .i64 (nT : Int)), (31, .int .i64 (g.1 : Int))]) (fun g => [pt b10 [.int .u32 (g.2.1 : Int), .int .u32 (g.2.2 : Int)] 70, pt b4 [.bool false, .int .u32 0, .slice none 0 0] 42, rowc (.slice aa (ls ++ ss).length ca) (ls ++ ss).length 32 1 hs, rowc (.slice pa nP pc) nP 32 1 vs, rowc (.slice ta nT tc) nT 3 1 ps, stepsC Fb vs ss]) (fun g => nT - g.1) ((0, (0, 0))) ?_ ?_ ?_ ?_
  ·exact ⟨Nat.zero_le _, ⟨by decide, by decide⟩, rfl⟩
  ·exact ⟨rfl, rfl, rfl, rfl, rfl, rfl, rfl, rfl, rfl, trivial⟩
  ·rfl
  rintro ⟨i, k⟩ ⟨hi, hk, hke⟩
  dsimp only at hi hk hke
  show WC _ _ _ _ _ _ _ [(0, .int .i64 (n : Int)), (4, pp b4), (7, .slice aa (ls ++ ss).length ca), (8, .slice ta nT tc), (9, .slice pa nP pc), (10, pp b10), (29, .slice ta nT tc), (30, .int .i64 (nT : Int)), (31, .int .i64 (i : Int))] [pt b10 [.int .u32 (k.1 : Int), .int .u32 (k.2 : Int)] 70, pt b4 [.bool false, .int .u32 0, .slice none 0 0] 42, rowc (.slice aa (ls ++ ss).length ca) (ls ++ ss).length 32 1 hs, rowc (.slice pa nP pc) nP 32 1 vs, rowc (.slice ta nT tc) nT 3 1 ps, stepsC Fb vs ss]
  refine jN 7 ?_
  refine WC.cond rfl (fun h32 => ?_) (fun h32 => ?_)
  ·have hlt : i < nT := by simpa using h32
   obtain ⟨x, hx⟩ : ∃ x, path[i]? = some x := ⟨_, List.getElem?_eq_getElem (by omega)⟩
   have hxl := hlit x (List.mem_of_getElem? hx)
   refine WC.know (φ := ∃ g, ta = some ⟨g, 0, none⟩ ∧ nT = nT ∧ nT ≤ tc) (fun w hS => rowc_addr (hS.ok (rowc (.slice ta nT tc) nT 3 1 ps) jM) (by omega)) (fun ⟨g, hta, _, _⟩ => ?_)
   subst hta
   refine jN 7 ?_
   refine WL.indexAddr F.sl32 rfl rfl rfl hlt ?_
   refine jN 1 ?_
   refine WL.load1 F.one3 rfl rfl (v := .int .i64 x) (fun w hS => by simpa using rowc_cell (hS.ok (rowc (.slice (some ⟨g, 0, none⟩) nT tc) nT 3 1 ps) jM) (u := .int .i64 x) (by rw [hps]; simp [hx])) ?_
   refine jN 10 ?_
   refine WL.callV F.fun30 rfl rfl (fun w _ => with_c k x hk ⟨hxl.1, by omega, by omega⟩ w) ?_
   refine jN 11 ?_
   refine WQ.back ((i + 1, Fm.withK k x)) ?_ ?_ ?_ ?_
   ·exact ⟨by show i + 1 ≤ nT; omega, hk.with ⟨hxl.1, by omega, by omega⟩, by show Fm.withK k x = _; rw [List.take_add_one, hx, List.foldl_append, ← hke]; rfl⟩
   ·(show nT - (i + 1) < nT - i; omega)
   ·exact ⟨rfl, rfl, rfl, rfl, rfl, rfl, rfl, rfl, rfl, trivial⟩
   ·rfl
  ·have hie : nT = i := by simp at h32; omega
   subst hie
   rw [hT, List.take_length] at hke
   refine jN 6 ?_
   rcases hcl : Fm.closedF 65 (ls ++ ss) k with _ | ⟨k1, ok⟩
   ·rw [← hke, hcl] at sol
    cases sol
   ·rw [← hke, hcl] at sol
    have hk1 := closedF_KB hk hLL hcl
    refine jN 6 ?_
    refine WL.callV F.fun31 rfl rfl (fun w hS => closed_c (ls ++ ss) aa ca hs k 65 (k1, ok) hk hLL hLen (by simp; omega) w (hr.join hS hhs (by rw [List.length_append]) (n := (ls ++ ss).length) (cap := ca) (F := Fb) (vs := vs) jM jM) hcl) ?_
    refine jN 19 ?_
    refine WC.cond rfl (fun h45 => ?_) (fun h45 => ?_)
    ·have hok : ok = true := h45
     subst hok
     simp only at sol
     refine jN 10 ?_
     refine WC.loop (α := Nat) (fun i => i ≤ n ∧ Fm.openK k1 n = Fm.openK k1 i) (fun i => [(0, .int .i64 (n : Int)), (4, pp b4), (7, .slice aa (ls ++ ss).length ca), (8, .slice ta nT tc), (9, .slice pa nP pc), (10, pp b10), (14, .int .i64 (i : Int))]) (fun _ => [pt b10 [.int .u32 (k1.1 : Int), .int .u32 (k1.2 : Int)] 70, pt b4 [.bool false, .int .u32 0, .slice none 0 0] 42, rowc (.slice aa (ls ++ ss).length ca) (ls ++ ss).length 32 1 hs, rowc (.slice pa nP pc) nP 32 1 vs, rowc (.slice ta nT tc) nT 3 1 ps, stepsC Fb vs ss]) (fun i => i) (n) ?_ ?_ ?_ ?_
     ·exact ⟨Nat.le_refl _, rfl⟩
     ·exact ⟨rfl, rfl, rfl, rfl, rfl, rfl, rfl, trivial⟩
     ·rfl
     rintro i ⟨hi, hop⟩
     refine jN 9 ?_
     refine WC.cond rfl (fun h48 => ?_) (fun h48 => ?_)
     ·have hi0 : 0 < i := by simp at h48; omega
      have hLi : Lit (i : Int) := ⟨by omega, by omega, by omega⟩
      have hLn : Lit (-(i : Int)) := ⟨by omega, by omega, by omega⟩
      have hok2 : Fm.openK k1 i = if !Fm.hasK k1 (i : Int) && !Fm.hasK k1 (-(i : Int)) then i else Fm.openK k1 (i - 1) := by
       obtain ⟨j, rfl⟩ : ∃ j, i = j + 1 := ⟨i - 1, by omega⟩
       simp only [Fm.openK, Nat.add_sub_cancel]
      refine jN 11 ?_
      refine WL.callV F.fun32 rfl rfl (fun w _ => has_c k1 _ hk1 hLi w) ?_
      refine jN 4 ?_
      refine WA.splitB (i := 55) rfl (fun h55 => ?_) (fun h55 => ?_)
      ·refine jN 8 ?_
       refine WL.negI rfl rfl (by omega) ?_
       refine jN 2 ?_
       refine WL.callV F.fun32 rfl rfl (fun w _ => has_c k1 _ hk1 hLn w) ?_
       refine jN 7 ?_
       refine WC.cond rfl (fun h61 => ?_) (fun h61 => ?_)
       ·have hoi : Fm.openK k1 n = i := by rw [hop, hok2, h55, h61]; rfl
        rw [if_neg (by rw [hoi]; omega), hoi] at sol
        refine jN 7 ?_
        refine WL.negI rfl rfl (by omega) ?_
        refine jN 1 ?_
        refine WL.buildSlice F.sl32 F.ez32 rfl rfl rfl rfl jB rfl (fun b65 => ?_)
        refine jN 1 ?_
        refine WL.appendE (news := [.int .i64 (-(i : Int))]) F.el32 rfl rfl rfl jR (fun w hS j u hu => by rw [Nat.zero_add]; exact hS.cell (cs := [.int .i64 (-(i : Int))]) jM hu) rfl jO (Nat.le_trans (m := 1099511627776) (by omega) (by decide)) (by omega) (fun a3 c3 => ?_)
        refine jN 12 ?_
        refine WQ.chunks (C' := [pt b4 [.bool false, .int .u32 0, .slice none 0 0] 42, rowc (.slice aa (ls ++ ss).length ca) (ls ++ ss).length 32 1 hs, rowc (.slice pa nP pc) nP 32 1 vs, rowc (.slice a3 (nT + 1) c3) (nT + 1) 3 1 (ps ++ [.int .i64 (-(i : Int))]), stepsC Fb vs ss]) (fun w hS => (jK hS)) ?_
        refine WQ.back (⟨f, path ++ [-(i : Int)], ss, vs, hs, ps ++ [.int .i64 (-(i : Int))], Fb, aa, pa, a3, ca, pc, c3, (ls ++ ss).length, nP, nT + 1⟩) ?_ ?_ ?_ ?_
        ·exact ⟨sol, hhs, by show ps ++ _ = (path ++ _).map _; rw [hps]; simp, by show (ls ++ ss).length = _; rw [List.length_append], hP, by show nT + 1 = (path ++ [_]).length; rw [hT]; simp, by intro x hx; rcases List.mem_append.1 hx with hx | hx; exact hlit x hx; simp at hx; subst hx; exact ⟨by omega, by omega, by omega⟩, hslit, hslen, by show (path ++ [_]).length + f ≤ _; simp; omega, by show ss.length + f ≤ _; omega⟩
        ·exact Nat.lt_succ_self f
        ·exact ⟨rfl, rfl, rfl, rfl, rfl, trivial⟩
        ·rfl
       ·have hop2 : Fm.openK k1 n = Fm.openK k1 (i - 1) := by rw [hop, hok2, h55, h61]; rfl
        refine jN 11 ?_
        obtain ⟨i, rfl⟩ : ∃ i2, i = i2 + 1 := ⟨i - 1, by omega⟩
        rw [show (((i + 1 : Nat) : Int) - 1) = (i : Int) by omega]
        refine WQ.back (i) ?_ ?_ ?_ ?_
        ·exact ⟨by omega, hop2⟩
        ·omega
        ·exact ⟨rfl, rfl, rfl, rfl, rfl, rfl, rfl, trivial⟩
        ·rfl
      ·have hop2 : Fm.openK k1 n = Fm.openK k1 (i - 1) := by rw [hop, hok2, h55]; rfl
       refine jN 26 ?_
       obtain ⟨i, rfl⟩ : ∃ i2, i = i2 + 1 := ⟨i - 1, by omega⟩
       rw [show (((i + 1 : Nat) : Int) - 1) = (i : Int) by omega]
       refine WQ.back (i) ?_ ?_ ?_ ?_
       ·exact ⟨by omega, hop2⟩
       ·omega
       ·exact ⟨rfl, rfl, rfl, rfl, rfl, rfl, rfl, trivial⟩
       ·rfl
     ·have hi0 : i = 0 := by simp at h48; omega
      subst hi0
      have hop0 : Fm.openK k1 n = 0 := hop
      rw [if_pos hop0] at sol
      injection sol with sol
      refine jN 24 ?_
      refine WQ.scope_ret ?_
      refine WQ.ret (rs := [.cell 4 42, .tmp 5]) rfl (.cellN F.agg42 rfl jM rfl (.tmp rfl .nil)) (fun w hS => .inr ⟨hme, (none, 0), [], [], ?_, ?_⟩)
      ·rw [← sol]; rfl
      ·rw [← sol]; exact (((hS.sublist (List.nil_sublist _)).stepsNil).rowNil 32 1)
    ·have hok : ok = false := h45
     subst hok
     simp only at sol
     refine jN 3 ?_
     obtain ⟨fo, hfo0⟩ : ∃ fo, fo = f := ⟨_, rfl⟩
     refine WC.chunks (C' := [pt b4 [.bool false, .int .u32 0, .slice none 0 0] 42, rowc (.slice aa (ls ++ ss).length ca) (ls ++ ss).length 32 1 hs, rowc (.slice pa nP pc) nP 32 1 vs, rowc (.slice ta nT tc) nT 3 1 ps, stepsC Fb vs ss]) (fun w hS => (jK hS)) ?_
     refine WC.loop (α := SG) (fun g => SInv n ls us r true g ∧ g.f ≤ fo) (fun g => [(0, .int .i64 (n : Int)), (4, pp b4), (7, .slice g.aa g.nA g.ca), (8, .slice g.ta g.nT g.tc), (9, .slice g.pa g.nP g.pc)]) (fun g => [pt b4 [.bool false, .int .u32 0, .slice none 0 0] 42, rowc (.slice g.aa g.nA g.ca) g.nA 32 1 g.hs, rowc (.slice g.pa g.nP g.pc) g.nP 32 1 g.vs, rowc (.slice g.ta g.nT g.tc) g.nT 3 1 g.ps, stepsC g.F g.vs g.ss]) (fun g => g.f) (⟨f, path, ss, vs, hs, ps, Fb, aa, pa, ta, ca, pc, tc, (ls ++ ss).length, nP, nT⟩) ?_ ?_ ?_ ?_
     ·exact ⟨⟨sol, hhs, hps, by show (ls ++ ss).length = _; rw [List.length_append], hP, hT, hlit, hslit, hslen, by show path.length + f ≤ _; omega, by show ss.length + f ≤ _; omega⟩, by show f ≤ fo; omega⟩
     ·exact ⟨rfl, rfl, rfl, rfl, rfl, trivial⟩
     ·rfl
     rintro ⟨f, path, ss, vs, hs, ps, Fb, aa, pa, ta, ca, pc, tc, nA, nP, nT⟩ ⟨hI, hfo⟩
     dsimp only at hfo
     obtain ⟨sol, hhs, hps, hA, hP, hT, hlit, hslit, hslen, hbp, hbs⟩ := hI
     dsimp only at sol hhs hps hA hP hT hlit hslit hslen hbp hbs
     obtain ⟨f, rfl⟩ : ∃ f2, f = f2 + 1 := by cases f with | zero => simp [Fm.solveF] at sol | succ f => exact ⟨f, rfl⟩
     show WC _ _ _ _ _ _ _ [(0, .int .i64 (n : Int)), (4, pp b4), (7, .slice aa nA ca), (8, .slice ta nT tc), (9, .slice pa nP pc)] [pt b4 [.bool false, .int .u32 0, .slice none 0 0] 42, rowc (.slice aa nA ca) nA 32 1 hs, rowc (.slice pa nP pc) nP 32 1 vs, rowc (.slice ta nT tc) nT 3 1 ps, stepsC Fb vs ss]
     rw [solveF_true] at sol
     refine jN 8 ?_
     refine WL.makeSlice F.und32 F.info3 rfl rfl rfl rfl (by omega) (by omega) (fun b72 => ?_)
     rw [← stepAt_zero hT]
     refine jN 16 ?_
     refine WC.loop (α := Nat) (fun i => i ≤ nT) (fun i => [(0, .int .i64 (n : Int)), (4, pp b4), (7, .slice aa nA ca), (8, .slice ta nT tc), (9, .slice pa nP pc), (15, .slice (some ⟨b72, 0, none⟩) nT nT), (73, .slice ta nT tc), (74, .int .i64 (nT : Int)), (75, .int .i64 (i : Int))]) (fun i => [pt b72 (stepAt path i) 3, pt b4 [.bool false, .int .u32 0, .slice none 0 0] 42, rowc (.slice aa nA ca) nA 32 1 hs, rowc (.slice pa nP pc) nP 32 1 vs, rowc (.slice ta nT tc) nT 3 1 ps, stepsC Fb vs ss]) (fun i => nT - i) (0) ?_ ?_ ?_ ?_
     ·exact Nat.zero_le _
     ·exact ⟨rfl, rfl, rfl, rfl, rfl, rfl, rfl, rfl, rfl, trivial⟩
     ·rfl
     rintro i hi
     refine jN 7 ?_
     refine WC.cond rfl (fun h76 => ?_) (fun h76 => ?_)
     ·have hlt : i < nT := by simpa using h76
      obtain ⟨x, hx⟩ : ∃ x, path[i]? = some x := ⟨_, List.getElem?_eq_getElem (by omega)⟩
      have hxl := hlit x (List.mem_of_getElem? hx)
      refine WC.know (φ := ∃ g, ta = some ⟨g, 0, none⟩ ∧ nT = nT ∧ nT ≤ tc) (fun w hS => rowc_addr (hS.ok (rowc (.slice ta nT tc) nT 3 1 ps) jM) (by omega)) (fun ⟨g, hta, _, _⟩ => ?_)
      subst hta
      refine jN 9 ?_
      refine WL.indexAddr F.sl32 rfl rfl rfl hlt ?_
      refine jN 1 ?_
      refine WL.load1 F.one3 rfl rfl (v := .int .i64 x) (fun w hS => by simpa using rowc_cell (hS.ok (rowc (.slice (some ⟨g, 0, none⟩) nT tc) nT 3 1 ps) jM) (u := .int .i64 x) (by rw [hps]; simp [hx])) ?_
      refine jN 14 ?_
      refine WL.negI rfl rfl (by omega) ?_
      refine jN 1 ?_
      refine WL.indexAddr F.sl32 rfl rfl rfl hlt ?_
      refine jN 1 ?_
      refine WL.store1 (cs := stepAt path i) (cs' := stepAt path (i + 1)) F.one3 rfl rfl rfl jU (by have h9 := setN_set (stepAt path i) i (.int .i64 (-x)) (by rw [stepAt_len (by omega)]; omega); rw [stepAt_set hx] at h9; simpa using h9) ?_
      refine jN 9 ?_
      refine WQ.back (i + 1) ?_ ?_ ?_ ?_
      ·exact by omega
      ·omega
      ·exact ⟨rfl, rfl, rfl, rfl, rfl, rfl, rfl, rfl, rfl, trivial⟩
      ·rfl
     ·have hie : i = nT := by simp at h76; omega
      subst hie
      have hse : stepAt path i = (path.map (fun x => -x)).map (Value.int .i64) := by rw [hT]; exact stepAt_end
      have hcl : (path.map (fun x => -x)).length = i := by simp [hT]
      refine jN 12 ?_
      refine WL.buildSlice F.sl22 F.ez22 rfl rfl rfl rfl jB rfl (fun b88 => ?_)
      refine jN 1 ?_
      refine WL.appendE (news := [Value.slice (some ⟨b72, 0, none⟩) i i]) F.el22 rfl rfl rfl jR (fun w hS j u hu => by rw [Nat.zero_add]; exact hS.cell (cs := [Value.slice (some ⟨b72, 0, none⟩) i i]) jM hu) rfl jO (Nat.le_trans (m := 1099511627776) (by omega) (by decide)) (by omega) (fun a4 c4 => ?_)
      refine jN 11 ?_
      refine WL.buildSlice F.sl22 F.ez22 rfl rfl rfl rfl jB rfl (fun b92 => ?_)
      refine jN 1 ?_
      refine WL.appendE (news := [Value.slice (some ⟨b72, 0, none⟩) i i]) F.el22 rfl rfl rfl jR (fun w hS j u hu => by rw [Nat.zero_add]; exact hS.cell (cs := [Value.slice (some ⟨b72, 0, none⟩) i i]) jM hu) rfl jO (Nat.le_trans (m := 1099511627776) (by omega) (by decide)) (by omega) (fun a5 c5 => ?_)
      refine jN 2 ?_
      refine WA.chunks (C' := [pt b4 [.bool false, .int .u32 0, .slice none 0 0] 42, rowc (.slice a5 (nA + 1) c5) (nA + 1) 32 1 (hs ++ [Value.slice (some ⟨b72, 0, none⟩) i i]), rowc (.slice a4 (nP + 1) c4) (nP + 1) 32 1 (vs ++ [Value.slice (some ⟨b72, 0, none⟩) i i]), rowc (.slice ta i tc) i 3 1 ps, stepsC (b72 :: Fb) (vs ++ [Value.slice (some ⟨b72, 0, none⟩) i i]) (ss ++ [(path.map (fun x => -x))])]) (fun w hS => ?_) ?_
      ·rw [hse] at hS
       have h9 := St.stepsSnoc (St.pick (St.pick hS (c := pt b72 ((path.map (fun x => -x)).map (Value.int .i64)) 3) jR) (c := stepsC Fb vs ss) jR)
       rw [hcl] at h9
       exact (jK h9)
      refine jN 13 ?_
      refine WC.cond rfl (fun h96 => ?_) (fun h96 => ?_)
      ·have hp0 : path = [] := List.eq_nil_of_length_eq_zero (by simp at h96; omega)
       subst hp0
       simp only [List.getLast?_nil] at sol
       injection sol with sol
       refine jN 20 ?_
       refine WQ.scope_ret ?_
       refine WQ.ret (rs := [.cell 4 42, .tmp 5]) rfl (.cellN F.agg42 rfl jM rfl (.tmp rfl .nil)) (fun w hS => .inr ⟨hme, (a4, c4), b72 :: Fb, vs ++ [Value.slice (some ⟨b72, 0, none⟩) i i], ?_, ?_⟩)
       ·have hpl : nP + 1 = r.proof.length := by rw [← sol, hP]; simp
        rw [← hpl, ← sol]; rfl
       ·have hpl : nP + 1 = r.proof.length := by rw [← sol, hP]; simp
        have h9 := ((St.pick (St.pick hS (c := stepsC (b72 :: Fb) (vs ++ [Value.slice (some ⟨b72, 0, none⟩) i i]) (ss ++ [([] : List Int).map (fun x => -x)])) jR) (c := rowc (.slice a4 (nP + 1) c4) (nP + 1) 32 1 (vs ++ [Value.slice (some ⟨b72, 0, none⟩) i i])) jR)).two2
        rw [← hpl, ← sol]; exact h9
      ·have hp0 : path ≠ [] := by (intro h0; rw [h0] at hT; simp at h96 hT; omega)
       obtain ⟨last, hlast⟩ : ∃ x, path.getLast? = some x := ⟨_, List.getLast?_eq_some_getLast hp0⟩
       rw [hlast] at sol
       simp only at sol
       obtain ⟨hli, hpos⟩ := last_at hT hlast
       have hll := hlit last (List.mem_of_getLast? hlast)
       refine WC.know (φ := ∃ g, ta = some ⟨g, 0, none⟩ ∧ i = i ∧ i ≤ tc) (fun w hS => rowc_addr (hS.ok (rowc (.slice ta i tc) i 3 1 ps) jM) hpos) (fun ⟨g, hta, _, htc⟩ => ?_)
       subst hta
       have htk : ps.take (i - 1) = path.dropLast.map (Value.int .i64) := by rw [hps, ← List.map_take, List.dropLast_eq_take, hT]
       have hslit5 : ∀ c ∈ ss ++ [(path.map (fun x => -x))], ∀ x ∈ c, Lit x := by
        intro c hc x hx
        rcases List.mem_append.1 hc with hc | hc
        ·exact hslit c hc x hx
        ·simp only [List.mem_singleton] at hc
         subst hc
         obtain ⟨y, hy, hyx⟩ := List.mem_map.1 hx
         rw [← hyx]; exact Lit.neg (hlit y hy)
       have hslen5 : ∀ c ∈ ss ++ [(path.map (fun x => -x))], c.length ≤ 1099511627776 := by
        intro c hc
        rcases List.mem_append.1 hc with hc | hc
        ·exact hslen c hc
        ·simp only [List.mem_singleton] at hc
         subst hc
         simp; omega
       have hbs5 : (ss ++ [(path.map (fun x => -x))]).length + f ≤ 1073741824 := by simp; omega
       have hdl : path.dropLast.length = i - 1 := by simp [hT]
       refine jN 12 ?_
       refine WA.say 102 (.int .i64 ((i - 1 : Nat) : Int)) (congrArg (fun z => some (Value.int .i64 z)) (show (i : Int) - 1 = ((i - 1 : Nat) : Int) by omega)) ?_
       refine jN 1 ?_
       refine WL.indexAddr F.sl32 rfl rfl rfl (i := i - 1) (by omega) ?_
       refine jN 1 ?_
       refine WL.load1 F.one3 rfl rfl (v := .int .i64 last) (fun w hS => by simpa using rowc_cell (hS.ok (rowc (.slice (some ⟨g, 0, none⟩) i tc) i 3 1 ps) jM) (u := .int .i64 last) (by rw [hps]; simp [hli])) ?_
       refine jN 14 ?_
       refine WA.say 108 (.int .i64 ((i - 1 : Nat) : Int)) (congrArg (fun z => some (Value.int .i64 z)) (show (i : Int) - 1 = ((i - 1 : Nat) : Int) by omega)) ?_
       refine jN 1 ?_
       refine WL.y (F := fun _ => True) (Yl.sliceSlTo (n := i - 1) F.sl32 rfl rfl (by omega)) rfl (fun _ _ => trivial) ?_
       refine jN 2 ?_
       refine WA.chunks (fun w hS => (St.rowTake (St.pick hS (c := rowc (.slice (some ⟨g, 0, none⟩) i tc) i 3 1 ps) jR) hpos (k := i - 1) (by omega))) ?_
       refine jN 10 ?_
       refine WC.cond rfl (fun h111 => ?_) (fun h111 => ?_)
       ·have hneg : last < 0 := by simpa using h111
        rw [if_pos hneg, List.append_assoc] at sol
        refine jN 7 ?_
        refine WL.negI rfl rfl (by omega) ?_
        refine jN 1 ?_
        refine WL.buildSlice F.sl32 F.ez32 rfl rfl rfl rfl jB rfl (fun b115 => ?_)
        refine jN 1 ?_
        refine WL.appendE (news := [.int .i64 (-last)]) F.el32 rfl rfl rfl jR (fun w hS j u hu => by rw [Nat.zero_add]; exact hS.cell (cs := [.int .i64 (-last)]) jM hu) rfl jO (Nat.le_trans (m := 1099511627776) (by omega) (by decide)) (by omega) (fun a6 c6 => ?_)
        refine jN 9 ?_
        refine WQ.chunks (C' := [pt b4 [.bool false, .int .u32 0, .slice none 0 0] 42, rowc (.slice a5 (nA + 1) c5) (nA + 1) 32 1 (hs ++ [Value.slice (some ⟨b72, 0, none⟩) i i]), rowc (.slice a4 (nP + 1) c4) (nP + 1) 32 1 (vs ++ [Value.slice (some ⟨b72, 0, none⟩) i i]), rowc (.slice a6 (i - 1 + 1) c6) (i - 1 + 1) 3 1 (ps.take (i - 1) ++ [.int .i64 (-last)]), stepsC (b72 :: Fb) (vs ++ [Value.slice (some ⟨b72, 0, none⟩) i i]) (ss ++ [(path.map (fun x => -x))])]) (fun w hS => (jK hS)) ?_
        refine WQ.back (⟨f, path.dropLast ++ [-last], ss ++ [(path.map (fun x => -x))], vs ++ [Value.slice (some ⟨b72, 0, none⟩) i i], hs ++ [Value.slice (some ⟨b72, 0, none⟩) i i], ps.take (i - 1) ++ [.int .i64 (-last)], b72 :: Fb, a5, a4, a6, c5, c4, c6, nA + 1, nP + 1, i - 1 + 1⟩) ?_ ?_ ?_ ?_
        ·exact ⟨sol, by show hs ++ _ = us ++ (vs ++ _); rw [hhs, List.append_assoc], by show ps.take (i - 1) ++ _ = (path.dropLast ++ _).map _; rw [htk]; simp, by show nA + 1 = ls.length + (ss ++ [_]).length; rw [hA]; simp; omega, by show nP + 1 = (ss ++ [_]).length; rw [hP]; simp, by show i - 1 + 1 = (path.dropLast ++ [_]).length; simp; omega, by intro x hx; rcases List.mem_append.1 hx with hx | hx; exact hlit x ((List.dropLast_sublist path).subset hx); simp at hx; subst hx; exact ⟨by omega, by omega, by omega⟩, hslit5, hslen5, by show (path.dropLast ++ [_]).length + f ≤ _; simp; omega, hbs5⟩
        ·dsimp only; omega
        ·exact ⟨rfl, rfl, rfl, rfl, rfl, trivial⟩
        ·rfl
       ·have hneg : ¬ last < 0 := by simpa using h111
        rw [if_neg hneg, List.append_assoc] at sol
        refine jN 2 ?_
        refine WQ.chunks (C' := [pt b4 [.bool false, .int .u32 0, .slice none 0 0] 42, rowc (.slice a5 (nA + 1) c5) (nA + 1) 32 1 (hs ++ [Value.slice (some ⟨b72, 0, none⟩) i i]), rowc (.slice a4 (nP + 1) c4) (nP + 1) 32 1 (vs ++ [Value.slice (some ⟨b72, 0, none⟩) i i]), rowc (.slice (some ⟨g, 0, none⟩) (i - 1) tc) (i - 1) 3 1 (ps.take (i - 1)), stepsC (b72 :: Fb) (vs ++ [Value.slice (some ⟨b72, 0, none⟩) i i]) (ss ++ [(path.map (fun x => -x))])]) (fun w hS => (jK hS)) ?_
        refine WQ.back (⟨f, path.dropLast, ss ++ [(path.map (fun x => -x))], vs ++ [Value.slice (some ⟨b72, 0, none⟩) i i], hs ++ [Value.slice (some ⟨b72, 0, none⟩) i i], ps.take (i - 1), b72 :: Fb, a5, a4, some ⟨g, 0, none⟩, c5, c4, tc, nA + 1, nP + 1, i - 1⟩) ?_ ?_ ?_ ?_
        ·exact ⟨⟨sol, by show hs ++ _ = us ++ (vs ++ _); rw [hhs, List.append_assoc], by show ps.take (i - 1) = path.dropLast.map _; exact htk, by show nA + 1 = ls.length + (ss ++ [_]).length; rw [hA]; simp; omega, by show nP + 1 = (ss ++ [_]).length; rw [hP]; simp, by show i - 1 = path.dropLast.length; simp; omega, fun x hx => hlit x ((List.dropLast_sublist path).subset hx), hslit5, hslen5, by show path.dropLast.length + f ≤ _; simp; omega, hbs5⟩, by show f ≤ fo; omega⟩
        ·exact Nat.lt_succ_self f
        ·exact ⟨rfl, rfl, rfl, rfl, rfl, trivial⟩
        ·rfl

end Go.Proofs.YtkgllhkhdjodeaaDoor

namespace Go.Eng
open Go Go.RowKit
section
variable {P : Program} {w0 : World} {O : List Nat} {ops : Array Oper} {Q : Exit → Act → World → Prop} {N : Nat} {D : List Deferred} {L : FL} {C : List Chunk} {K : Act → World → Prop}
variable {d : Nat} {ty : TypeId} {pos : String} {af : Array Edge}
theorem run_append_zero {t e : TypeId} {sz : Nat} (ht : P.underlying t = some (.slice e)) (hs : sizeB P e = some sz) {a0 a1 : Option Addr} {n cap c : Nat} (hn : n ≤ cap) (w : World) :
  (Builtin.append_ #[t, t] ty #[.slice a1 n cap, .slice a0 0 c]).run P w = .ok (.slice a1 n cap) w := by
 have hf : ∀ a : Option Addr, (Builtin.firstCells sz 0 (.slice a 0 c)).run P w = .ok #[] w := fun a => by
  cases a with
  | none => simp [Builtin.firstCells]
  | some a => simp [Builtin.firstCells, loadCells, loadCellsFrom]
 cases a1 with
 | none => simp [Builtin.append_, run_underlying ht, run_sizeOf hs, Builtin.lenOf, hn, hf]
 | some a1 => simp [Builtin.append_, run_underlying ht, run_sizeOf hs, Builtin.lenOf, hn, hf, storeCells]
/-- append of a slice, wherever it lies; of one of nothing, too. -/
theorem WL.appendC {s x : Operand} {t e : TypeId} {sz bytes : Nat} {v : Value} {n m c : Nat} {a0 : Option Addr} {xs news : List Value} {C1 : List Chunk} (hE : ElT P t e sz bytes) (hd : Nat.blt d N = true)
  (hs : ev L s = some v) (hx : ev L x = some (.slice a0 m c)) (hr : Rem (rowc v n e sz xs) C C1)
  (hnews : ∀ w, St w0 O C w → m ≠ 0 → ∃ bx ox, a0 = some ⟨bx, ox, none⟩ ∧ ∀ j u, news[j]? = some u → w.cell? ⟨bx, ox + j, none⟩ = some u) (hl : news.length = m * sz) (h1 : ∀ u ∈ news, u.oneCell' = true)
  (h63 : n + m ≤ maxLen) (hbytes : (n + m) * bytes ≤ 140737488355328)
  (h : ∀ a cap, WA w0 O K N D ((d, .slice a (n + m) cap) :: L) (rowc (.slice a (n + m) cap) (n + m) e sz (xs ++ news) :: C1)) :
  WK P w0 O ops Q ⟨some d, .call { callee := .builtin .append, args := #[s, x], argTypes := #[t, t] }, ty, pos, af, none⟩ K N D L C := by
 by_cases hm : m = 0
 ·subst hm
  have hn0 : news = [] := List.eq_nil_of_length_eq_zero (by simpa using hl)
  subst hn0
  intro a w hF hS
  have hS1 := hS.perm hr.perm
  have hown : w.ownsRow 0 e sz v n xs := hS1.ok _ (List.mem_cons_self ..)
  obtain ⟨a', cap', rfl⟩ := ownsRow_slice hown
  have hle : n ≤ cap' := by
   rcases hown.2 with ⟨hv, h0⟩ | ⟨g, cp, cur, hv, _, _, hle, _⟩
   ·injection hv with _ _ h2; omega
   ·injection hv with _ _ h2; omega
  obtain ⟨i, z, h1', h2, h3, h4, h5⟩ := hE.row
  have hrun := run_append_zero (P := P) (ty := ty) (sz := sz) hE.und (by unfold sizeB; rw [h1']; simp [h3]) (a0 := a0) (a1 := a') (c := c) hle w
  have h' := h a' cap'
  simp only [Nat.add_zero, List.append_nil] at h'
  refine wpo_val rfl ?_ (h' _ w (hF.put d _ hd) hS1)
  simp only [execOp, resolve, invoke, builtin, Sem.run_bind, Sem.run_pure, Result.andThen_ok, List.map_toArray, List.map_cons, List.map_nil, hF.ev hs, hF.ev hx, hrun]
 ·intro a w hF hS
  obtain ⟨bx, ox, rfl, _⟩ := hnews w hS hm
  exact WL.appendE hE hd hs hx hr (fun w hS => by
   obtain ⟨bx', ox', he, hc⟩ := hnews w hS hm
   injection he with he
   injection he with e1 e2
   subst e1; subst e2
   exact hc) hl h1 h63 hbytes h a w hF hS
/-- Rows of numbers of the holder's own: one row more, however it was made. -/
theorem St.stepsSnocR {w : World} {F : List Nat} {vs : List Value} {ss : List (List Int)} {a : Option Addr} {n cap : Nat} {c : List Int} {e : TypeId} (hn : n = c.length) (h : St w0 O (stepsC F vs ss :: rowc (.slice a n cap) n e 1 (c.map (Value.int .i64)) :: C) w) :
  ∃ F', St w0 O (stepsC F' (vs ++ [.slice a n cap]) (ss ++ [c]) :: C) w := by
 have hok : w.ownsRow 0 e 1 (.slice a n cap) n (c.map (Value.int .i64)) := h.ok (rowc (.slice a n cap) n e 1 (c.map (Value.int .i64))) (by simp)
 have hob : ∃ G : List Nat, (∀ k ∈ G, (rowc (.slice a n cap) n e 1 (c.map (Value.int .i64))).fp k) ∧ ∀ (j : Nat) (x : Int), c[j]? = some x → ∃ b, a = some ⟨b, 0, none⟩ ∧ b ∈ G ∧ w.cell? ⟨b, j, none⟩ = some (.int .i64 x) := by
  by_cases h0 : n = 0
  ·refine ⟨[], by simp, fun j x hx => ?_⟩
   have := (List.getElem?_eq_some_iff.1 hx).1
   omega
  ·obtain ⟨g, hg, _, _⟩ := rowc_addr (show (rowc (.slice a n cap) n e 1 (c.map (Value.int .i64))).ok w from hok) (by omega)
   subst hg
   exact ⟨[g], fun k hk => by simp at hk; subst hk; rfl, fun j x hx => ⟨g, rfl, by simp, rowc_cell hok (by simp [hx])⟩⟩
 obtain ⟨G, hG1, hG2⟩ := hob
 refine ⟨F ++ G, h.join (fun k hk => ?_) (fun hc hd _ => ?_)⟩
 ·rcases List.mem_append.1 hk with hk | hk
  ·exact .inl hk
  ·exact .inr (hG1 k hk)
 ·obtain ⟨h1, h2⟩ := hc
  refine ⟨by simp [h1], fun i c' u hc' hu => ?_⟩
  by_cases hi : i < ss.length
  ·rw [List.getElem?_append_left hi] at hc'
   rw [List.getElem?_append_left (by omega)] at hu
   obtain ⟨a1, cap1, h3, h4⟩ := h2 i c' u hc' hu
   refine ⟨a1, cap1, h3, fun j x hx => ?_⟩
   obtain ⟨b, hb1, hb2, hb3⟩ := h4 j x hx
   exact ⟨b, hb1, List.mem_append_left _ hb2, hb3⟩
  ·rw [List.getElem?_append_right (by omega)] at hc'
   rw [List.getElem?_append_right (by omega)] at hu
   have h0 : i - ss.length = 0 := by
    have := (List.getElem?_eq_some_iff.1 hc').1
    simp at this; omega
   rw [h0] at hc'
   rw [h1, h0] at hu
   simp at hc' hu
   subst hc'; subst hu
   refine ⟨a, cap, by rw [hn], fun j x hx => ?_⟩
   obtain ⟨b, hb1, hb2, hb3⟩ := hG2 j x hx
   exact ⟨b, hb1, List.mem_append_right _ hb2, hb3⟩
end
end Go.Eng
namespace Go.Proofs.YtkgllhkhdjodeaaDoor
open Go Go.Eng Go.Proofs
theorem RdC.of_row {w : World} {c : List Int} {a : Option Addr} {n cap : Nat} {e : TypeId} (hn : n = c.length) (h : (rowc (.slice a n cap) n e 1 (c.map (Value.int .i64))).ok w) : RdC w c a := fun j x hx => by
 have hlt := (List.getElem?_eq_some_iff.1 hx).1
 obtain ⟨g, hg, _, _⟩ := rowc_addr h (by omega)
 subst hg
 exact ⟨g, 0, rfl, by rw [Nat.zero_add]; exact rowc_cell h (by simp [hx])⟩
theorem RdC.news {w : World} {c : List Int} {a : Option Addr} (h : RdC w c a) (hc : c.length ≠ 0) : ∃ bx ox, a = some ⟨bx, ox, none⟩ ∧ ∀ j u, (c.map (Value.int .i64))[j]? = some u → w.cell? ⟨bx, ox + j, none⟩ = some u := by
 obtain ⟨x, hx⟩ : ∃ x, c[0]? = some x := ⟨c[0]'(by omega), List.getElem?_eq_getElem _⟩
 obtain ⟨b, off, ha, _⟩ := h 0 x hx
 refine ⟨b, off, ha, fun j u hu => ?_⟩
 rw [List.getElem?_map] at hu
 cases hj : c[j]? with
 | none => rw [hj] at hu; simp at hu
 | some y =>
  rw [hj] at hu; simp at hu; subst hu
  obtain ⟨b', off', ha', hc'⟩ := h j y hj
  rw [ha] at ha'
  injection ha' with ha'
  injection ha' with e1 e2
  subst e1; subst e2
  exact hc'
theorem ints_one (c : List Int) : ∀ u ∈ c.map (Value.int .i64), u.oneCell' = true := by
 intro u hu
 obtain ⟨x, _, rfl⟩ := List.mem_map.1 hu
 rfl
/-- The headers of clauses, as what is appended. -/
theorem RdLL.news {w : World} {ls : List (List Int)} {a : Option Addr} {us : List Value} (h : RdLL w ls a us) (hc : ls.length ≠ 0) : ∃ bx ox, a = some ⟨bx, ox, none⟩ ∧ ∀ j u, us[j]? = some u → w.cell? ⟨bx, ox + j, none⟩ = some u := by
 have hl := h.len
 obtain ⟨b, off, ha, _⟩ := h.hd 0 (us[0]'(by omega)) (List.getElem?_eq_getElem _)
 refine ⟨b, off, ha, fun j u hu => ?_⟩
 obtain ⟨b', off', ha', hc'⟩ := h.hd j u hu
 rw [ha] at ha'
 injection ha' with ha'
 injection ha' with e1 e2
 subst e1; subst e2
 exact hc'
theorem RdLL.one {w : World} {ls : List (List Int)} {a : Option Addr} {us : List Value} (h : RdLL w ls a us) : ∀ u ∈ us, u.oneCell' = true := by
 intro u hu
 obtain ⟨i, hi, he⟩ := List.getElem_of_mem hu
 have h1 : us[i]? = some u := by rw [List.getElem?_eq_getElem hi, he]
 have h2 : ls[i]? = some (ls[i]'(by rw [← h.len]; exact hi)) := List.getElem?_eq_getElem _
 obtain ⟨a1, c1, h3, _⟩ := h.rd i _ u h2 h1
 subst h3; rfl
/-- A row of headers, each of them readable. -/
theorem RdLL.of_row {w : World} {ls : List (List Int)} {aa : Option Addr} {hs : List Value} {n cap : Nat} (hn : n = ls.length) (hl : hs.length = ls.length) (h : (rowc (.slice aa n cap) n 32 1 hs).ok w)
  (hr : ∀ (i : Nat) (c : List Int) (u : Value), ls[i]? = some c → hs[i]? = some u → ∃ (a1 : Option Addr) (cap : Nat), u = Value.slice a1 c.length cap ∧ RdC w c a1) : RdLL w ls aa hs := by
 refine ⟨hl, fun i u hu => ?_, hr⟩
 have hlt := (List.getElem?_eq_some_iff.1 hu).1
 obtain ⟨g, hg, _, _⟩ := rowc_addr h (by omega)
 subst hg
 exact ⟨g, 0, rfl, by rw [Nat.zero_add]; exact rowc_cell h hu⟩
/-- Rows that the holder made. -/
theorem RdLL.made {w : World} {ls : List (List Int)} {aa : Option Addr} {vs : List Value} {F : List Nat} {n cap : Nat} (hn : n = ls.length) (h1 : (rowc (.slice aa n cap) n 32 1 vs).ok w) (h2 : (stepsC F vs ls).ok w) : RdLL w ls aa vs := by
 obtain ⟨hv1, hv2⟩ := (show vs.length = ls.length ∧ _ from h2)
 refine RdLL.of_row hn hv1 h1 fun i c u hc hu => ?_
 obtain ⟨a1, cap1, h3, h4⟩ := hv2 i c u hc hu
 refine ⟨a1, cap1, h3, fun j x hx => ?_⟩
 obtain ⟨b, hb1, _, hb3⟩ := h4 j x hx
 exact ⟨b, 0, hb1, by rw [Nat.zero_add]; exact hb3⟩
end Go.Proofs.YtkgllhkhdjodeaaDoor

namespace Go.Proofs.YtkgllhkhdjodeaaDoor
open Go Go.Eng Go.Proofs
theorem name_c (s : List UInt8) (w : World) : Pure Tryd.prog 12 [.string (str s)] w (.agg [Value.int .u8 3, .string (str s), .slice none 0 0].toArray) := by
 refine enter Tryd.func12 rfl Tryd.ntmps12 rfl (St.init _) ?_
 refine jN 3 ?_
 refine WL.alloc F.zero35 rfl (fun b2 => ?_)
 refine jN 13 ?_
 refine WQ.ret (rs := [.cell 2 35]) rfl (.cellN F.agg35 rfl jM rfl .nil) (fun w hS => ⟨rfl, hS.drop⟩)

def T1 : Tree := .mk 5 [] [.mk 3 [97] [], .mk 3 [98] [], .mk 5 [] [.mk 3 [99] [], .mk 3 [100] []]]
def T2 : Tree := .mk 5 [] [.mk 6 [] [.mk 3 [97] [], .mk 3 [98] []], .mk 4 [] [.mk 3 [99] []]]
theorem top1 : Fm.top [97, 32, 38, 32, 98, 32, 38, 32, 40, 99, 32, 38, 32, 100, 41] = (T1, 0, 0) := by kernel_rfl
theorem top2 : Fm.top [97, 32, 60, 61, 62, 32, 98, 32, 60, 61, 62, 32, 99] = (Fm.zeroTree, 8, 4) := by kernel_rfl
theorem print1 : printS T2 = [40, 97, 32, 124, 32, 98, 41, 32, 38, 32, 33, 99] := by kernel_rfl
theorem valid1 : Fm.validB T2 = true := by kernel_rfl
theorem sol1 : Fm.solveF 2 20 false [[1, 2], [-1]] [] [] = some ⟨true, 2, []⟩ := by kernel_rfl
theorem sol2 : Fm.solveF 1 20 false [[1], [-1]] [] [] = some ⟨false, 0, [[]]⟩ := by kernel_rfl
theorem may1 : Fm.mayE 2 [[1, 2], [-1]] = 0 := by kernel_rfl
theorem may2 : Fm.mayE 1 [[1], [-1]] = 0 := by kernel_rfl
/-- Two clauses that the caller laid. -/
theorem RdLL.two {w0 w : World} {O : List Nat} {C : List Chunk} {b1 b2 b3 : Nat} {c1 c2 : List Int} (hS : St w0 O C w) (h1 : pt b1 (c1.map (Value.int .i64)) 3 ∈ C) (h2 : pt b2 (c2.map (Value.int .i64)) 3 ∈ C)
  (h3 : pt b3 [.slice (some ⟨b1, 0, none⟩) c1.length c1.length, .slice (some ⟨b2, 0, none⟩) c2.length c2.length] 32 ∈ C) :
  RdLL w [c1, c2] (some ⟨b3, 0, none⟩) [.slice (some ⟨b1, 0, none⟩) c1.length c1.length, .slice (some ⟨b2, 0, none⟩) c2.length c2.length] := by
 refine ⟨rfl, fun i u hu => ⟨b3, 0, rfl, by rw [Nat.zero_add]; exact hS.cell h3 hu⟩, fun i c u hc hu => ?_⟩
 match i, hc, hu with
 | 0, hc, hu =>
  simp at hc hu
  subst hc; subst hu
  exact ⟨_, _, rfl, fun j x hx => ⟨b1, 0, rfl, by rw [Nat.zero_add]; exact hS.cell h1 (by simp [hx])⟩⟩
 | 1, hc, hu =>
  simp at hc hu
  subst hc; subst hu
  exact ⟨_, _, rfl, fun j x hx => ⟨b2, 0, rfl, by rw [Nat.zero_add]; exact hS.cell h2 (by simp [hx])⟩⟩
 | i + 2, hc, hu => simp at hc

theorem wakes_c (w : World) : Pure Tryd.prog 5 [] w (.bool true) := by
 refine enter Tryd.func5 rfl Tryd.ntmps5 rfl (St.init _) ?_
 refine jN 9 ?_
 refine jC (β := List Nat × Option Addr × Nat) (res := fun y => .tuple #[tv T1 y.2.1 y.2.2, .int .i64 0, .int .i64 0]) (cs := fun y => [own y.1 T1 (tv T1 y.2.1 y.2.2)]) F.fun10 rfl (fun w hS _ => (Parse_c [97, 32, 38, 32, 98, 32, 38, 32, 40, 99, 32, 38, 32, 100, 41] w).mono (fun e w2 h => ?_)) (fun y14 => ?_)
 ·rw [top1] at h
  exact h
 refine jN 9 ?_
 refine WL.alloc F.zero35 rfl (fun b1 => ?_)
 refine jN 11 ?_
 refine WL.callV F.fun12 rfl rfl (fun w _ => name_c [97] w) ?_
 refine jN 1 ?_
 refine WL.callV F.fun12 rfl rfl (fun w _ => name_c [98] w) ?_
 refine jN 1 ?_
 refine WL.buildSlice F.sl33 F.ez33 rfl rfl rfl rfl jB rfl (fun b21 => ?_)
 refine jN 3 ?_
 refine WL.callV F.fun12 rfl rfl (fun w _ => name_c [99] w) ?_
 refine jN 1 ?_
 refine WL.buildSlice F.sl33 F.ez33 rfl rfl rfl rfl jB rfl (fun b24 => ?_)
 refine jN 3 ?_
 refine WL.buildSlice F.sl33 F.ez33 rfl rfl rfl rfl jB rfl (fun b26 => ?_)
 refine jN 2 ?_
 refine WA.chunksE (C' := fun x : List Nat => [own x T2 (.agg #[.int .u8 5, .string (str []), .slice (some ⟨b26, 0, none⟩) 2 2]), pt b1 [.int .u8 T1.op, .string (str T1.name), .slice y14.2.1 T1.kids.length y14.2.2] 35]) (fun w hS => ?_) (fun G => ?_)
 ·have a1 := St.node0 3 [98] (St.node0 3 [97] hS)
  have a2 := St.pick a1 (c := own [] (Tree.mk 3 [97] []) (.agg #[.int .u8 3, .string (str [97]), .slice none 0 0])) jR
  obtain ⟨F1, a3⟩ := St.node2 6 (t1 := Tree.mk 3 [97] []) (t2 := Tree.mk 3 [98] []) (a1 := none) (a2 := none) (c1 := 0) (c2 := 0) (St.pick a2 (c := pt b21 [.int .u8 3, .string (str [97]), .slice none 0 0, .int .u8 3, .string (str [98]), .slice none 0 0] 35) jR)
  have a4 := St.node0 3 [99] a3
  obtain ⟨F2, a5⟩ := St.node1 4 (t1 := Tree.mk 3 [99] []) (a1 := none) (c1 := 0) (St.pick a4 (c := pt b24 [.int .u8 3, .string (str [99]), .slice none 0 0] 35) jR)
  have a6 := St.pick a5 (c := own F1 (.mk 6 [] [Tree.mk 3 [97] [], Tree.mk 3 [98] []]) (.agg #[.int .u8 6, .string (str []), .slice (some ⟨b21, 0, none⟩) 2 2])) jR
  obtain ⟨F3, a7⟩ := St.node2 5 (t1 := .mk 6 [] [Tree.mk 3 [97] [], Tree.mk 3 [98] []]) (t2 := .mk 4 [] [Tree.mk 3 [99] []]) (a1 := some ⟨b21, 0, none⟩) (a2 := some ⟨b24, 0, none⟩) (c1 := 2) (c2 := 1) (St.pick a6 (c := pt b26 [.int .u8 6, .string (str []), .slice (some ⟨b21, 0, none⟩) 2 2, .int .u8 4, .string (str []), .slice (some ⟨b24, 0, none⟩) 1 1] 35) jR)
  exact ⟨F3, ((St.pick (St.pick a7 (c := pt b1 [.int .u8 T1.op, .string (str T1.name), .slice y14.2.1 T1.kids.length y14.2.2] 35) jR) (c := own F3 T2 (.agg #[.int .u8 5, .string (str []), .slice (some ⟨b26, 0, none⟩) 2 2])) jR)).two2⟩
 refine jN 1 ?_
 refine WL.callV (v := .tuple #[.string (str [40, 97, 32, 124, 32, 98, 41, 32, 38, 32, 33, 99]), .int .i64 0]) F.fun11 rfl rfl (fun w hS => by have h9 := Print_c T2 G (some ⟨b26, 0, none⟩) 2 w (hS.ok _ (List.Mem.head _)).2; rw [print1, valid1] at h9; exact h9) ?_
 refine jN 15 ?_
 refine jC (β := List Nat × Option Addr × Nat) (res := fun y => .tuple #[tv Fm.zeroTree y.2.1 y.2.2, .int .i64 8, .int .i64 4]) (cs := fun y => [own y.1 Fm.zeroTree (tv Fm.zeroTree y.2.1 y.2.2)]) F.fun10 rfl (fun w hS _ => (Parse_c [97, 32, 60, 61, 62, 32, 98, 32, 60, 61, 62, 32, 99] w).mono (fun e w2 h => ?_)) (fun y32 => ?_)
 ·rw [top2] at h
  exact h
 refine jN 9 ?_
 refine WL.alloc F.zero35 rfl (fun b6 => ?_)
 refine jN 11 ?_
 refine WL.buildSlice F.sl32 F.ez32 rfl rfl rfl rfl jB rfl (fun b37 => ?_)
 refine jN 1 ?_
 refine WL.buildSlice F.sl32 F.ez32 rfl rfl rfl rfl jB rfl (fun b38 => ?_)
 refine jN 1 ?_
 refine WL.buildSlice F.sl22 F.ez22 rfl rfl rfl rfl jB rfl (fun b39 => ?_)
 refine jN 1 ?_
 refine jC (β := Option Addr × Nat) (res := fun x => .tuple #[.agg #[.bool true, .int .u32 2, .slice x.1 0 x.2], .int .i64 0]) (cs := fun _ => []) F.fun13 rfl (fun w hS _ => (Solve_c 2 [[1, 2], [-1]] (some ⟨b39, 0, none⟩) 2 _ (.inr ⟨_, _, rfl⟩) w (RdLL.two (b1 := b37) (b2 := b38) (b3 := b39) (c1 := [1, 2]) (c2 := [-1]) hS jM jM jM) 20 ⟨true, 2, []⟩ (by decide) (fun n hn _ => ?_)).mono (fun e w2 h => ?_)) (fun x40 => ?_)
 ·have : n = 2 := by omega
  subst this
  exact sol1
 ·rcases h with h | h
  ·exact absurd may1 h.1
  ·obtain ⟨_, x, F, vs, h1, h2⟩ := h
   exact ⟨x, h1, h2.sublist (List.nil_sublist _)⟩
 refine jN 7 ?_
 refine WL.alloc F.zero42 rfl (fun b9 => ?_)
 refine jN 9 ?_
 refine WL.buildSlice F.sl32 F.ez32 rfl rfl rfl rfl jB rfl (fun b44 => ?_)
 refine jN 1 ?_
 refine WL.buildSlice F.sl32 F.ez32 rfl rfl rfl rfl jB rfl (fun b45 => ?_)
 refine jN 1 ?_
 refine WL.buildSlice F.sl22 F.ez22 rfl rfl rfl rfl jB rfl (fun b46 => ?_)
 refine jN 1 ?_
 refine jC (β := Option Addr × Nat) (res := fun x => .tuple #[.agg #[.bool false, .int .u32 0, .slice x.1 1 x.2], .int .i64 0]) (cs := fun _ => []) F.fun13 rfl (fun w hS _ => (Solve_c 1 [[1], [-1]] (some ⟨b46, 0, none⟩) 2 _ (.inr ⟨_, _, rfl⟩) w (RdLL.two (b1 := b44) (b2 := b45) (b3 := b46) (c1 := [1]) (c2 := [-1]) hS jM jM jM) 20 ⟨false, 0, [[]]⟩ (by decide) (fun n hn _ => ?_)).mono (fun e w2 h => ?_)) (fun x47 => ?_)
 ·have : n = 1 := by omega
  subst this
  exact sol2
 ·rcases h with h | h
  ·exact absurd may2 h.1
  ·obtain ⟨_, x, F, vs, h1, h2⟩ := h
   exact ⟨x, h1, h2.sublist (List.nil_sublist _)⟩
 refine jN 7 ?_
 refine WL.alloc F.zero42 rfl (fun b11 => ?_)
 refine jN 14 ?_
 refine WA.splitB (i := 52) rfl (fun g52 => ?_) (fun g52 => ?_)
 ·refine jN 10 ?_
  refine WA.splitB (i := 56) rfl (fun g56 => ?_) (fun g56 => ?_)
  ·refine jN 13 ?_
   refine WA.splitB (i := 61) rfl (fun g61 => ?_) (fun g61 => ?_)
   ·refine jN 16 ?_
    refine WA.splitB (i := 67) rfl (fun g67 => ?_) (fun g67 => ?_)
    ·refine jN 10 ?_
     refine WA.splitB (i := 71) rfl (fun g71 => ?_) (fun g71 => ?_)
     ·refine jN 10 ?_
      refine WA.splitB (i := 75) rfl (fun g75 => ?_) (fun g75 => ?_)
      ·refine jN 10 ?_
       refine WA.splitB (i := 79) rfl (fun g79 => ?_) (fun g79 => ?_)
       ·refine jN 10 ?_
        refine WA.splitB (i := 83) rfl (fun g83 => ?_) (fun g83 => ?_)
        ·refine jN 10 ?_
         refine WA.splitB (i := 87) rfl (fun g87 => ?_) (fun g87 => ?_)
         ·refine jN 10 ?_
          refine WA.splitB (i := 91) rfl (fun g91 => ?_) (fun g91 => ?_)
          ·refine jN 13 ?_
           refine WA.splitB (i := 96) rfl (fun g96 => ?_) (fun g96 => ?_)
           ·refine jN 10 ?_
            refine WA.splitB (i := 100) rfl (fun g100 => ?_) (fun g100 => ?_)
            ·refine jN 13 ?_
             refine WA.splitB (i := 105) rfl (fun g105 => ?_) (fun g105 => ?_)
             ·refine jN 19 ?_
              exact WQ.ret (rs := [.tmp 0]) rfl (.tmp rfl .nil) (fun w hS => ⟨rfl, hS.sublist (List.nil_sublist _)⟩)
             ·exact absurd g105 (by decide)
            ·exact absurd g100 (by decide)
           ·exact absurd g96 (by decide)
          ·exact absurd g91 (by decide)
         ·exact absurd g87 (by decide)
        ·exact absurd g83 (by decide)
       ·exact absurd g79 (by decide)
      ·exact absurd g75 (by decide)
     ·exact absurd g71 (by decide)
    ·exact absurd g67 (by decide)
   ·exact absurd g61 (by decide)
  ·exact absurd g56 (by decide)
 ·exact absurd g52 (by decide)

end Go.Proofs.YtkgllhkhdjodeaaDoor

namespace Go.Proofs.YtkgllhkhdjodeaaDoor
open Go Go.Eng Go.Proofs
theorem rfits_c (n : Int) (l : List Int) (a : Option Addr) (cap : Nat) (hn : -1000 ≤ n ∧ n ≤ 1000) (hlen : l.length ≤ 1099511627776) (w : World) (hr : RdC w l a) : Pure Tryd.prog 18 [.int .i64 n, .slice a l.length cap] w (.bool (Fm.fitsB n l)) := by
 refine enter Tryd.func18 rfl Tryd.ntmps18 rfl (St.init _) ?_
 refine jN 14 ?_
 refine WC.loop (α := Nat) (fun i => i ≤ l.length ∧ (l.take i).all (Fm.litB n) = true) (fun i => [(0, .int .i64 n), (1, .slice a l.length cap), (5, .int .i64 (i : Int))]) (fun _ => []) (fun i => l.length - i) (0) ?_ ?_ ?_ ?_
 ·exact ⟨Nat.zero_le _, rfl⟩
 ·exact ⟨rfl, rfl, rfl, trivial⟩
 ·rfl
 rintro i ⟨hi, hal⟩
 refine jN 13 ?_
 refine WC.cond rfl (fun h9 => ?_) (fun h9 => ?_)
 ·have hlt : i < l.length := by simpa using h9
  obtain ⟨y, hx⟩ : ∃ y, l[i]? = some y := ⟨_, List.getElem?_eq_getElem hlt⟩
  obtain ⟨b, off, rfl, hcell⟩ := hr i y hx
  refine jN 5 ?_
  refine WC.cutF [(33, .bool (!Fm.litB n y)), (0, .int .i64 n), (1, .slice (some ⟨b, off, none⟩) l.length cap), (5, .int .i64 (i : Int))] (fun Q' hQ => ?_) ?_
  ·refine jN 6 ?_
   refine WL.indexAddr F.sl32 rfl rfl rfl hlt ?_
   refine jN 1 ?_
   refine WL.load1 F.one3 rfl rfl (v := .int .i64 y) (fun w hS => hS.oldc (by simpa using hcell) (by simp)) ?_
   refine jN 4 ?_
   refine WA.splitB (i := 17) rfl (fun g17 => ?_) (fun g17 => ?_)
   ·refine jN 33 ?_
    refine WQ.byCut hQ (subF_bool ?_ ⟨rfl, rfl, rfl, trivial⟩ rfl)
    unfold Fm.litB
    first | (simp_all; done) | (rw [Bool.eq_iff_iff]; simp at *; omega) | (simp_all; omega)
   ·refine jN 8 ?_
    refine WL.indexAddr F.sl32 rfl rfl rfl hlt ?_
    refine jN 2 ?_
    refine WL.load1 F.one3 rfl rfl (v := .int .i64 y) (fun w hS => hS.oldc (by simpa using hcell) (by simp)) ?_
    refine jN 5 ?_
    refine WL.negI rfl rfl (by omega) ?_
    refine jN 7 ?_
    refine WA.splitB (i := 26) rfl (fun g26 => ?_) (fun g26 => ?_)
    ·refine jN 15 ?_
     refine WQ.byCut hQ (subF_bool ?_ ⟨rfl, rfl, rfl, trivial⟩ rfl)
     unfold Fm.litB
     first | (simp_all; done) | (rw [Bool.eq_iff_iff]; simp at *; omega) | (simp_all; omega)
    ·refine jN 8 ?_
     refine WL.indexAddr F.sl32 rfl rfl rfl hlt ?_
     refine jN 2 ?_
     refine WL.load1 F.one3 rfl rfl (v := .int .i64 y) (fun w hS => hS.oldc (by simpa using hcell) (by simp)) ?_
     refine jN 9 ?_
     refine WQ.byCut hQ (subF_bool ?_ ⟨rfl, rfl, rfl, trivial⟩ rfl)
     unfold Fm.litB
     first | (simp_all; done) | (rw [Bool.eq_iff_iff]; simp at *; omega) | (simp_all; omega)
  refine jN 1 ?_
  refine WC.cond rfl (fun h33 => ?_) (fun h33 => ?_)
  ·refine jN 12 ?_
   refine WQ.ret (rs := [.tmp 4]) rfl (.tmp rfl .nil) (fun w hS => ⟨?_, hS⟩)
   have h9 : l.all (Fm.litB n) = false := by rw [List.all_eq_false]; exact ⟨y, List.mem_of_getElem? hx, by simpa using h33⟩
   simp [tup, Fm.fitsB, h9]
  ·refine jN 11 ?_
   refine WQ.back (i + 1) ?_ ?_ ?_ ?_
   ·exact ⟨by omega, by rw [List.take_add_one, hx]; simp only [Option.toList, List.all_append, hal, List.all_cons, List.all_nil, Bool.true_and, Bool.and_true]; simpa using h33⟩
   ·omega
   ·exact ⟨rfl, rfl, rfl, trivial⟩
   ·rfl
 ·have hie : i = l.length := by simp at h9; omega
  subst hie
  rw [List.take_length] at hal
  refine jN 18 ?_
  refine WQ.ret (rs := [.tmp 4]) rfl (.tmp rfl .nil) (fun w hS => ⟨?_, hS⟩)
  have h9 : decide ((l.length : Int) ≤ 64) = decide (l.length ≤ 64) := by rw [Bool.eq_iff_iff]; simp; omega
  simp [tup, Fm.fitsB, hal, h9]

theorem rclauses_c (n : Int) (ls : List (List Int)) (a : Option Addr) (cap : Nat) (us : List Value) (hll : ls.length ≤ 1099511627776) (hlens : ∀ c ∈ ls, c.length ≤ 1099511627776) (w : World) (hr : RdLL w ls a us) : Pure Tryd.prog 8 [.int .i64 n, .slice a ls.length cap] w (.int .i64 (Fm.mayE n ls)) := by
 refine enter Tryd.func8 rfl Tryd.ntmps8 rfl (St.init _) ?_
 refine jN 15 ?_
 refine WA.splitB (i := 8) rfl (fun h8 => ?_) (fun h8 => ?_)
 ·have hm : Fm.mayE n ls = 3 := by (unfold Fm.mayE; rw [if_pos]; left; simpa using h8)
  refine jN 17 ?_
  exact WQ.ret (rs := [.tmp 4]) rfl (.tmp rfl .nil) (fun w hS => ⟨by rw [hm]; rfl, hS⟩)
 ·refine jN 10 ?_
  refine WC.cond rfl (fun h11 => ?_) (fun h11 => ?_)
  ·have hm : Fm.mayE n ls = 3 := by (first | assumption | (unfold Fm.mayE; rw [if_pos]; right; simpa using h11))
   refine jN 8 ?_
   exact WQ.ret (rs := [.tmp 4]) rfl (.tmp rfl .nil) (fun w hS => ⟨by rw [hm]; rfl, hS⟩)
  ·have hn0 : ¬ (n < 0 ∨ 24 < n) := by (simp at h8 h11; omega)
   have hnb : -1000 ≤ n ∧ n ≤ 1000 := by omega
   refine jN 10 ?_
   refine WC.loop (α := Nat) (fun i => i ≤ ls.length ∧ (ls.take i).all (Fm.fitsB n) = true) (fun i => [(0, .int .i64 n), (1, .slice a ls.length cap), (5, .int .i64 (i : Int))]) (fun _ => []) (fun i => ls.length - i) (0) ?_ ?_ ?_ ?_
   ·exact ⟨Nat.zero_le _, rfl⟩
   ·exact ⟨rfl, rfl, rfl, trivial⟩
   ·rfl
   rintro i ⟨hi, hno⟩
   refine jN 13 ?_
   refine WC.cond rfl (fun h15 => ?_) (fun h15 => ?_)
   ·have hlt : i < ls.length := by simpa using h15
    obtain ⟨c, b, off, a1, cap1, hc, rfl, hcell, hrc⟩ := hr.at hlt
    have hcl := hlens c (List.mem_of_getElem? hc)
    refine jN 13 ?_
    refine WL.indexAddr F.sl22 rfl rfl rfl hlt ?_
    refine jN 1 ?_
    refine WL.load1 F.one32 rfl rfl (v := .slice a1 c.length cap1) (fun w hS => hS.oldc (by simpa using hcell) (by simp)) ?_
    refine jN 1 ?_
    refine WL.callV F.fun18 rfl rfl (fun w hS => rfits_c n c a1 cap1 hnb hcl w (hrc.next hS)) ?_
    refine jN 4 ?_
    refine WC.cond rfl (fun h24 => ?_) (fun h24 => ?_)
    ·have hm : Fm.mayE n ls = 2 := by
      unfold Fm.mayE; rw [if_neg hn0]; split
      ·rfl
      ·rw [if_neg]
       rw [Bool.not_eq_true, List.all_eq_false]
       exact ⟨c, List.mem_of_getElem? hc, by simpa using h24⟩
     refine jN 12 ?_
     exact WQ.ret (rs := [.tmp 4]) rfl (.tmp rfl .nil) (fun w hS => ⟨by rw [hm]; rfl, hS⟩)
    ·refine jN 11 ?_
     refine WQ.back (i + 1) ?_ ?_ ?_ ?_
     ·exact ⟨by omega, by rw [List.take_add_one, hc]; simp only [Option.toList, List.all_append, hno, List.all_cons, List.all_nil]; simpa using h24⟩
     ·omega
     ·exact ⟨rfl, rfl, rfl, trivial⟩
     ·rfl
   ·have hie : i = ls.length := by simp at h15; omega
    subst hie
    rw [List.take_length] at hno
    refine jN 16 ?_
    refine WC.cond rfl (fun h27 => ?_) (fun h27 => ?_)
    ·have hm : Fm.mayE n ls = 2 := by (unfold Fm.mayE; rw [if_neg hn0, if_pos]; simp at h27; omega)
     refine jN 8 ?_
     exact WQ.ret (rs := [.tmp 4]) rfl (.tmp rfl .nil) (fun w hS => ⟨by rw [hm]; rfl, hS⟩)
    ·have hm : Fm.mayE n ls = 0 := by (unfold Fm.mayE; rw [if_neg hn0, if_neg (by simp at h27; omega), if_pos hno])
     refine jN 9 ?_
     exact WQ.ret (rs := [.tmp 4]) rfl (.tmp rfl .nil) (fun w hS => ⟨by rw [hm]; rfl, hS⟩)

end Go.Proofs.YtkgllhkhdjodeaaDoor

namespace Go.Proofs.YtkgllhkhdjodeaaDoor
open Go Go.Eng Go.Proofs
structure C1 where
 f : Nat
 out : List Int
 ad : Option Addr
 ac : Nat
structure C2 where
 i : Nat
 out : List Int
 ad : Option Addr
 ac : Nat
structure C3 where
 k : Nat
 out : List Int
 ad : Option Addr
 ac : Nat

end Go.Proofs.YtkgllhkhdjodeaaDoor

namespace Go.Proofs.YtkgllhkhdjodeaaDoor
open Go Go.Eng Go.Proofs
def refuted (ls : List (List Int)) (c : List Int) : Bool := match Fm.consF 66 ls (c.map (fun x => -x)) with | some o => Fm.conflictB ls o | none => false
def verF : List (List Int) → List (List Int) → Nat → Int
 | _, [], i => i
 | ls, c :: ps, i => if refuted ls c then (if c.isEmpty then -1 else verF (ls ++ [c]) ps (i + 1)) else i
def verE (n : Int) (ls ps : List (List Int)) : Int × Int := if Fm.mayE n ls = 0 then (if ps.all (Fm.fitsB n) then (verF ls ps 0, 0) else (0, 2)) else (0, Fm.mayE n ls)
theorem any_take {α : Type} {p : α → Bool} {l : List α} {i : Nat} {x : α} (hx : l[i]? = some x) (h : (l.take i).any p = false) (hp : p x = false) : (l.take (i + 1)).any p = false := by
 rw [List.take_add_one, hx, List.any_append, h, Bool.false_or]
 simp [hp]
theorem any_at {α : Type} {p : α → Bool} {l : List α} {i : Nat} {x : α} (hx : l[i]? = some x) (hp : p x = true) : l.any p = true := List.any_eq_true.2 ⟨x, List.mem_of_getElem? hx, hp⟩
end Go.Proofs.YtkgllhkhdjodeaaDoor

namespace Go.Proofs.YtkgllhkhdjodeaaDoor
open Go Go.Eng Go.Proofs
structure V2 where
 i : Nat
 N : Nat
 hs : List Value
 aa : Option Addr
 ca : Nat

end Go.Proofs.YtkgllhkhdjodeaaDoor

namespace Go.Proofs.YtkgllhkhdjodeaaDoor
open Go Go.Eng Go.Proofs
def largeB (ls : List (List Int)) : Bool := decide (40 < ls.length) || ls.any (fun c => decide (80 < c.length))
theorem large_no {ls : List (List Int)} (h : largeB ls = false) : ls.length ≤ 40 ∧ ∀ c ∈ ls, c.length ≤ 80 := by
 simp only [largeB, Bool.or_eq_false_iff, decide_eq_false_iff_not, List.any_eq_false, decide_eq_true_eq] at h
 exact ⟨by omega, fun c hc => by have := h.2 c hc; omega⟩

theorem Large_c (ls : List (List Int)) (a : Option Addr) (cap : Nat) (us : List Value) (w : World) (hr : RdLL w ls a us) : Pure Tryd.prog 4 [.slice a ls.length cap] w (.bool (largeB ls)) := by
 refine enter Tryd.func4 rfl Tryd.ntmps4 rfl (St.init _) ?_
 refine jN 17 ?_
 refine WC.cond rfl (fun h6 => ?_) (fun h6 => ?_)
 ·have hres : largeB ls = true := by
   have h9 : decide (40 < ls.length) = true := by simp at h6 ⊢; omega
   unfold largeB; rw [h9]; rfl
  refine jN 8 ?_
  exact WQ.ret (rs := [.tmp 2]) rfl (.tmp rfl .nil) (fun w hS => ⟨by rw [hres]; rfl, hS⟩)
 ·have hs40 : decide (40 < ls.length) = false := by simp at h6 ⊢; omega
  have hl40 : ls.length ≤ 40 := by simpa using hs40
  refine jN 10 ?_
  refine WC.loop (α := Nat) (fun i => i ≤ ls.length ∧ (ls.take i).any (fun c => decide (80 < c.length)) = false) (fun i => [(0, .slice a ls.length cap), (3, .int .i64 (i : Int))]) (fun _ => []) (fun i => ls.length - i) (0) ?_ ?_ ?_ ?_
  ·exact ⟨Nat.zero_le _, rfl⟩
  ·exact ⟨rfl, rfl, trivial⟩
  ·rfl
  rintro i ⟨hi, hno⟩
  refine jN 13 ?_
  refine WC.cond rfl (fun h10 => ?_) (fun h10 => ?_)
  ·have hlt : i < ls.length := by simpa using h10
   obtain ⟨c, b, off, a1, cap1, hc, rfl, hcell, hrc⟩ := hr.at hlt
   refine jN 11 ?_
   refine WL.indexAddr F.sl22 rfl rfl rfl hlt ?_
   refine jN 1 ?_
   refine WL.load1 F.one32 rfl rfl (v := .slice a1 c.length cap1) (fun w hS => hS.oldc (by simpa using hcell) (by simp)) ?_
   refine jN 6 ?_
   refine WC.cond rfl (fun h18 => ?_) (fun h18 => ?_)
   ·have hres : largeB ls = true := by
     have h9 : ls.any (fun c => decide (80 < c.length)) = true := any_at hc (by simp at h18 ⊢; omega)
     unfold largeB; rw [h9, Bool.or_true]
    refine jN 12 ?_
    exact WQ.ret (rs := [.tmp 2]) rfl (.tmp rfl .nil) (fun w hS => ⟨by rw [hres]; rfl, hS⟩)
   ·refine jN 11 ?_
    refine WQ.back (i + 1) ?_ ?_ ?_ ?_
    ·exact ⟨by omega, any_take hc hno (by simp at h18 ⊢; omega)⟩
    ·omega
    ·exact ⟨rfl, rfl, trivial⟩
    ·rfl
  ·have hie : i = ls.length := by simp at h10; omega
   subst hie
   rw [List.take_length] at hno
   have hres : largeB ls = false := by unfold largeB; rw [hs40, hno]; rfl
   refine jN 12 ?_
   exact WQ.ret (rs := [.tmp 2]) rfl (.tmp rfl .nil) (fun w hS => ⟨by rw [hres]; rfl, hS⟩)

structure RW where
 i : Nat
 G : List Nat
 vs : List Value
 ss : List (List Int)
 aa : Option Addr
 ca : Nat
def Shaped (a : Option Addr) : Prop := a = none ∨ ∃ b off, a = some ⟨b, off, none⟩
abbrev RowsX := { x : (List Nat × List Value) × Option Addr × Nat // Shaped x.2.1 }
def rowsC (x : RowsX) (ls : List (List Int)) : List Chunk := [rowc (.slice x.1.2.1 ls.length x.1.2.2) ls.length 32 1 x.1.1.2, stepsC x.1.1.1 x.1.1.2 ls]

theorem Rows_c (ls : List (List Int)) (a : Option Addr) (cap : Nat) (us : List Value) (hll : ls.length ≤ 1000) (hlens : ∀ c ∈ ls, c.length ≤ 1000) (w : World) (hr : RdLL w ls a us) :
  Calls Tryd.prog 7 [.slice a ls.length cap].toArray w fun e w' => ∃ x : RowsX, e = .returned (.slice x.1.2.1 ls.length x.1.2.2) ∧ St w [] (rowsC x ls) w' := by
 refine enter Tryd.func7 rfl Tryd.ntmps7 rfl (St.init _) ?_
 refine jN 20 ?_
 refine WC.chunks (fun w hS => hS.stepsNil) ?_
 refine WC.chunks (fun w hS => (hS.rowNil 32 1)) ?_
 refine WC.loop (α := RW) (fun g => g.i ≤ ls.length ∧ g.ss = ls.take g.i ∧ Shaped g.aa) (fun g => [(0, .slice a ls.length cap), (3, .slice g.aa g.i g.ca), (4, .int .i64 (g.i : Int))]) (fun g => [rowc (.slice g.aa g.i g.ca) g.i 32 1 g.vs, stepsC g.G g.vs g.ss]) (fun g => ls.length - g.i) (⟨0, [], [], [], none, 0⟩) ?_ ?_ ?_ ?_
 ·exact ⟨Nat.zero_le _, rfl, .inl rfl⟩
 ·exact ⟨rfl, rfl, rfl, trivial⟩
 ·rfl
 rintro ⟨i, G, vs, ss, aa, ca⟩ ⟨hi, hss, hsh⟩
 dsimp only at hi hss hsh
 show WC _ _ _ _ _ _ _ [(0, .slice a ls.length cap), (3, .slice aa i ca), (4, .int .i64 (i : Int))] [rowc (.slice aa i ca) i 32 1 vs, stepsC G vs ss]
 refine jN 13 ?_
 refine WC.cond rfl (fun h8 => ?_) (fun h8 => ?_)
 ·have hlt : i < ls.length := by simpa using h8
  obtain ⟨c, b, off, a1, cap1, hc, rfl, hcell, hrc⟩ := hr.at hlt
  have hcl := hlens c (List.mem_of_getElem? hc)
  refine jN 12 ?_
  refine WL.indexAddr F.sl22 rfl rfl rfl hlt ?_
  refine jN 1 ?_
  refine WL.load1 F.one32 rfl rfl (v := .slice a1 c.length cap1) (fun w hS => hS.oldc (by simpa using hcell) (by simp)) ?_
  refine WA.chunks (fun w hS => (hS.rowNil 3 1)) ?_
  refine jN 1 ?_
  refine WL.appendC (n := 0) (v := .slice none 0 0) (xs := []) (news := c.map (Value.int .i64)) F.el32 rfl rfl rfl jR (fun w hS hm => (hrc.next hS).news hm) (by simp) (ints_one _) (Nat.le_trans (m := 1099511627776) (by omega) (by decide)) (by omega) (fun ad ac => ?_)
  rw [Nat.zero_add, List.nil_append]
  refine jN 1 ?_
  refine WL.buildSlice F.sl22 F.ez22 rfl rfl rfl rfl jB rfl (fun b17 => ?_)
  refine jN 1 ?_
  refine WL.appendE (news := [.slice ad c.length ac]) F.el22 rfl rfl rfl jR (fun w hS j u hu => by rw [Nat.zero_add]; exact hS.cell (cs := [.slice ad c.length ac]) jM hu) rfl jO (Nat.le_trans (m := 1099511627776) (by omega) (by decide)) (by omega) (fun a4 c4 => ?_)
  refine WA.know (φ := ∃ g, a4 = some ⟨g, 0, none⟩ ∧ i + 1 = i + 1 ∧ i + 1 ≤ c4) (fun w hS => rowc_addr (hS.ok (rowc (.slice a4 (i + 1) c4) (i + 1) 32 1 (vs ++ [.slice ad c.length ac])) jM) (by omega)) (fun ⟨g, hta, _, _⟩ => ?_)
  refine jN 13 ?_
  refine WQ.chunksE (C' := fun G2 : List Nat => [rowc (.slice a4 (i + 1) c4) (i + 1) 32 1 (vs ++ [.slice ad c.length ac]), stepsC G2 (vs ++ [.slice ad c.length ac]) (ss ++ [c])]) (fun w hS => ?_) (fun G2 => ?_)
  ·obtain ⟨G2, h9⟩ := St.stepsSnocR rfl ((St.pick (St.pick hS (c := rowc (.slice ad c.length ac) c.length 3 1 (c.map (Value.int .i64))) jR) (c := stepsC G vs ss) jR))
   exact ⟨G2, (jK h9)⟩
  refine WQ.back (⟨i + 1, G2, vs ++ [.slice ad c.length ac], ss ++ [c], a4, c4⟩) ?_ ?_ ?_ ?_
  ·exact ⟨by show i + 1 ≤ _; omega, by show ss ++ [c] = _; rw [hss, List.take_add_one, hc]; rfl, .inr ⟨g, 0, hta⟩⟩
  ·(show ls.length - (i + 1) < ls.length - i; omega)
  ·exact ⟨rfl, rfl, rfl, trivial⟩
  ·rfl
 ·have hie : i = ls.length := by simp at h8; omega
  subst hie
  rw [List.take_length] at hss
  subst hss
  refine jN 14 ?_
  exact WQ.ret (rs := [.tmp 2]) rfl (.tmp rfl .nil) (fun w hS => ⟨⟨((G, vs), aa, ca), hsh⟩, rfl, hS⟩)

end Go.Proofs.YtkgllhkhdjodeaaDoor

namespace Go.Proofs
open Go.Shelf
def Tryd.laysM171_ren : Go.Shelf.Ren := ⟨fun | 171 => 16 | 243 => 35 | 246 => 50 | 283 => 57 | 284 => 58 | 285 => 59 | 286 => 60 | 129 => 65 | 317 => 64 | 318 => 66 | 319 => 67 | 320 => 68 | 337 => 70 | 338 => 71 | n => n, fun | 3 => 3 | 9 => 9 | 2 => 2 | 4 => 4 | 171 => 94 | 0 => 0 | 53 => 95 | 37 => 46 | 5 => 5 | 173 => 98 | 212 => 105 | 51 => 40 | 20 => 20 | 213 => 106 | 46 => 107 | 232 => 112 | 233 => 113 | n => n, fun | 17 => 0 | 18 => 1 | 19 => 2 | n => n⟩
theorem Tryd.laysM171 : Go.Proofs.LaysM.n171 Tryd.prog Tryd.laysM171_ren := {
 mixed := by kernel_rfl
 f129 := Tryd.func65.trans (congrArg some (by kernel_rfl))
 f171 := Tryd.func16.trans (congrArg some (by kernel_rfl))
 f243 := Tryd.func35.trans (congrArg some (by kernel_rfl))
 f246 := Tryd.func50.trans (congrArg some (by kernel_rfl))
 f283 := Tryd.func57.trans (congrArg some (by kernel_rfl))
 f284 := Tryd.func58.trans (congrArg some (by kernel_rfl))
 f285 := Tryd.func59.trans (congrArg some (by kernel_rfl))
 f286 := Tryd.func60.trans (congrArg some (by kernel_rfl))
 f317 := Tryd.func64.trans (congrArg some (by kernel_rfl))
 f318 := Tryd.func66.trans (congrArg some (by kernel_rfl))
 f319 := Tryd.func67.trans (congrArg some (by kernel_rfl))
 f320 := Tryd.func68.trans (congrArg some (by kernel_rfl))
 f337 := Tryd.func70.trans (congrArg some (by kernel_rfl))
 f338 := Tryd.func71.trans (congrArg some (by kernel_rfl))
 t0 := Tryd.underlying0
 a0 := Tryd.isAgg0
 z0 := Tryd.sizeOf0
 v0 := Tryd.zeroValue0
 t2 := Tryd.underlying2
 a2 := Tryd.isAgg2
 z2 := Tryd.sizeOf2
 v2 := Tryd.zeroValue2
 t3 := Tryd.underlying3
 a3 := Tryd.isAgg3
 z3 := Tryd.sizeOf3
 v3 := Tryd.zeroValue3
 t4 := Tryd.underlying4
 a4 := Tryd.isAgg4
 z4 := Tryd.sizeOf4
 v4 := Tryd.zeroValue4
 t5 := Tryd.underlying5
 a5 := Tryd.isAgg5
 z5 := Tryd.sizeOf5
 v5 := Tryd.zeroValue5
 t9 := Tryd.underlying9
 a9 := Tryd.isAgg9
 z9 := Tryd.sizeOf9
 v9 := Tryd.zeroValue9
 t20 := Tryd.underlying20
 a20 := Tryd.isAgg20
 z20 := Tryd.sizeOf20
 v20 := Tryd.zeroValue20
 t37 := Tryd.underlying46
 a37 := Tryd.isAgg46
 z37 := Tryd.sizeOf46
 v37 := Tryd.zeroValue46
 t46 := Tryd.underlying107
 a46 := Tryd.isAgg107
 z46 := Tryd.sizeOf107
 v46 := Tryd.zeroValue107
 t51 := Tryd.underlying40
 a51 := Tryd.isAgg40
 z51 := Tryd.sizeOf40
 v51 := Tryd.zeroValue40
 t53 := Tryd.underlying95
 a53 := Tryd.isAgg95
 z53 := Tryd.sizeOf95
 v53 := Tryd.zeroValue95
 t171 := Tryd.underlying94
 a171 := Tryd.isAgg94
 z171 := Tryd.sizeOf94
 v171 := Tryd.zeroValue94
 t173 := Tryd.underlying98
 a173 := Tryd.isAgg98
 z173 := Tryd.sizeOf98
 v173 := Tryd.zeroValue98
 t212 := Tryd.underlying105
 a212 := Tryd.isAgg105
 z212 := Tryd.sizeOf105
 v212 := Tryd.zeroValue105
 t213 := Tryd.underlying106
 a213 := Tryd.isAgg106
 z213 := Tryd.sizeOf106
 t232 := Tryd.underlying112
 a232 := Tryd.isAgg112
 z232 := Tryd.sizeOf112
 v232 := Tryd.zeroValue112
 t233 := Tryd.underlying113
 a233 := Tryd.isAgg113
 z233 := Tryd.sizeOf113
 v233 := Tryd.zeroValue113
 g17 := by kernel_rfl
 g18 := by kernel_rfl
 g19 := by kernel_rfl
 i0 := by kernel_rfl
 i2 := by kernel_rfl
 i3 := by kernel_rfl
 i4 := by kernel_rfl
 i5 := by kernel_rfl
 i9 := by kernel_rfl
 i20 := by kernel_rfl
 i37 := by kernel_rfl
 i46 := by kernel_rfl
 i51 := by kernel_rfl
 i53 := by kernel_rfl
 i171 := by kernel_rfl
 i173 := by kernel_rfl
 i212 := by kernel_rfl
 i232 := by kernel_rfl
 i233 := by kernel_rfl
 m17 := by kernel_rfl
 m18 := by kernel_rfl
 m19 := by kernel_rfl }
theorem Tryd.strconv_Itoa (n : Int) (h0 : -9223372036854775808 ≤ n) (h1 : n ≤ 9223372036854775807) (w : World) (htab : Lib.TabIs Tryd.prog w "internal/strconv.uint64pow10" .u64 Lib.pow10Tab) :
  Calls Tryd.prog 16 #[.int .i64 n] w fun e w' => e = .returned (.string ⟨(Lib.itoa n).toArray⟩) ∧ ∃ k os, w' = Go.Sort.grow (w.drewN k) os := Any.strconv_Itoa Tryd.laysM171 n h0 h1 w htab
end Go.Proofs
namespace Go.Proofs.YtkgllhkhdjodeaaDoor
open Go Go.Eng Go.Proofs
/-- The library's table of the powers of ten lies as it was laid. -/
def Tab (w : World) : Prop := Lib.TabIs Tryd.prog w "internal/strconv.uint64pow10" .u64 Lib.pow10Tab
theorem Tab.next {w0 w : World} {C : List Chunk} (h : Tab w0) (hS : St w0 [] C w) : Tab w := by
 unfold Tab Lib.TabIs World.var? at h ⊢
 cases hg : Tryd.prog.globalNamed "internal/strconv.uint64pow10" with
 | none => rw [hg] at h; cases h
 | some g =>
  rw [hg] at h
  simp only [Option.bind_some] at h ⊢
  have hlt : g < w0.heap.size := by
   rcases Nat.lt_or_ge g w0.heap.size with hl | hl
   ·exact hl
   ·rw [Array.getElem?_eq_none hl] at h; cases h
  rw [hS.old g hlt (by simp)]
  exact h
theorem Itoa_c (n : Int) (h0 : -9223372036854775808 ≤ n) (h1 : n < 9223372036854775808) (w : World) (ht : Tab w) : Pure Tryd.prog 16 [.int .i64 n] w (.string (str (Lib.itoa n))) := by
 refine (Tryd.strconv_Itoa n h0 (by omega) w ht).mono ?_
 rintro e w' ⟨rfl, k, os, rfl⟩
 refine ⟨rfl, rfl, rfl, rfl, ?_, ?_, by simp, by simp, .nil⟩
 ·show w.heap.size ≤ (w.heap ++ os).size
  simp
 ·intro j hj _
  show (w.heap ++ os)[j]? = w.heap[j]?
  rw [Array.getElem?_append_left hj]
theorem itoa_len (n : Int) (h0 : -9223372036854775808 ≤ n) (h1 : n < 9223372036854775808) : (Lib.itoa n).length ≤ 21 := Lib.itoa_length_le n h0 (by omega)
theorem run_quo10 {m : Nat} (hm : m < 9223372036854775808) (t : TypeId) (x y : Operand) (w : World) :
  (do eqGuard .quo t x y (.int .i64 (m : Int)) (.int .i64 10); binOp .quo t (.int .i64 (m : Int)) (.int .i64 10) : Sem Value).run Tryd.prog w = .ok (.int .i64 ((m / 10 : Nat) : Int)) w := by
 have h1 : (m : Int).tdiv 10 = ((m / 10 : Nat) : Int) := by
  rw [Int.tdiv_eq_ediv_of_nonneg (Int.natCast_nonneg _)]; simp
 have h2 : IntKind.i64.wrap ((m : Int) / 10) = (m : Int) / 10 := by
  unfold IntKind.wrap
  simp [IntKind.signed, IntKind.bits]
  omega
 simp only [Int.natCast_ediv] at h1
 simp at h1
 simp [eqGuard, binOp, Op.intDiv, h1, h2]
theorem run_rem10 {m : Nat} (hm : m < 9223372036854775808) (t : TypeId) (x y : Operand) (w : World) :
  (do eqGuard .rem t x y (.int .i64 (m : Int)) (.int .i64 10); binOp .rem t (.int .i64 (m : Int)) (.int .i64 10) : Sem Value).run Tryd.prog w = .ok (.int .i64 ((m % 10 : Nat) : Int)) w := by
 have h1 : (m : Int).tmod 10 = ((m % 10 : Nat) : Int) := by
  rw [Int.tmod_eq_emod_of_nonneg (Int.natCast_nonneg _)]; simp
 have h2 : IntKind.i64.wrap ((m : Int) % 10) = (m : Int) % 10 := by
  unfold IntKind.wrap
  simp [IntKind.signed, IntKind.bits]
  omega
 simp only [Int.natCast_emod] at h1
 simp at h1
 simp [eqGuard, binOp, Op.intDiv, h1, h2]
theorem digit_at : ∀ i : Nat, i < 10 → (([48, 49, 50, 51, 52, 53, 54, 55, 56, 57] : List UInt8).drop i).take (i + 1 - i) = Lib.decDigits i := by
 intro i hi
 rw [Lib.decDigits_one hi]
 have : ∀ j : Fin 10, (([48, 49, 50, 51, 52, 53, 54, 55, 56, 57] : List UInt8).drop j.val).take (j.val + 1 - j.val) = [UInt8.ofNat (48 + j.val)] := by decide +kernel
 exact this ⟨i, hi⟩
theorem itoa_small {m : Nat} (h : m < 10) : Lib.itoa (m : Int) = (([48, 49, 50, 51, 52, 53, 54, 55, 56, 57] : List UInt8).drop m).take (m + 1 - m) := by
 rw [Lib.itoa_nonneg, digit_at m h]
theorem itoa_split {m : Nat} (h : ¬ m < 10) : Lib.itoa ((m / 10 : Nat) : Int) ++ Lib.itoa ((m % 10 : Nat) : Int) = Lib.itoa (m : Int) := by
 rw [Lib.itoa_nonneg, Lib.itoa_nonneg, Lib.itoa_nonneg]
 conv => rhs; rw [Lib.decDigits, dif_neg h]
 rw [Lib.decDigits_one (Nat.mod_lt _ (by decide))]
def DecC (N : Nat) : Prop := ∀ n : Int, 2 * n.natAbs + (if n < 0 then 1 else 0) < N → -9223372036854775808 < n → n < 9223372036854775808 → ∀ w, Pure Tryd.prog 19 [.int .i64 n] w (.string (str (Lib.itoa n)))

theorem Dec_step {N : Nat} (ih : DecC N) : DecC (N + 1) := by
 intro n hN hn0 hn1 w
 refine enter Tryd.func19 rfl Tryd.ntmps19 rfl (St.init _) ?_
 refine jN 15 ?_
 refine WC.cond rfl (fun h4 => ?_) (fun h4 => ?_)
 ·have hneg : n < 0 := by simpa using h4
  obtain ⟨m, rfl⟩ : ∃ m : Nat, n = -(m : Int) := ⟨n.natAbs, by omega⟩
  have hm1 : 1 ≤ m := by omega
  rw [if_pos hneg] at hN
  have hl := itoa_len (m : Int) (by omega) (by omega)
  refine jN 5 ?_
  refine WL.negI rfl rfl (by omega) ?_
  rw [show - -(m : Int) = (m : Int) by omega]
  refine jN 1 ?_
  refine WL.callV F.fun19 rfl rfl (fun w hS => ih ((m : Int)) (by rw [if_neg (by omega)]; omega) (by omega) (by omega) w) ?_
  refine jN 1 ?_
  refine WL.addS rfl rfl rfl (by first | omega | (simp only [List.length_append, List.length_cons, List.length_nil]; omega)) ?_
  refine jN 6 ?_
  exact WQ.ret (rs := [.tmp 2]) rfl (.tmp rfl .nil) (fun w hS => ⟨by rw [Lib.itoa_neg m hm1, ← Lib.itoa_nonneg]; rfl, hS⟩)
 ·obtain ⟨m, rfl⟩ : ∃ m : Nat, n = (m : Int) := ⟨n.toNat, by simp at h4; omega⟩
  rw [if_neg (by omega)] at hN
  refine jN 11 ?_
  refine WC.cond rfl (fun h10 => ?_) (fun h10 => ?_)
  ·have h10m : m < 10 := by simp at h10; omega
   refine jN 9 ?_
   refine WL.y (F := fun _ => True) (Yl.sliceFT (m := m) (n := m + 1) (l := [48, 49, 50, 51, 52, 53, 54, 55, 56, 57]) F.und9 rfl rfl rfl (by omega) (by simp; omega)) rfl (fun _ _ => trivial) ?_
   refine jN 6 ?_
   exact WQ.ret (rs := [.tmp 2]) rfl (.tmp rfl .nil) (fun w hS => ⟨by rw [itoa_small h10m]; rfl, hS⟩)
  ·have h10m : ¬ m < 10 := by simp at h10; omega
   have hl1 := itoa_len ((m / 10 : Nat) : Int) (by omega) (by omega)
   have hl2 := itoa_len ((m % 10 : Nat) : Int) (by omega) (by omega)
   refine jN 7 ?_
   refine WL.bin (v := .int .i64 ((m / 10 : Nat) : Int)) rfl rfl rfl (fun w => run_quo10 (by omega) _ _ _ w) ?_
   refine jN 1 ?_
   refine WL.callV F.fun19 rfl rfl (fun w hS => ih (((m / 10 : Nat) : Int)) (by rw [if_neg (by omega)]; omega) (by omega) (by omega) w) ?_
   refine jN 3 ?_
   refine WL.bin (v := .int .i64 ((m % 10 : Nat) : Int)) rfl rfl rfl (fun w => run_rem10 (by omega) _ _ _ w) ?_
   refine jN 1 ?_
   refine WL.callV F.fun19 rfl rfl (fun w hS => ih (((m % 10 : Nat) : Int)) (by rw [if_neg (by omega)]; omega) (by omega) (by omega) w) ?_
   refine jN 1 ?_
   refine WL.addS rfl rfl rfl (by first | omega | (simp only [List.length_append, List.length_cons, List.length_nil]; omega)) ?_
   refine jN 5 ?_
   exact WQ.ret (rs := [.tmp 2]) rfl (.tmp rfl .nil) (fun w hS => ⟨by rw [← itoa_split h10m]; rfl, hS⟩)

theorem Dec_all : ∀ N, DecC N
 | 0 => fun n h _ _ _ => by omega
 | N + 1 => Dec_step (Dec_all N)
theorem Decimal_c (n : Int) (h0 : -9223372036854775808 < n) (h1 : n < 9223372036854775808) (w : World) : Pure Tryd.prog 19 [.int .i64 n] w (.string (str (Lib.itoa n))) := Dec_all _ n (Nat.lt_succ_self _) h0 h1 w
/-- The text of clauses. -/
def litsS (c : List Int) : List UInt8 := c.flatMap fun x => Lib.itoa x ++ [32]
def rowS (c : List Int) : List UInt8 := litsS c ++ [48, 10]
def headS (n : Int) (k : Nat) : List UInt8 := [112, 32, 99, 110, 102, 32] ++ Lib.itoa n ++ [32] ++ Lib.itoa (k : Int) ++ [10]
def textS (n : Int) (ls : List (List Int)) : List UInt8 := headS n ls.length ++ ls.flatMap rowS
theorem litsS_len {c : List Int} (hc : ∀ x ∈ c, -1000 ≤ x ∧ x ≤ 1000) : (litsS c).length ≤ 22 * c.length := by
 unfold litsS
 induction c with
 | nil => simp
 | cons x c ih =>
  have h1 := itoa_len x (by have := hc x (by simp); omega) (by have := hc x (by simp); omega)
  have h2 := ih fun y hy => hc y (by simp [hy])
  simp only [List.flatMap_cons, List.length_append, List.length_cons, List.length_nil]
  omega
theorem rows_len {ls : List (List Int)} (hc : ∀ c ∈ ls, c.length ≤ 64 ∧ ∀ x ∈ c, -1000 ≤ x ∧ x ≤ 1000) : (ls.flatMap rowS).length ≤ 1410 * ls.length := by
 induction ls with
 | nil => simp
 | cons c ls ih =>
  obtain ⟨h0, h1⟩ := hc c (by simp)
  have h2 := litsS_len h1
  have h3 := ih fun d hd => hc d (by simp [hd])
  simp only [List.flatMap_cons, List.length_append, List.length_cons, rowS, List.length_nil] at h3 ⊢
  omega
theorem headS_len {n : Int} {k : Nat} (h0 : -1000 ≤ n ∧ n ≤ 1000) (hk : k ≤ 1000000) : (headS n k).length ≤ 50 := by
 have h1 := itoa_len n (by omega) (by omega)
 have h2 := itoa_len (k : Int) (by omega) (by omega)
 simp only [headS, List.length_append, List.length_cons, List.length_nil]
 omega
theorem litsS_take {c : List Int} {k : Nat} {x : Int} (h : c[k]? = some x) : litsS (c.take (k + 1)) = litsS (c.take k) ++ (Lib.itoa x ++ [32]) := by
 unfold litsS
 rw [List.take_add_one, h, List.flatMap_append]
 simp
theorem rowsS_take {ls : List (List Int)} {k : Nat} {c : List Int} (h : ls[k]? = some c) : (ls.take (k + 1)).flatMap rowS = (ls.take k).flatMap rowS ++ rowS c := by
 rw [List.take_add_one, h, List.flatMap_append]
 simp
end Go.Proofs.YtkgllhkhdjodeaaDoor

namespace Go.Proofs.YtkgllhkhdjodeaaDoor
open Go Go.Eng Go.Proofs
def accT (n : Int) (ls : List (List Int)) (i : Nat) : List UInt8 := headS n ls.length ++ (ls.take i).flatMap rowS
theorem accT_zero (n : Int) (ls : List (List Int)) : accT n ls 0 = headS n ls.length := by simp [accT]
theorem accT_succ {n : Int} {ls : List (List Int)} {i : Nat} {c : List Int} (h : ls[i]? = some c) : accT n ls (i + 1) = accT n ls i ++ litsS c ++ [48, 10] := by
 unfold accT
 rw [rowsS_take h, rowS]
 simp only [List.append_assoc]
theorem accT_all (n : Int) (ls : List (List Int)) : accT n ls ls.length = textS n ls := by simp [accT, textS]
structure ClsOk (n : Int) (ls : List (List Int)) : Prop where
 n : -1000 ≤ n ∧ n ≤ 1000
 len : ls.length ≤ 4096
 lit : ∀ c ∈ ls, c.length ≤ 64 ∧ ∀ x ∈ c, -1000 ≤ x ∧ x ≤ 1000
theorem ClsOk.acc {n : Int} {ls : List (List Int)} (h : ClsOk n ls) (i : Nat) : (accT n ls i).length ≤ 6000000 := by
 have h1 := headS_len (k := ls.length) h.n (by have := h.len; omega)
 have h2 := rows_len (ls := ls.take i) fun c hc => h.lit c (List.mem_of_mem_take hc)
 have h3 := h.len
 have h4 : (ls.take i).length ≤ 4096 := by rw [List.length_take]; omega
 unfold accT
 rw [List.length_append]
 omega
theorem ClsOk.lits {n : Int} {ls : List (List Int)} (h : ClsOk n ls) {c : List Int} (hc : c ∈ ls) (k : Nat) : (litsS (c.take k)).length ≤ 10000 := by
 have h2 := litsS_len (c := c.take k) fun x hx => (h.lit c hc).2 x (List.mem_of_mem_take hx)
 have h4 : (c.take k).length ≤ 64 := by rw [List.length_take]; have := (h.lit c hc).1; omega
 omega

theorem rWrite_c (n : Int) (ls : List (List Int)) (a : Option Addr) (cap : Nat) (us : List Value) (hok : ClsOk n ls) (w : World) (hr : RdLL w ls a us) :
  Pure Tryd.prog 9 [.int .i64 n, .slice a ls.length cap] w (.string (str (textS n ls))) := by
 refine enter Tryd.func9 rfl Tryd.ntmps9 rfl (St.init _) ?_
 refine jN 8 ?_
 have hok2 := hok
 have hl0 := itoa_len n (by have := hok.n; omega) (by have := hok.n; omega)
 have hl1 := itoa_len (ls.length : Int) (by have := hok.len; omega) (by have := hok.len; omega)
 refine jN 3 ?_
 refine WL.callV F.fun19 rfl rfl (fun w hS => Decimal_c (n) (by have := hok.n; omega) (by have := hok.n; omega) w) ?_
 refine jN 1 ?_
 refine WL.addS rfl rfl rfl (by first | omega | (simp only [List.length_append, List.length_cons, List.length_nil]; omega)) ?_
 refine jN 1 ?_
 refine WL.addS rfl rfl rfl (by first | omega | (simp only [List.length_append, List.length_cons, List.length_nil]; omega)) ?_
 refine jN 5 ?_
 refine WL.callV F.fun19 rfl rfl (fun w hS => Decimal_c ((ls.length : Int)) (by have := hok.len; omega) (by have := hok.len; omega) w) ?_
 refine jN 1 ?_
 refine WL.addS rfl rfl rfl (by first | omega | (simp only [List.length_append, List.length_cons, List.length_nil]; omega)) ?_
 refine jN 1 ?_
 refine WL.addS rfl rfl rfl (by first | omega | (simp only [List.length_append, List.length_cons, List.length_nil]; omega)) ?_
 refine jN 12 ?_
 refine WC.loop (α := Nat) (fun i => i ≤ ls.length) (fun i => [(0, .int .i64 n), (1, .slice a ls.length cap), (5, .string (str (accT n ls i))), (6, .int .i64 (i : Int))]) (fun _ => []) (fun i => ls.length - i) (0) ?_ ?_ ?_ ?_
 ·exact Nat.zero_le _
 ·rw [accT_zero]; exact ⟨rfl, rfl, rfl, rfl, trivial⟩
 ·rfl
 rintro i hi
 refine jN 13 ?_
 refine WC.cond rfl (fun h20 => ?_) (fun h20 => ?_)
 ·have hlt : i < ls.length := by simpa using h20
  have hacc := hok.acc i
  obtain ⟨c, b, off, a1, cap1, hc, rfl, hcell, hrc⟩ := hr.at hlt
  have hcm := List.mem_of_getElem? hc
  have hcl := (hok.lit c hcm).1
  have hlen := hok.len
  have hll := hok.lits hcm c.length
  rw [List.take_length] at hll
  refine jN 12 ?_
  refine WC.loop (α := Nat) (fun k => k ≤ c.length) (fun k => [(0, .int .i64 n), (1, .slice (some ⟨b, off, none⟩) ls.length cap), (5, .string (str (accT n ls i ++ litsS (c.take k)))), (6, .int .i64 (i : Int)), (7, .int .i64 (k : Int))]) (fun _ => []) (fun k => c.length - k) (0) ?_ ?_ ?_ ?_
  ·exact Nat.zero_le _
  ·rw [List.take_zero, show litsS [] = [] from rfl, List.append_nil]; exact ⟨rfl, rfl, rfl, rfl, rfl, trivial⟩
  ·rfl
  rintro k hk
  refine jN 10 ?_
  refine WL.indexAddr F.sl22 rfl rfl rfl hlt ?_
  refine jN 1 ?_
  refine WL.load1 F.one32 rfl rfl (v := .slice a1 c.length cap1) (fun w hS => hS.oldc (by simpa using hcell) (by simp)) ?_
  refine jN 6 ?_
  refine WC.cond rfl (fun h29 => ?_) (fun h29 => ?_)
  ·have hklt : k < c.length := by simpa using h29
   obtain ⟨x, hx⟩ : ∃ z, c[k]? = some z := ⟨_, List.getElem?_eq_getElem hklt⟩
   have hxb := (hok.lit c hcm).2 x (List.mem_of_getElem? hx)
   have hlk := hok.lits hcm k
   have hlx := itoa_len x (by omega) (by omega)
   obtain ⟨b2, off2, ha1, hcell2⟩ := hrc k x hx
   subst ha1
   refine jN 12 ?_
   refine WL.indexAddr F.sl22 rfl rfl rfl hlt ?_
   refine jN 1 ?_
   refine WL.load1 F.one32 rfl rfl (v := .slice (some ⟨b2, off2, none⟩) c.length cap1) (fun w hS => hS.oldc (by simpa using hcell) (by simp)) ?_
   refine jN 3 ?_
   refine WL.indexAddr F.sl32 rfl rfl rfl hklt ?_
   refine jN 1 ?_
   refine WL.load1 F.one3 rfl rfl (v := .int .i64 x) (fun w hS => hS.oldc (by simpa using hcell2) (by simp)) ?_
   refine jN 1 ?_
   refine WL.callV F.fun19 rfl rfl (fun w hS => Decimal_c (x) (by omega) (by omega) w) ?_
   refine jN 1 ?_
   refine WL.addS rfl rfl rfl (by first | omega | (simp only [List.length_append, List.length_cons, List.length_nil]; omega)) ?_
   refine jN 1 ?_
   refine WL.addS rfl rfl rfl (by first | omega | (simp only [List.length_append, List.length_cons, List.length_nil]; omega)) ?_
   refine jN 13 ?_
   refine WQ.back (k + 1) ?_ ?_ ?_ ?_
   ·show k + 1 ≤ _; omega
   ·omega
   ·rw [litsS_take hx, ← List.append_assoc, ← List.append_assoc]; exact ⟨rfl, rfl, rfl, rfl, rfl, trivial⟩
   ·rfl
  ·have hke : k = c.length := by simp at h29; omega
   subst hke
   rw [List.take_length]
   refine jN 9 ?_
   refine WL.addS rfl rfl rfl (by first | omega | (simp only [List.length_append, List.length_cons, List.length_nil]; omega)) ?_
   refine jN 13 ?_
   refine WQ.chunks (C' := []) (fun w hS => hS.sublist (List.nil_sublist _)) ?_
   refine WQ.back (i + 1) ?_ ?_ ?_ ?_
   ·show i + 1 ≤ _; omega
   ·omega
   ·rw [accT_succ hc]; exact ⟨rfl, rfl, rfl, rfl, trivial⟩
   ·rfl
 ·have hie : i = ls.length := by simp at h20; omega
  subst hie
  refine jN 14 ?_
  exact WQ.ret (rs := [.tmp 4]) rfl (.tmp rfl .nil) (fun w hS => ⟨by rw [accT_all]; rfl, hS⟩)

structure WrG where
 i : Nat
 ba : Option Addr
 bc : Nat

theorem Write_c (n : Int) (ls : List (List Int)) (a : Option Addr) (cap : Nat) (us : List Value) (w : World) (ht : Tab w) (hr : RdLL w ls a us) :
  Pure Tryd.prog 6 [.int .i64 n, .slice a ls.length cap] w (.tuple #[.string (str (if Fm.mayE n ls = 0 then textS n ls else [])), .int .i64 (Fm.mayE n ls)]) := by
 refine enter Tryd.func6 rfl Tryd.ntmps6 rfl (St.init _) ?_
 refine jN 16 ?_
 refine WL.callV F.fun14 rfl rfl (fun w hS => may_c n ls a cap us w (hr.next hS)) ?_
 refine jN 12 ?_
 refine WC.cond rfl (fun h16 => ?_) (fun h16 => ?_)
 ·have hme : Fm.mayE n ls ≠ 0 := by simpa using h16
  refine jN 12 ?_
  exact WQ.ret (rs := [.tmp 4, .tmp 5]) rfl (.tmp rfl (.tmp rfl .nil)) (fun w hS => ⟨by rw [if_neg hme]; rfl, hS.sublist (List.nil_sublist _)⟩)
 ·have hme : Fm.mayE n ls = 0 := by simpa using h16
  obtain ⟨hm0, hcount, hall⟩ := may_zero hme
  have hok : ClsOk n ls := by
   obtain ⟨m, rfl⟩ : ∃ m : Nat, n = (m : Int) := ⟨n.toNat, by omega⟩
   have hm : m ≤ 24 := by omega
   exact ⟨by omega, hcount, fun c hc => ⟨(may_lit hm hall).2 c hc, fun x hx => by have := (may_lit hm hall).1 c hc x hx; exact ⟨by omega, by omega⟩⟩⟩
  have hl0 := itoa_len n (by omega) (by omega)
  have hl1 := itoa_len (ls.length : Int) (by omega) (by omega)
  have hhd := headS_len (n := n) (k := ls.length) hok.n (by omega)
  refine jN 5 ?_
  refine WL.alloc F.zero48 rfl (fun b7 => ?_)
  refine jN 7 ?_
  refine WL.callV F.fun16 rfl rfl (fun w hS => Itoa_c (n) (by omega) (by omega) w (ht.next hS)) ?_
  refine jN 1 ?_
  refine WL.addS rfl rfl rfl (by first | omega | (simp only [List.length_append, List.length_cons, List.length_nil]; omega)) ?_
  refine jN 1 ?_
  refine WL.addS rfl rfl rfl (by first | omega | (simp only [List.length_append, List.length_cons, List.length_nil]; omega)) ?_
  refine jN 5 ?_
  refine WL.callV F.fun16 rfl rfl (fun w hS => Itoa_c ((ls.length : Int)) (by omega) (by omega) w (ht.next hS)) ?_
  refine jN 1 ?_
  refine WL.addS rfl rfl rfl (by first | omega | (simp only [List.length_append, List.length_cons, List.length_nil]; omega)) ?_
  refine jN 1 ?_
  refine WL.addS rfl rfl rfl (by first | omega | (simp only [List.length_append, List.length_cons, List.length_nil]; omega)) ?_
  refine WA.chunks (fun w hS => hS.rowNil 5 1) ?_
  refine jN 1 ?_
  refine WL.callB (β := Option Addr × Nat) (res := fun _ => .tuple #[.int .i64 (List.length (headS n ls.length) : Nat), .nilIface]) (c1 := fun x => pt b7 [pp b7, .slice x.1 (headS n ls.length).length x.2] 48) (c2 := fun x => rowc (.slice x.1 (headS n ls.length).length x.2) (headS n ls.length).length 5 1 (bcells (headS n ls.length))) (q := .pointer none) (v := .slice none 0 0) (l := []) (b := b7) F.fun15 rfl rfl jR jR (fun w hS hS2 => WriteString_e b7 _ _ ([]) (headS n ls.length) (headS n ls.length) _ (rfl) (.inl rfl) (by simp only [List.length_nil]; omega) rfl w hS2) (fun x27 => ?_)
  refine jN 14 ?_
  refine WC.loop (α := WrG) (fun g => g.i ≤ ls.length) (fun g => [(0, .int .i64 n), (1, .slice a ls.length cap), (7, pp b7), (28, .slice a ls.length cap), (29, .int .i64 (ls.length : Int)), (30, .int .i64 (g.i : Int))]) (fun g => [pt b7 [pp b7, .slice g.ba (accT n ls g.i).length g.bc] 48, rowc (.slice g.ba (accT n ls g.i).length g.bc) (accT n ls g.i).length 5 1 (bcells (accT n ls g.i))]) (fun g => ls.length - g.i) (⟨0, x27.1, x27.2⟩) ?_ ?_ ?_ ?_
  ·exact Nat.zero_le _
  ·exact ⟨rfl, rfl, rfl, rfl, rfl, rfl, trivial⟩
  ·simp only [accT_zero]
  rintro ⟨i, ba, bc⟩ hi
  dsimp only at hi
  show WC _ _ _ _ _ _ _ [(0, .int .i64 n), (1, .slice a ls.length cap), (7, pp b7), (28, .slice a ls.length cap), (29, .int .i64 (ls.length : Int)), (30, .int .i64 (i : Int))] [pt b7 [pp b7, .slice ba (accT n ls i).length bc] 48, rowc (.slice ba (accT n ls i).length bc) (accT n ls i).length 5 1 (bcells (accT n ls i))]
  refine jN 7 ?_
  refine WC.cond rfl (fun h31 => ?_) (fun h31 => ?_)
  ·have hlt : i < ls.length := by simpa using h31
   have hacc := hok.acc i
   obtain ⟨c, b, off, a1, cap1, hc, rfl, hcell, hrc⟩ := hr.at hlt
   have hcm := List.mem_of_getElem? hc
   have hcl := (hok.lit c hcm).1
   have hlen := hok.len
   have hll := hok.lits hcm c.length
   rw [List.take_length] at hll
   refine jN 7 ?_
   refine WL.indexAddr F.sl22 rfl rfl rfl hlt ?_
   refine jN 1 ?_
   refine WL.load1 F.one32 rfl rfl (v := .slice a1 c.length cap1) (fun w hS => hS.oldc (by simpa using hcell) (by simp)) ?_
   refine jN 16 ?_
   refine WC.loop (α := WrG) (fun g => g.i ≤ c.length) (fun g => [(0, .int .i64 n), (1, .slice (some ⟨b, off, none⟩) ls.length cap), (7, pp b7), (28, .slice (some ⟨b, off, none⟩) ls.length cap), (29, .int .i64 (ls.length : Int)), (30, .int .i64 (i : Int)), (9, .slice a1 c.length cap1), (34, .slice a1 c.length cap1), (35, .int .i64 (c.length : Int)), (36, .int .i64 (g.i : Int))]) (fun g => [pt b7 [pp b7, .slice g.ba (accT n ls i ++ litsS (c.take g.i)).length g.bc] 48, rowc (.slice g.ba (accT n ls i ++ litsS (c.take g.i)).length g.bc) (accT n ls i ++ litsS (c.take g.i)).length 5 1 (bcells (accT n ls i ++ litsS (c.take g.i)))]) (fun g => c.length - g.i) (⟨0, ba, bc⟩) ?_ ?_ ?_ ?_
   ·exact Nat.zero_le _
   ·exact ⟨rfl, rfl, rfl, rfl, rfl, rfl, rfl, rfl, rfl, rfl, trivial⟩
   ·simp only [List.take_zero, show litsS [] = [] from rfl, List.append_nil]
   rintro ⟨k, ba2, bc2⟩ hk
   dsimp only at hk
   show WC _ _ _ _ _ _ _ [(0, .int .i64 n), (1, .slice (some ⟨b, off, none⟩) ls.length cap), (7, pp b7), (28, .slice (some ⟨b, off, none⟩) ls.length cap), (29, .int .i64 (ls.length : Int)), (30, .int .i64 (i : Int)), (9, .slice a1 c.length cap1), (34, .slice a1 c.length cap1), (35, .int .i64 (c.length : Int)), (36, .int .i64 (k : Int))] [pt b7 [pp b7, .slice ba2 (accT n ls i ++ litsS (c.take k)).length bc2] 48, rowc (.slice ba2 (accT n ls i ++ litsS (c.take k)).length bc2) (accT n ls i ++ litsS (c.take k)).length 5 1 (bcells (accT n ls i ++ litsS (c.take k)))]
   refine jN 7 ?_
   refine WC.cond rfl (fun h37 => ?_) (fun h37 => ?_)
   ·have hklt : k < c.length := by simpa using h37
    obtain ⟨x, hx⟩ : ∃ z, c[k]? = some z := ⟨_, List.getElem?_eq_getElem hklt⟩
    have hxb := (hok.lit c hcm).2 x (List.mem_of_getElem? hx)
    have hlk := hok.lits hcm k
    have hlx := itoa_len x (by omega) (by omega)
    obtain ⟨b2, off2, ha1, hcell2⟩ := hrc k x hx
    subst ha1
    refine jN 7 ?_
    refine WL.indexAddr F.sl32 rfl rfl rfl hklt ?_
    refine jN 1 ?_
    refine WL.load1 F.one3 rfl rfl (v := .int .i64 x) (fun w hS => hS.oldc (by simpa using hcell2) (by simp)) ?_
    refine jN 8 ?_
    refine WL.callV F.fun16 rfl rfl (fun w hS => Itoa_c (x) (by omega) (by omega) w (ht.next hS)) ?_
    refine jN 1 ?_
    refine WL.addS rfl rfl rfl (by first | omega | (simp only [List.length_append, List.length_cons, List.length_nil]; omega)) ?_
    refine jN 1 ?_
    refine WL.callB (β := Option Addr × Nat) (res := fun _ => .tuple #[.int .i64 (List.length (Lib.itoa x ++ [32]) : Nat), .nilIface]) (c1 := fun x => pt b7 [pp b7, .slice x.1 (accT n ls i ++ litsS (c.take (k + 1))).length x.2] 48) (c2 := fun x => rowc (.slice x.1 (accT n ls i ++ litsS (c.take (k + 1))).length x.2) (accT n ls i ++ litsS (c.take (k + 1))).length 5 1 (bcells (accT n ls i ++ litsS (c.take (k + 1))))) (q := pp b7) (v := .slice ba2 (accT n ls i ++ litsS (c.take k)).length bc2) (l := accT n ls i ++ litsS (c.take k)) (b := b7) F.fun15 rfl rfl jR jR (fun w hS hS2 => WriteString_e b7 _ _ (accT n ls i ++ litsS (c.take k)) (Lib.itoa x ++ [32]) (accT n ls i ++ litsS (c.take (k + 1))) _ (by rw [litsS_take hx]; simp only [List.append_assoc]) (.inr rfl) (by simp only [List.length_append, List.length_cons, List.length_nil]; omega) rfl w hS2) (fun x43 => ?_)
    refine jN 9 ?_
    refine WQ.back ⟨k + 1, x43.1, x43.2⟩ ?_ ?_ ?_ ?_
    ·show k + 1 ≤ _; omega
    ·show c.length - (k + 1) < c.length - k; omega
    ·exact ⟨rfl, rfl, rfl, rfl, rfl, rfl, rfl, rfl, rfl, rfl, trivial⟩
    ·rfl
   ·have hke : k = c.length := by simp at h37; omega
    subst hke
    rw [List.take_length]
    refine jN 7 ?_
    refine WL.callB (β := Option Addr × Nat) (res := fun _ => .tuple #[.int .i64 (List.length ([48, 10]) : Nat), .nilIface]) (c1 := fun x => pt b7 [pp b7, .slice x.1 (accT n ls (i + 1)).length x.2] 48) (c2 := fun x => rowc (.slice x.1 (accT n ls (i + 1)).length x.2) (accT n ls (i + 1)).length 5 1 (bcells (accT n ls (i + 1)))) (q := pp b7) (v := .slice ba2 (accT n ls i ++ litsS c).length bc2) (l := accT n ls i ++ litsS c) (b := b7) F.fun15 rfl rfl jR jR (fun w hS hS2 => WriteString_e b7 _ _ (accT n ls i ++ litsS c) ([48, 10]) (accT n ls (i + 1)) _ (accT_succ hc) (.inr rfl) (by simp only [List.length_append, List.length_cons, List.length_nil]; omega) rfl w hS2) (fun x45 => ?_)
    refine jN 9 ?_
    refine WQ.back ⟨i + 1, x45.1, x45.2⟩ ?_ ?_ ?_ ?_
    ·show i + 1 ≤ _; omega
    ·show ls.length - (i + 1) < ls.length - i; omega
    ·exact ⟨rfl, rfl, rfl, rfl, rfl, rfl, trivial⟩
    ·rfl
  ·have hie : i = ls.length := by simp at h31; omega
   subst hie
   have hacc := hok.acc ls.length
   have hne : accT n ls ls.length ≠ [] := by simp [accT, headS]
   refine jN 8 ?_
   refine WL.callC (β := Unit) (res := fun _ => .string (str (accT n ls ls.length))) (cs := fun _ => [pt b7 [pp b7, .slice ba (accT n ls ls.length).length bc] 48]) (Cs := [pt b7 [pp b7, .slice ba (accT n ls ls.length).length bc] 48, rowc (.slice ba (accT n ls ls.length).length bc) (accT n ls ls.length).length 5 1 (bcells (accT n ls ls.length))]) (O' := b7 :: ob (.slice ba (accT n ls ls.length).length bc)) F.fun17 (fun d h => by cases h; rfl) rfl (List.Perm.refl _) bld_fp1 bld_fp2 (fun w hS hS2 => (String_c b7 _ _ _ (accT n ls ls.length) hne (by omega) w hS2).mono (fun e w2 h => ⟨(), h⟩)) (fun _ => ?_)
   refine jN 7 ?_
   exact WQ.ret (rs := [.tmp 4, .tmp 5]) rfl (.tmp rfl (.tmp rfl .nil)) (fun w hS => ⟨by rw [if_pos hme, hme, accT_all]; rfl, hS.sublist (List.nil_sublist _)⟩)

end Go.Proofs.YtkgllhkhdjodeaaDoor

namespace Go.Proofs.YtkgllhkhdjodeaaDoor
open Go Go.Eng Go.Proofs
set_option maxRecDepth 100000 in
theorem FormulaWrites_c (n : Int) (ls : List (List Int)) (a : Option Addr) (cap : Nat) (us : List Value) (w : World) (ht : Tab w) (_hn : -9223372036854775808 ≤ n ∧ n < 9223372036854775808) (hr : RdLL w ls a us) :
  Pure Tryd.prog 3 [.int .i64 n, .slice a ls.length cap] w (.bool true) := by
 refine enter Tryd.func3 rfl Tryd.ntmps3 rfl (St.init _) ?_
 refine jN 12 ?_
 refine WL.callV F.fun4 rfl rfl (fun w hS => Large_c ls a cap us w (hr.next hS)) ?_
 refine jN 2 ?_
 refine WC.cond rfl (fun h9 => ?_) (fun h9 => ?_)
 ·refine jN 3 ?_
  refine WL.callV F.fun5 rfl rfl (fun w _ => wakes_c w) ?_
  refine jN 6 ?_
  exact WQ.ret (rs := [.tmp 4]) rfl (.tmp rfl .nil) (fun w hS => ⟨by first | rfl | simp [tup], hS.sublist (List.nil_sublist _)⟩)
 ·obtain ⟨hl40, hc80⟩ := large_no h9
  have hk1 : ∀ c ∈ ls, c.length ≤ 1000 := fun c hc => by have := hc80 c hc; omega
  refine jN 9 ?_
  refine jC (β := RowsX) (res := fun x => .slice x.1.2.1 ls.length x.1.2.2) (cs := fun x => [rowc (.slice x.1.2.1 ls.length x.1.2.2) ls.length 32 1 x.1.1.2, stepsC x.1.1.1 x.1.1.2 ls]) F.fun7 rfl (fun w hS _ => Rows_c ls a cap us (by omega) hk1 w (hr.next hS)) (fun x14 => ?_)
  refine jN 1 ?_
  refine WL.callV F.fun6 rfl rfl (fun w hS => Write_c n ls x14.1.2.1 x14.1.2.2 x14.1.1.2 w (ht.next hS) (RdLL.made rfl (hS.ok (rowc (.slice x14.1.2.1 ls.length x14.1.2.2) ls.length 32 1 x14.1.1.2) jM) (hS.ok (stepsC x14.1.1.1 x14.1.1.2 ls) jM))) ?_
  refine jN 19 ?_
  refine WL.callV F.fun8 rfl rfl (fun w hS => rclauses_c n ls a cap us (by omega) (fun c hc => by have := hk1 c hc; omega) w (hr.next hS)) ?_
  refine jN 13 ?_
  refine WC.cond rfl (fun h22 => ?_) (fun h22 => ?_)
  ·have hme : Fm.mayE n ls ≠ 0 := by simpa using h22
   refine jN 10 ?_
   refine WA.splitB (i := 26) rfl (fun g26 => ?_) (fun g26 => ?_)
   ·refine jN 10 ?_
    refine WA.splitB (i := 30) rfl (fun g30 => ?_) (fun g30 => ?_)
    ·refine jN 2 ?_
     refine WL.callV F.fun5 rfl rfl (fun w _ => wakes_c w) ?_
     refine jN 8 ?_
     exact WQ.ret (rs := [.tmp 4]) rfl (.tmp rfl .nil) (fun w hS => ⟨by first | rfl | simp [tup], hS.sublist (List.nil_sublist _)⟩)
    ·exfalso; rw [if_neg hme] at g30; simp at g30
   ·exfalso; simp at g26
  ·have hme : Fm.mayE n ls = 0 := by simpa using h22
   obtain ⟨hm0, hcount, hall⟩ := may_zero hme
   have hok : ClsOk n ls := by
    obtain ⟨m, rfl⟩ : ∃ m : Nat, n = (m : Int) := ⟨n.toNat, by omega⟩
    have hm : m ≤ 24 := by omega
    exact ⟨by omega, hcount, fun c hc => ⟨(may_lit hm hall).2 c hc, fun x hx => by have := (may_lit hm hall).1 c hc x hx; exact ⟨by omega, by omega⟩⟩⟩
   refine jN 10 ?_
   refine WA.splitB (i := 35) rfl (fun g35 => ?_) (fun g35 => ?_)
   ·refine jN 11 ?_
    refine WL.callV F.fun9 rfl rfl (fun w hS => rWrite_c n ls a cap us hok w (hr.next hS)) ?_
    refine jN 7 ?_
    refine WA.splitB (i := 42) rfl (fun g42 => ?_) (fun g42 => ?_)
    ·refine jN 2 ?_
     refine WL.callV F.fun5 rfl rfl (fun w _ => wakes_c w) ?_
     refine jN 7 ?_
     exact WQ.ret (rs := [.tmp 4]) rfl (.tmp rfl .nil) (fun w hS => ⟨by first | rfl | simp [tup], hS.sublist (List.nil_sublist _)⟩)
    ·exfalso; rw [if_pos hme] at g42; simp at g42
   ·exfalso; simp [hme] at g35

end Go.Proofs.YtkgllhkhdjodeaaDoor
