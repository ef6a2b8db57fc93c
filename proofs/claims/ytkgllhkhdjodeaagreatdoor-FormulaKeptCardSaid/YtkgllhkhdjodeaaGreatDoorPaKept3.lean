import Derived.Test.YtkgllhkhdjodeaaGreatDoorPaKept2
import Derived.Shelf.LaysM
import Derived.Shelf.Strconv.Itoa3
import Derived.Lib.ItoaLen
import Derived.Test.YtkgllhkhdjodeaaGreatDoorProg
import Derived.Lib.Split
import Derived.Lib.AtoiAll
import Derived.Lib.ItoaNum
import Derived.Lib.ItoaMem
import Derived.Lib.Strings
import Derived.Shelf.Strings.Split
import Derived.Shelf.Strings.Prefix
import Derived.Shelf.Strconv.AtoiAll
import Derived.Lib.AtoiErrMem
import Derived.MapKept
import Derived.WideMake
import Derived.ChangeKeysEq
import Derived.WideKeyRuns
set_option linter.unusedSimpArgs false
set_option linter.unusedVariables false
namespace Go.Proofs.YtkgllhkhdjodeaaGreatDoor
open Go Go.Eng Go.Proofs
theorem Clone_c (ls : List (List Int)) (a : Option Addr) (cap : Nat) (us : List Value) (hlen : ls.length ≤ 1099511627776) (ha : a = none ∨ ∃ b off, a = some ⟨b, off, none⟩) (w : World) (hr : RdLL w ls a us) :
  Calls Tryz.prog 38 [.slice a ls.length cap].toArray w fun e w' => ∃ x : Option Addr × Nat, e = .returned (.slice x.1 ls.length x.2) ∧ St w [] [rowc (.slice x.1 ls.length x.2) ls.length 46 1 us] w' := by
 refine enter Tryz.func38 rfl Tryz.ntmps38 rfl (St.init _) ?_
 refine jN 8 ?_
 rcases ha with rfl | ⟨b, off, rfl⟩
 ·have hus : us = [] := by
   cases us with
   | nil => rfl
   | cons u r =>
    obtain ⟨b, off, h1, _⟩ := hr.hd 0 u rfl
    cases h1
  have hl0 : ls = [] := by (have := hr.len; rw [hus] at this; exact List.eq_nil_of_length_eq_zero this.symm)
  subst hus; subst hl0
  refine jN 4 ?_
  refine WL.bin rfl rfl rfl (v := .bool true) (fun w => by kernel_rfl) ?_
  refine jN 11 ?_
  exact WQ.ret (rs := [.tmp 2]) rfl (.tmp rfl .nil) (fun w hS => ⟨(none, 0), rfl, hS.rowNil 46 1⟩)
 ·refine jN 4 ?_
  refine WL.bin rfl rfl rfl (v := .bool false) (fun w => by kernel_rfl) ?_
  refine jN 8 ?_
  refine WL.buildSlice0 F.sl23 rfl (fun b5 => ?_)
  refine WA.chunks (fun w hS => hS.rowOf (n := 0) (sz := 1) rfl (by decide)) ?_
  refine jN 3 ?_
  refine WL.appendE (news := us) F.el23 rfl rfl rfl jR (fun w hS i u hu => ?_) (by rw [hr.len, Nat.mul_one]) (fun u hu => ?_) (Nat.le_trans (m := 1099511627776) (by omega) (by decide)) (by omega) (fun a2 cap2 => ?_)
  ·obtain ⟨b2, off2, h1, h2⟩ := hr.hd i u hu
   injection h1 with h1
   injection h1 with h1 h3
   subst h1; subst h3
   exact hS.oldc h2 (by simp)
  ·obtain ⟨i, hi, he⟩ := List.getElem_of_mem hu
   have h1 : us[i]? = some u := by rw [List.getElem?_eq_getElem hi, he]
   have h2 : ls[i]? = some (ls[i]'(by rw [← hr.len]; exact hi)) := List.getElem?_eq_getElem _
   obtain ⟨a1, c1, h3, _⟩ := hr.rd i _ u h2 h1
   subst h3
   rfl
  refine jN 5 ?_
  refine WQ.ret (rs := [.tmp 2]) rfl (.tmp rfl .nil) (fun w hS => ⟨(a2, cap2), ?_, ?_⟩)
  ·simp [tup]
  ·simpa using hS

theorem passK_KB : ∀ {ls : List (List Int)} {k : Fm.Kn} {ag : Bool}, KB k → (∀ c ∈ ls, ∀ x ∈ c, Lit x) → (∀ k', Fm.passK ls k ag = .inl k' → KB k') ∧ (∀ k' b, Fm.passK ls k ag = .inr (k', b) → KB k')
 | [], k, ag, hk, _ => ⟨fun k' h => by simp [Fm.passK] at h, fun k' b h => by simp only [Fm.passK, Sum.inr.injEq, Prod.mk.injEq] at h; rw [← h.1]; exact hk⟩
 | c :: cs, k, ag, hk, hl => by
  have hcs : ∀ c ∈ cs, ∀ x ∈ c, Lit x := fun c' h => hl c' (List.mem_cons_of_mem _ h)
  simp only [Fm.passK]
  split
  ·exact ⟨fun k' h => by injection h with h; rw [← h]; exact hk, fun k' b h => by cases h⟩
  split
  ·exact ⟨fun k' h => by injection h with h; rw [← h]; exact hk, fun k' b h => by cases h⟩
  split
  ·rename_i h1 h2 h3
   have hx : Lit (Fm.unitK k c).1 := by
    rcases unitG_mem (x := (Fm.unitK k c).1) (c := c) (op := 0) (k := k) (by have := h3; unfold Fm.unitK at this ⊢; rw [← this]) with h0 | h0
    ·exfalso
     apply h2
     rw [h3, h0]; rfl
    ·exact hl c (List.mem_cons_self ..) _ h0
   exact passK_KB (hk.with hx) hcs
  ·exact passK_KB hk hcs
theorem closedF_KB : ∀ {f : Nat} {ls : List (List Int)} {k k' : Fm.Kn} {b : Bool}, KB k → (∀ c ∈ ls, ∀ x ∈ c, Lit x) → Fm.closedF f ls k = some (k', b) → KB k'
 | 0, ls, k, k', b, _, _, h => by simp [Fm.closedF] at h
 | f + 1, ls, k, k', b, hk, hl, h => by
  have hp := passK_KB (ag := false) hk hl
  simp only [Fm.closedF] at h
  split at h
  ·rename_i k2 h2
   simp only [Option.some.injEq, Prod.mk.injEq] at h
   rw [← h.1]; exact hp.1 _ h2
  ·rename_i k2 b2 h2
   split at h
   ·exact closedF_KB (hp.2 _ _ h2) hl h
   ·simp only [Option.some.injEq, Prod.mk.injEq] at h
    rw [← h.1]; exact hp.2 _ _ h2
theorem solveF_true {n f : Nat} {all proof : List (List Int)} {path : List Int} : Fm.solveF n (f + 1) true all path proof = match path.getLast? with
  | none => some ⟨false, 0, proof ++ [path.map (fun x => -x)]⟩
  | some last => if last < 0 then Fm.solveF n f false (all ++ [path.map (fun x => -x)]) (path.dropLast ++ [-last]) (proof ++ [path.map (fun x => -x)]) else Fm.solveF n f true (all ++ [path.map (fun x => -x)]) path.dropLast (proof ++ [path.map (fun x => -x)]) := rfl
structure SG where
 f : Nat
 path : List Int
 ss : List (List Int)
 vs : List Value
 hs : List Value
 ps : List Value
 F : List Nat
 aa : Option Addr
 pa : Option Addr
 ta : Option Addr
 ca : Nat
 pc : Nat
 tc : Nat
 nA : Nat
 nP : Nat
 nT : Nat
structure SInv (n : Nat) (ls : List (List Int)) (us : List Value) (r : Fm.Ans) (mode : Bool) (g : SG) : Prop where
 sol : Fm.solveF n g.f mode (ls ++ g.ss) g.path g.ss = some r
 hhs : g.hs = us ++ g.vs
 hps : g.ps = g.path.map (Value.int .i64)
 hA : g.nA = ls.length + g.ss.length
 hP : g.nP = g.ss.length
 hT : g.nT = g.path.length
 lit : ∀ x ∈ g.path, x ≠ 0 ∧ -24 ≤ x ∧ x ≤ 24
 slit : ∀ c ∈ g.ss, ∀ x ∈ c, Lit x
 slen : ∀ c ∈ g.ss, c.length ≤ 1099511627776
 bp : g.path.length + g.f ≤ 1073741824
 bs : g.ss.length + g.f ≤ 1073741824
/-- The step that shows that a path leads to no model, laid up to i. -/
def stepAt (path : List Int) (i : Nat) : List Value := ((path.map (fun x => -x)).take i).map (Value.int .i64) ++ List.replicate (path.length - i) (.int .i64 0)
theorem stepAt_len {path : List Int} {i : Nat} (h : i ≤ path.length) : (stepAt path i).length = path.length := by
 simp [stepAt]; omega
theorem stepAt_set {path : List Int} {i : Nat} {x : Int} (h : path[i]? = some x) : (stepAt path i).set i (.int .i64 (-x)) = stepAt path (i + 1) := by
 have hi := (List.getElem?_eq_some_iff.1 h).1
 have hl : (((path.map (fun x => -x)).take i).map (Value.int .i64)).length = i := by simp; omega
 unfold stepAt
 rw [List.set_append_right _ _ (by omega), hl, Nat.sub_self, List.take_add_one, List.map_append]
 have hg : (path.map (fun x => -x))[i]? = some (-x) := by simp [h]
 rw [hg]
 have hr : path.length - i = (path.length - (i + 1)) + 1 := by omega
 rw [hr, List.replicate_succ, List.set_cons_zero]
 simp
theorem stepAt_end {path : List Int} : stepAt path path.length = (path.map (fun x => -x)).map (Value.int .i64) := by
 simp [stepAt]
 rw [List.take_of_length_le (by simp)]
theorem Lit.neg {x : Int} (h : x ≠ 0 ∧ -24 ≤ x ∧ x ≤ 24) : Lit (-x) := ⟨by omega, by omega, by omega⟩
theorem litB_lit {n : Nat} {x : Int} (hn : n ≤ 24) (h : Fm.litB (n : Int) x = true) : Lit x := by
 simp only [Fm.litB, Bool.and_eq_true, Bool.not_eq_true', decide_eq_true_eq, beq_eq_false_iff_ne] at h
 exact ⟨h.1.1, by omega, by omega⟩
theorem may_lit {n : Nat} {ls : List (List Int)} (hn : n ≤ 24) (h : ls.all (Fm.fitsB (n : Int)) = true) : (∀ c ∈ ls, ∀ x ∈ c, Lit x) ∧ (∀ c ∈ ls, c.length ≤ 64) := by
 rw [List.all_eq_true] at h
 refine ⟨fun c hc x hx => ?_, fun c hc => ?_⟩
 ·have := h c hc
  simp only [Fm.fitsB, Bool.and_eq_true, List.all_eq_true] at this
  exact litB_lit hn (this.2 x hx)
 ·have := h c hc
  simp only [Fm.fitsB, Bool.and_eq_true, decide_eq_true_eq] at this
  exact this.1
def SolvePost (w : World) (r : Fm.Ans) (e : Ending) (w' : World) : Prop :=
 ∃ (x : Option Addr × Nat) (F : List Nat) (vs : List Value), e = .returned (.tuple #[.agg #[.bool r.ok, .int .u32 (r.model : Int), .slice x.1 r.proof.length x.2], .int .i64 0]) ∧
  St w [] [rowc (.slice x.1 r.proof.length x.2) r.proof.length 46 1 vs, stepsC F vs r.proof] w'

theorem may_zero {m : Int} {ls : List (List Int)} (h : Fm.mayE m ls = 0) : (0 ≤ m ∧ m ≤ 24) ∧ ls.length ≤ 4096 ∧ ls.all (Fm.fitsB m) = true := by
 unfold Fm.mayE at h
 split at h
 ·cases h
 split at h
 ·cases h
 split at h
 ·rename_i h1 h2 h3
  exact ⟨by omega, by omega, h3⟩
 ·cases h
theorem stepAt_zero {path : List Int} {k : Nat} (h : k = path.length) : stepAt path 0 = List.replicate k (.int .i64 0) := by
 simp [stepAt, h]
theorem last_at {path : List Int} {x : Int} {k : Nat} (hk : k = path.length) (h : path.getLast? = some x) : path[k - 1]? = some x ∧ 0 < k := by
 subst hk
 rw [List.getLast?_eq_getElem?] at h
 exact ⟨h, by have := (List.getElem?_eq_some_iff.1 h).1; omega⟩
namespace F
theorem info3 : (Tryz.prog.info? 3).map (fun i => (i.zero, i.size, i.bytes)) = some (some (.int .i64 0), 1, 8) := by kernel_rfl
end F

theorem Solve_c (m : Int) (ls : List (List Int)) (a : Option Addr) (cap : Nat) (us : List Value) (ha : a = none ∨ ∃ b off, a = some ⟨b, off, none⟩) (w : World) (hr : RdLL w ls a us)
  (f0 : Nat) (r : Fm.Ans) (hf0 : f0 ≤ 536870912) (hsol : ∀ n : Nat, m = (n : Int) → Fm.mayE m ls = 0 → Fm.solveF n f0 false ls [] [] = some r) :
  Calls Tryz.prog 15 [.int .i64 m, .slice a ls.length cap].toArray w fun e w' => (Fm.mayE m ls ≠ 0 ∧ e = .returned (.tuple #[.agg #[.bool false, .int .u32 0, .slice none 0 0], .int .i64 (Fm.mayE m ls)]) ∧ St w [] [] w') ∨
   (Fm.mayE m ls = 0 ∧ SolvePost w r e w') := by
 refine enter Tryz.func15 rfl Tryz.ntmps15 rfl (St.init _) ?_
 refine jN 3 ?_
 refine WL.alloc F.zero43 rfl (fun b4 => ?_)
 refine jN 4 ?_
 refine WC.scope ?_
 refine jN 8 ?_
 refine WL.callV F.fun25 rfl rfl (fun w hS => may_c m ls a cap us w (hr.next hS)) ?_
 refine jN 12 ?_
 refine WC.cond rfl (fun h23 => ?_) (fun h23 => ?_)
 ·have hme : Fm.mayE m ls ≠ 0 := by simpa using h23
  refine jN 14 ?_
  refine WQ.scope_ret ?_
  refine WQ.ret (rs := [.cell 4 43, .tmp 5]) rfl (.cellN F.agg43 rfl jM rfl (.tmp rfl .nil)) (fun w hS => .inl ⟨hme, rfl, hS.drop⟩)
 ·have hme : Fm.mayE m ls = 0 := by simpa using h23
  obtain ⟨hm0, hcount, hall⟩ := may_zero hme
  obtain ⟨n, rfl⟩ : ∃ n : Nat, m = (n : Int) := ⟨m.toNat, by omega⟩
  have hn : n ≤ 24 := by omega
  obtain ⟨hlits, hlens⟩ := may_lit hn hall
  have h := hsol n rfl hme
  refine jN 7 ?_
  refine jC (β := Option Addr × Nat) (res := fun x => .slice x.1 ls.length x.2) (cs := fun x => [rowc (.slice x.1 ls.length x.2) ls.length 46 1 us]) F.fun38 rfl (fun w hS _ => Clone_c ls a cap us (by omega) ha w (hr.next hS)) (fun x27 => ?_)
  refine jN 17 ?_
  refine WC.label ?_
  refine jN 2 ?_
  obtain ⟨a1, c1⟩ := x27
  refine WC.chunks (fun w hS => (hS.rowNil 46 1)) ?_
  refine WC.chunks (fun w hS => (hS.rowNil 3 1)) ?_
  refine WC.chunks (fun w hS => hS.stepsNil) ?_
  refine WC.chunks (C' := [pt b4 [.bool false, .int .u32 0, .slice none 0 0] 43, rowc (.slice a1 ls.length c1) ls.length 46 1 us, rowc (.slice none 0 0) 0 46 1 [], rowc (.slice none 0 0) 0 3 1 [], stepsC [] [] []]) (fun w hS => (St.pick (St.pick (St.pick (St.pick hS (c := rowc (.slice none 0 0) 0 3 1 []) jR) (c := rowc (.slice none 0 0) 0 46 1 []) jR) (c := rowc (.slice a1 ls.length c1) ls.length 46 1 us) jR) (c := pt b4 [.bool false, .int .u32 0, .slice none 0 0] 43) jR)) ?_
  refine WC.loop (α := SG) (SInv n ls us r false) (fun g => [(0, .int .i64 (n : Int)), (4, pp b4), (7, .slice g.aa g.nA g.ca), (8, .slice g.ta g.nT g.tc), (9, .slice g.pa g.nP g.pc)]) (fun g => [pt b4 [.bool false, .int .u32 0, .slice none 0 0] 43, rowc (.slice g.aa g.nA g.ca) g.nA 46 1 g.hs, rowc (.slice g.pa g.nP g.pc) g.nP 46 1 g.vs, rowc (.slice g.ta g.nT g.tc) g.nT 3 1 g.ps, stepsC g.F g.vs g.ss]) (fun g => g.f) (⟨f0, [], [], [], us, [], [], a1, none, none, c1, 0, 0, ls.length, 0, 0⟩) ?_ ?_ ?_ ?_
  ·exact ⟨by rw [List.append_nil]; exact h, by rw [List.append_nil], rfl, rfl, rfl, rfl, by simp, by simp, by simp, by simp; omega, by simp; omega⟩
  ·exact ⟨rfl, rfl, rfl, rfl, rfl, trivial⟩
  ·rfl
  rintro ⟨f, path, ss, vs, hs, ps, Fb, aa, pa, ta, ca, pc, tc, nA, nP, nT⟩ hI
  obtain ⟨sol, hhs, hps, hA, hP, hT, hlit, hslit, hslen, hbp, hbs⟩ := hI
  dsimp only at sol hhs hps hA hP hT hlit hslit hslen hbp hbs
  obtain ⟨f, rfl⟩ : ∃ f2, f = f2 + 1 := by cases f with | zero => simp [Fm.solveF] at sol | succ f => exact ⟨f, rfl⟩
  show WC _ _ _ _ _ _ _ [(0, .int .i64 (n : Int)), (4, pp b4), (7, .slice aa nA ca), (8, .slice ta nT tc), (9, .slice pa nP pc)] [pt b4 [.bool false, .int .u32 0, .slice none 0 0] 43, rowc (.slice aa nA ca) nA 46 1 hs, rowc (.slice pa nP pc) nP 46 1 vs, rowc (.slice ta nT tc) nT 3 1 ps, stepsC Fb vs ss]
  simp only [Fm.solveF] at sol
  obtain rfl : nA = (ls ++ ss).length := by rw [hA, List.length_append]
  have hLL : ∀ c ∈ ls ++ ss, ∀ x ∈ c, Lit x := by
   intro c hc
   rcases List.mem_append.1 hc with hc | hc
   ·exact hlits c hc
   ·exact hslit c hc
  have hLen : ∀ c ∈ ls ++ ss, c.length ≤ 1099511627776 := by
   intro c hc
   rcases List.mem_append.1 hc with hc | hc
   ·have := hlens c hc; omega
   ·exact hslen c hc
  refine jN 6 ?_
  refine WL.alloc F.zero82 rfl (fun b10 => ?_)
  refine jN 16 ?_
  refine WC.loop (α := Nat × Fm.Kn) (fun g => g.1 ≤ nT ∧ KB g.2 ∧ g.2 = (path.take g.1).foldl Fm.withK (0, 0)) (fun g => [(0, .int .i64 (n : Int)), (4, pp b4), (7, .slice aa (ls ++ ss).length ca), (8, .slice ta nT tc), (9, .slice pa nP pc), (10, pp b10), (29, .slice ta nT tc), (30, .int .i64 (nT : Int)), (31, .int .i64 (g.1 : Int))]) (fun g => [pt b10 [.int .u32 (g.2.1 : Int), .int .u32 (g.2.2 : Int)] 82, pt b4 [.bool false, .int .u32 0, .slice none 0 0] 43, rowc (.slice aa (ls ++ ss).length ca) (ls ++ ss).length 46 1 hs, rowc (.slice pa nP pc) nP 46 1 vs, rowc (.slice ta nT tc) nT 3 1 ps, stepsC Fb vs ss]) (fun g => nT - g.1) ((0, (0, 0))) ?_ ?_ ?_ ?_
  ·exact ⟨Nat.zero_le _, ⟨by decide, by decide⟩, rfl⟩
  ·exact ⟨rfl, rfl, rfl, rfl, rfl, rfl, rfl, rfl, rfl, trivial⟩
  ·rfl
  rintro ⟨i, k⟩ ⟨hi, hk, hke⟩
  dsimp only at hi hk hke
  show WC _ _ _ _ _ _ _ [(0, .int .i64 (n : Int)), (4, pp b4), (7, .slice aa (ls ++ ss).length ca), (8, .slice ta nT tc), (9, .slice pa nP pc), (10, pp b10), (29, .slice ta nT tc), (30, .int .i64 (nT : Int)), (31, .int .i64 (i : Int))] [pt b10 [.int .u32 (k.1 : Int), .int .u32 (k.2 : Int)] 82, pt b4 [.bool false, .int .u32 0, .slice none 0 0] 43, rowc (.slice aa (ls ++ ss).length ca) (ls ++ ss).length 46 1 hs, rowc (.slice pa nP pc) nP 46 1 vs, rowc (.slice ta nT tc) nT 3 1 ps, stepsC Fb vs ss]
  refine jN 7 ?_
  refine WC.cond rfl (fun h32 => ?_) (fun h32 => ?_)
  ·have hlt : i < nT := by simpa using h32
   obtain ⟨x, hx⟩ : ∃ x, path[i]? = some x := ⟨_, List.getElem?_eq_getElem (by omega)⟩
   have hxl := hlit x (List.mem_of_getElem? hx)
   refine WC.know (φ := ∃ g, ta = some ⟨g, 0, none⟩ ∧ nT = nT ∧ nT ≤ tc) (fun w hS => rowc_addr (hS.ok (rowc (.slice ta nT tc) nT 3 1 ps) jM) (by omega)) (fun ⟨g, hta, _, _⟩ => ?_)
   subst hta
   refine jN 7 ?_
   refine WL.indexAddr F.sl46 rfl rfl rfl hlt ?_
   refine jN 1 ?_
   refine WL.load1 F.one3 rfl rfl (v := .int .i64 x) (fun w hS => by simpa using rowc_cell (hS.ok (rowc (.slice (some ⟨g, 0, none⟩) nT tc) nT 3 1 ps) jM) (u := .int .i64 x) (by rw [hps]; simp [hx])) ?_
   refine jN 10 ?_
   refine WL.callV F.fun39 rfl rfl (fun w _ => with_c k x hk ⟨hxl.1, by omega, by omega⟩ w) ?_
   refine jN 11 ?_
   refine WQ.back ((i + 1, Fm.withK k x)) ?_ ?_ ?_ ?_
   ·exact ⟨by show i + 1 ≤ nT; omega, hk.with ⟨hxl.1, by omega, by omega⟩, by show Fm.withK k x = _; rw [List.take_add_one, hx, List.foldl_append, ← hke]; rfl⟩
   ·(show nT - (i + 1) < nT - i; omega)
   ·exact ⟨rfl, rfl, rfl, rfl, rfl, rfl, rfl, rfl, rfl, trivial⟩
   ·rfl
  ·have hie : nT = i := by simp at h32; omega
   subst hie
   rw [hT, List.take_length] at hke
   refine jN 6 ?_
   rcases hcl : Fm.closedF 65 (ls ++ ss) k with _ | ⟨k1, ok⟩
   ·rw [← hke, hcl] at sol
    cases sol
   ·rw [← hke, hcl] at sol
    have hk1 := closedF_KB hk hLL hcl
    refine jN 6 ?_
    refine WL.callV F.fun40 rfl rfl (fun w hS => closed_c (ls ++ ss) aa ca hs k 65 (k1, ok) hk hLL hLen (by simp; omega) w (hr.join hS hhs (by rw [List.length_append]) (n := (ls ++ ss).length) (cap := ca) (F := Fb) (vs := vs) jM jM) hcl) ?_
    refine jN 19 ?_
    refine WC.cond rfl (fun h45 => ?_) (fun h45 => ?_)
    ·have hok : ok = true := h45
     subst hok
     simp only at sol
     refine jN 10 ?_
     refine WC.loop (α := Nat) (fun i => i ≤ n ∧ Fm.openK k1 n = Fm.openK k1 i) (fun i => [(0, .int .i64 (n : Int)), (4, pp b4), (7, .slice aa (ls ++ ss).length ca), (8, .slice ta nT tc), (9, .slice pa nP pc), (10, pp b10), (14, .int .i64 (i : Int))]) (fun _ => [pt b10 [.int .u32 (k1.1 : Int), .int .u32 (k1.2 : Int)] 82, pt b4 [.bool false, .int .u32 0, .slice none 0 0] 43, rowc (.slice aa (ls ++ ss).length ca) (ls ++ ss).length 46 1 hs, rowc (.slice pa nP pc) nP 46 1 vs, rowc (.slice ta nT tc) nT 3 1 ps, stepsC Fb vs ss]) (fun i => i) (n) ?_ ?_ ?_ ?_
     ·exact ⟨Nat.le_refl _, rfl⟩
     ·exact ⟨rfl, rfl, rfl, rfl, rfl, rfl, rfl, trivial⟩
     ·rfl
     rintro i ⟨hi, hop⟩
     refine jN 9 ?_
     refine WC.cond rfl (fun h48 => ?_) (fun h48 => ?_)
     ·have hi0 : 0 < i := by simp at h48; omega
      have hLi : Lit (i : Int) := ⟨by omega, by omega, by omega⟩
      have hLn : Lit (-(i : Int)) := ⟨by omega, by omega, by omega⟩
      have hok2 : Fm.openK k1 i = if !Fm.hasK k1 (i : Int) && !Fm.hasK k1 (-(i : Int)) then i else Fm.openK k1 (i - 1) := by
       obtain ⟨j, rfl⟩ : ∃ j, i = j + 1 := ⟨i - 1, by omega⟩
       simp only [Fm.openK, Nat.add_sub_cancel]
      refine jN 11 ?_
      refine WL.callV F.fun41 rfl rfl (fun w _ => has_c k1 _ hk1 hLi w) ?_
      refine jN 4 ?_
      refine WA.splitB (i := 55) rfl (fun h55 => ?_) (fun h55 => ?_)
      ·refine jN 8 ?_
       refine WL.negI rfl rfl (by omega) ?_
       refine jN 2 ?_
       refine WL.callV F.fun41 rfl rfl (fun w _ => has_c k1 _ hk1 hLn w) ?_
       refine jN 7 ?_
       refine WC.cond rfl (fun h61 => ?_) (fun h61 => ?_)
       ·have hoi : Fm.openK k1 n = i := by rw [hop, hok2, h55, h61]; rfl
        rw [if_neg (by rw [hoi]; omega), hoi] at sol
        refine jN 7 ?_
        refine WL.negI rfl rfl (by omega) ?_
        refine jN 1 ?_
        refine WL.buildSlice F.sl46 F.ez46 rfl rfl rfl rfl jB rfl (fun b65 => ?_)
        refine jN 1 ?_
        refine WL.appendE (news := [.int .i64 (-(i : Int))]) F.el46 rfl rfl rfl jR (fun w hS j u hu => by rw [Nat.zero_add]; exact hS.cell (cs := [.int .i64 (-(i : Int))]) jM hu) rfl jO (Nat.le_trans (m := 1099511627776) (by omega) (by decide)) (by omega) (fun a3 c3 => ?_)
        refine jN 12 ?_
        refine WQ.chunks (C' := [pt b4 [.bool false, .int .u32 0, .slice none 0 0] 43, rowc (.slice aa (ls ++ ss).length ca) (ls ++ ss).length 46 1 hs, rowc (.slice pa nP pc) nP 46 1 vs, rowc (.slice a3 (nT + 1) c3) (nT + 1) 3 1 (ps ++ [.int .i64 (-(i : Int))]), stepsC Fb vs ss]) (fun w hS => (jK hS)) ?_
        refine WQ.back (⟨f, path ++ [-(i : Int)], ss, vs, hs, ps ++ [.int .i64 (-(i : Int))], Fb, aa, pa, a3, ca, pc, c3, (ls ++ ss).length, nP, nT + 1⟩) ?_ ?_ ?_ ?_
        ·exact ⟨sol, hhs, by show ps ++ _ = (path ++ _).map _; rw [hps]; simp, by show (ls ++ ss).length = _; rw [List.length_append], hP, by show nT + 1 = (path ++ [_]).length; rw [hT]; simp, by intro x hx; rcases List.mem_append.1 hx with hx | hx; exact hlit x hx; simp at hx; subst hx; exact ⟨by omega, by omega, by omega⟩, hslit, hslen, by show (path ++ [_]).length + f ≤ _; simp; omega, by show ss.length + f ≤ _; omega⟩
        ·exact Nat.lt_succ_self f
        ·exact ⟨rfl, rfl, rfl, rfl, rfl, trivial⟩
        ·rfl
       ·have hop2 : Fm.openK k1 n = Fm.openK k1 (i - 1) := by rw [hop, hok2, h55, h61]; rfl
        refine jN 11 ?_
        obtain ⟨i, rfl⟩ : ∃ i2, i = i2 + 1 := ⟨i - 1, by omega⟩
        rw [show (((i + 1 : Nat) : Int) - 1) = (i : Int) by omega]
        refine WQ.back (i) ?_ ?_ ?_ ?_
        ·exact ⟨by omega, hop2⟩
        ·omega
        ·exact ⟨rfl, rfl, rfl, rfl, rfl, rfl, rfl, trivial⟩
        ·rfl
      ·have hop2 : Fm.openK k1 n = Fm.openK k1 (i - 1) := by rw [hop, hok2, h55]; rfl
       refine jN 26 ?_
       obtain ⟨i, rfl⟩ : ∃ i2, i = i2 + 1 := ⟨i - 1, by omega⟩
       rw [show (((i + 1 : Nat) : Int) - 1) = (i : Int) by omega]
       refine WQ.back (i) ?_ ?_ ?_ ?_
       ·exact ⟨by omega, hop2⟩
       ·omega
       ·exact ⟨rfl, rfl, rfl, rfl, rfl, rfl, rfl, trivial⟩
       ·rfl
     ·have hi0 : i = 0 := by simp at h48; omega
      subst hi0
      have hop0 : Fm.openK k1 n = 0 := hop
      rw [if_pos hop0] at sol
      injection sol with sol
      refine jN 24 ?_
      refine WQ.scope_ret ?_
      refine WQ.ret (rs := [.cell 4 43, .tmp 5]) rfl (.cellN F.agg43 rfl jM rfl (.tmp rfl .nil)) (fun w hS => .inr ⟨hme, (none, 0), [], [], ?_, ?_⟩)
      ·rw [← sol]; rfl
      ·rw [← sol]; exact (((hS.sublist (List.nil_sublist _)).stepsNil).rowNil 46 1)
    ·have hok : ok = false := h45
     subst hok
     simp only at sol
     refine jN 3 ?_
     obtain ⟨fo, hfo0⟩ : ∃ fo, fo = f := ⟨_, rfl⟩
     refine WC.chunks (C' := [pt b4 [.bool false, .int .u32 0, .slice none 0 0] 43, rowc (.slice aa (ls ++ ss).length ca) (ls ++ ss).length 46 1 hs, rowc (.slice pa nP pc) nP 46 1 vs, rowc (.slice ta nT tc) nT 3 1 ps, stepsC Fb vs ss]) (fun w hS => (jK hS)) ?_
     refine WC.loop (α := SG) (fun g => SInv n ls us r true g ∧ g.f ≤ fo) (fun g => [(0, .int .i64 (n : Int)), (4, pp b4), (7, .slice g.aa g.nA g.ca), (8, .slice g.ta g.nT g.tc), (9, .slice g.pa g.nP g.pc)]) (fun g => [pt b4 [.bool false, .int .u32 0, .slice none 0 0] 43, rowc (.slice g.aa g.nA g.ca) g.nA 46 1 g.hs, rowc (.slice g.pa g.nP g.pc) g.nP 46 1 g.vs, rowc (.slice g.ta g.nT g.tc) g.nT 3 1 g.ps, stepsC g.F g.vs g.ss]) (fun g => g.f) (⟨f, path, ss, vs, hs, ps, Fb, aa, pa, ta, ca, pc, tc, (ls ++ ss).length, nP, nT⟩) ?_ ?_ ?_ ?_
     ·exact ⟨⟨sol, hhs, hps, by show (ls ++ ss).length = _; rw [List.length_append], hP, hT, hlit, hslit, hslen, by show path.length + f ≤ _; omega, by show ss.length + f ≤ _; omega⟩, by show f ≤ fo; omega⟩
     ·exact ⟨rfl, rfl, rfl, rfl, rfl, trivial⟩
     ·rfl
     rintro ⟨f, path, ss, vs, hs, ps, Fb, aa, pa, ta, ca, pc, tc, nA, nP, nT⟩ ⟨hI, hfo⟩
     dsimp only at hfo
     obtain ⟨sol, hhs, hps, hA, hP, hT, hlit, hslit, hslen, hbp, hbs⟩ := hI
     dsimp only at sol hhs hps hA hP hT hlit hslit hslen hbp hbs
     obtain ⟨f, rfl⟩ : ∃ f2, f = f2 + 1 := by cases f with | zero => simp [Fm.solveF] at sol | succ f => exact ⟨f, rfl⟩
     show WC _ _ _ _ _ _ _ [(0, .int .i64 (n : Int)), (4, pp b4), (7, .slice aa nA ca), (8, .slice ta nT tc), (9, .slice pa nP pc)] [pt b4 [.bool false, .int .u32 0, .slice none 0 0] 43, rowc (.slice aa nA ca) nA 46 1 hs, rowc (.slice pa nP pc) nP 46 1 vs, rowc (.slice ta nT tc) nT 3 1 ps, stepsC Fb vs ss]
     rw [solveF_true] at sol
     refine jN 8 ?_
     refine WL.makeSlice F.und46 F.info3 rfl rfl rfl rfl (by omega) (by omega) (fun b72 => ?_)
     rw [← stepAt_zero hT]
     refine jN 16 ?_
     refine WC.loop (α := Nat) (fun i => i ≤ nT) (fun i => [(0, .int .i64 (n : Int)), (4, pp b4), (7, .slice aa nA ca), (8, .slice ta nT tc), (9, .slice pa nP pc), (15, .slice (some ⟨b72, 0, none⟩) nT nT), (73, .slice ta nT tc), (74, .int .i64 (nT : Int)), (75, .int .i64 (i : Int))]) (fun i => [pt b72 (stepAt path i) 3, pt b4 [.bool false, .int .u32 0, .slice none 0 0] 43, rowc (.slice aa nA ca) nA 46 1 hs, rowc (.slice pa nP pc) nP 46 1 vs, rowc (.slice ta nT tc) nT 3 1 ps, stepsC Fb vs ss]) (fun i => nT - i) (0) ?_ ?_ ?_ ?_
     ·exact Nat.zero_le _
     ·exact ⟨rfl, rfl, rfl, rfl, rfl, rfl, rfl, rfl, rfl, trivial⟩
     ·rfl
     rintro i hi
     refine jN 7 ?_
     refine WC.cond rfl (fun h76 => ?_) (fun h76 => ?_)
     ·have hlt : i < nT := by simpa using h76
      obtain ⟨x, hx⟩ : ∃ x, path[i]? = some x := ⟨_, List.getElem?_eq_getElem (by omega)⟩
      have hxl := hlit x (List.mem_of_getElem? hx)
      refine WC.know (φ := ∃ g, ta = some ⟨g, 0, none⟩ ∧ nT = nT ∧ nT ≤ tc) (fun w hS => rowc_addr (hS.ok (rowc (.slice ta nT tc) nT 3 1 ps) jM) (by omega)) (fun ⟨g, hta, _, _⟩ => ?_)
      subst hta
      refine jN 9 ?_
      refine WL.indexAddr F.sl46 rfl rfl rfl hlt ?_
      refine jN 1 ?_
      refine WL.load1 F.one3 rfl rfl (v := .int .i64 x) (fun w hS => by simpa using rowc_cell (hS.ok (rowc (.slice (some ⟨g, 0, none⟩) nT tc) nT 3 1 ps) jM) (u := .int .i64 x) (by rw [hps]; simp [hx])) ?_
      refine jN 14 ?_
      refine WL.negI rfl rfl (by omega) ?_
      refine jN 1 ?_
      refine WL.indexAddr F.sl46 rfl rfl rfl hlt ?_
      refine jN 1 ?_
      refine WL.store1 (cs := stepAt path i) (cs' := stepAt path (i + 1)) F.one3 rfl rfl rfl jU (by have h9 := setN_set (stepAt path i) i (.int .i64 (-x)) (by rw [stepAt_len (by omega)]; omega); rw [stepAt_set hx] at h9; simpa using h9) ?_
      refine jN 9 ?_
      refine WQ.back (i + 1) ?_ ?_ ?_ ?_
      ·exact by omega
      ·omega
      ·exact ⟨rfl, rfl, rfl, rfl, rfl, rfl, rfl, rfl, rfl, trivial⟩
      ·rfl
     ·have hie : i = nT := by simp at h76; omega
      subst hie
      have hse : stepAt path i = (path.map (fun x => -x)).map (Value.int .i64) := by rw [hT]; exact stepAt_end
      have hcl : (path.map (fun x => -x)).length = i := by simp [hT]
      refine jN 12 ?_
      refine WL.buildSlice F.sl23 F.ez23 rfl rfl rfl rfl jB rfl (fun b88 => ?_)
      refine jN 1 ?_
      refine WL.appendE (news := [Value.slice (some ⟨b72, 0, none⟩) i i]) F.el23 rfl rfl rfl jR (fun w hS j u hu => by rw [Nat.zero_add]; exact hS.cell (cs := [Value.slice (some ⟨b72, 0, none⟩) i i]) jM hu) rfl jO (Nat.le_trans (m := 1099511627776) (by omega) (by decide)) (by omega) (fun a4 c4 => ?_)
      refine jN 11 ?_
      refine WL.buildSlice F.sl23 F.ez23 rfl rfl rfl rfl jB rfl (fun b92 => ?_)
      refine jN 1 ?_
      refine WL.appendE (news := [Value.slice (some ⟨b72, 0, none⟩) i i]) F.el23 rfl rfl rfl jR (fun w hS j u hu => by rw [Nat.zero_add]; exact hS.cell (cs := [Value.slice (some ⟨b72, 0, none⟩) i i]) jM hu) rfl jO (Nat.le_trans (m := 1099511627776) (by omega) (by decide)) (by omega) (fun a5 c5 => ?_)
      refine jN 2 ?_
      refine WA.chunks (C' := [pt b4 [.bool false, .int .u32 0, .slice none 0 0] 43, rowc (.slice a5 (nA + 1) c5) (nA + 1) 46 1 (hs ++ [Value.slice (some ⟨b72, 0, none⟩) i i]), rowc (.slice a4 (nP + 1) c4) (nP + 1) 46 1 (vs ++ [Value.slice (some ⟨b72, 0, none⟩) i i]), rowc (.slice ta i tc) i 3 1 ps, stepsC (b72 :: Fb) (vs ++ [Value.slice (some ⟨b72, 0, none⟩) i i]) (ss ++ [(path.map (fun x => -x))])]) (fun w hS => ?_) ?_
      ·rw [hse] at hS
       have h9 := St.stepsSnoc (St.pick (St.pick hS (c := pt b72 ((path.map (fun x => -x)).map (Value.int .i64)) 3) jR) (c := stepsC Fb vs ss) jR)
       rw [hcl] at h9
       exact (jK h9)
      refine jN 13 ?_
      refine WC.cond rfl (fun h96 => ?_) (fun h96 => ?_)
      ·have hp0 : path = [] := List.eq_nil_of_length_eq_zero (by simp at h96; omega)
       subst hp0
       simp only [List.getLast?_nil] at sol
       injection sol with sol
       refine jN 20 ?_
       refine WQ.scope_ret ?_
       refine WQ.ret (rs := [.cell 4 43, .tmp 5]) rfl (.cellN F.agg43 rfl jM rfl (.tmp rfl .nil)) (fun w hS => .inr ⟨hme, (a4, c4), b72 :: Fb, vs ++ [Value.slice (some ⟨b72, 0, none⟩) i i], ?_, ?_⟩)
       ·have hpl : nP + 1 = r.proof.length := by rw [← sol, hP]; simp
        rw [← hpl, ← sol]; rfl
       ·have hpl : nP + 1 = r.proof.length := by rw [← sol, hP]; simp
        have h9 := ((St.pick (St.pick hS (c := stepsC (b72 :: Fb) (vs ++ [Value.slice (some ⟨b72, 0, none⟩) i i]) (ss ++ [([] : List Int).map (fun x => -x)])) jR) (c := rowc (.slice a4 (nP + 1) c4) (nP + 1) 46 1 (vs ++ [Value.slice (some ⟨b72, 0, none⟩) i i])) jR)).two2
        rw [← hpl, ← sol]; exact h9
      ·have hp0 : path ≠ [] := by (intro h0; rw [h0] at hT; simp at h96 hT; omega)
       obtain ⟨last, hlast⟩ : ∃ x, path.getLast? = some x := ⟨_, List.getLast?_eq_some_getLast hp0⟩
       rw [hlast] at sol
       simp only at sol
       obtain ⟨hli, hpos⟩ := last_at hT hlast
       have hll := hlit last (List.mem_of_getLast? hlast)
       refine WC.know (φ := ∃ g, ta = some ⟨g, 0, none⟩ ∧ i = i ∧ i ≤ tc) (fun w hS => rowc_addr (hS.ok (rowc (.slice ta i tc) i 3 1 ps) jM) hpos) (fun ⟨g, hta, _, htc⟩ => ?_)
       subst hta
       have htk : ps.take (i - 1) = path.dropLast.map (Value.int .i64) := by rw [hps, ← List.map_take, List.dropLast_eq_take, hT]
       have hslit5 : ∀ c ∈ ss ++ [(path.map (fun x => -x))], ∀ x ∈ c, Lit x := by
        intro c hc x hx
        rcases List.mem_append.1 hc with hc | hc
        ·exact hslit c hc x hx
        ·simp only [List.mem_singleton] at hc
         subst hc
         obtain ⟨y, hy, hyx⟩ := List.mem_map.1 hx
         rw [← hyx]; exact Lit.neg (hlit y hy)
       have hslen5 : ∀ c ∈ ss ++ [(path.map (fun x => -x))], c.length ≤ 1099511627776 := by
        intro c hc
        rcases List.mem_append.1 hc with hc | hc
        ·exact hslen c hc
        ·simp only [List.mem_singleton] at hc
         subst hc
         simp; omega
       have hbs5 : (ss ++ [(path.map (fun x => -x))]).length + f ≤ 1073741824 := by simp; omega
       have hdl : path.dropLast.length = i - 1 := by simp [hT]
       refine jN 12 ?_
       refine WA.say 102 (.int .i64 ((i - 1 : Nat) : Int)) (congrArg (fun z => some (Value.int .i64 z)) (show (i : Int) - 1 = ((i - 1 : Nat) : Int) by omega)) ?_
       refine jN 1 ?_
       refine WL.indexAddr F.sl46 rfl rfl rfl (i := i - 1) (by omega) ?_
       refine jN 1 ?_
       refine WL.load1 F.one3 rfl rfl (v := .int .i64 last) (fun w hS => by simpa using rowc_cell (hS.ok (rowc (.slice (some ⟨g, 0, none⟩) i tc) i 3 1 ps) jM) (u := .int .i64 last) (by rw [hps]; simp [hli])) ?_
       refine jN 14 ?_
       refine WA.say 108 (.int .i64 ((i - 1 : Nat) : Int)) (congrArg (fun z => some (Value.int .i64 z)) (show (i : Int) - 1 = ((i - 1 : Nat) : Int) by omega)) ?_
       refine jN 1 ?_
       refine WL.y (F := fun _ => True) (Yl.sliceSlTo (n := i - 1) F.sl46 rfl rfl (by omega)) rfl (fun _ _ => trivial) ?_
       refine jN 2 ?_
       refine WA.chunks (fun w hS => (St.rowTake (St.pick hS (c := rowc (.slice (some ⟨g, 0, none⟩) i tc) i 3 1 ps) jR) hpos (k := i - 1) (by omega))) ?_
       refine jN 10 ?_
       refine WC.cond rfl (fun h111 => ?_) (fun h111 => ?_)
       ·have hneg : last < 0 := by simpa using h111
        rw [if_pos hneg, List.append_assoc] at sol
        refine jN 7 ?_
        refine WL.negI rfl rfl (by omega) ?_
        refine jN 1 ?_
        refine WL.buildSlice F.sl46 F.ez46 rfl rfl rfl rfl jB rfl (fun b115 => ?_)
        refine jN 1 ?_
        refine WL.appendE (news := [.int .i64 (-last)]) F.el46 rfl rfl rfl jR (fun w hS j u hu => by rw [Nat.zero_add]; exact hS.cell (cs := [.int .i64 (-last)]) jM hu) rfl jO (Nat.le_trans (m := 1099511627776) (by omega) (by decide)) (by omega) (fun a6 c6 => ?_)
        refine jN 9 ?_
        refine WQ.chunks (C' := [pt b4 [.bool false, .int .u32 0, .slice none 0 0] 43, rowc (.slice a5 (nA + 1) c5) (nA + 1) 46 1 (hs ++ [Value.slice (some ⟨b72, 0, none⟩) i i]), rowc (.slice a4 (nP + 1) c4) (nP + 1) 46 1 (vs ++ [Value.slice (some ⟨b72, 0, none⟩) i i]), rowc (.slice a6 (i - 1 + 1) c6) (i - 1 + 1) 3 1 (ps.take (i - 1) ++ [.int .i64 (-last)]), stepsC (b72 :: Fb) (vs ++ [Value.slice (some ⟨b72, 0, none⟩) i i]) (ss ++ [(path.map (fun x => -x))])]) (fun w hS => (jK hS)) ?_
        refine WQ.back (⟨f, path.dropLast ++ [-last], ss ++ [(path.map (fun x => -x))], vs ++ [Value.slice (some ⟨b72, 0, none⟩) i i], hs ++ [Value.slice (some ⟨b72, 0, none⟩) i i], ps.take (i - 1) ++ [.int .i64 (-last)], b72 :: Fb, a5, a4, a6, c5, c4, c6, nA + 1, nP + 1, i - 1 + 1⟩) ?_ ?_ ?_ ?_
        ·exact ⟨sol, by show hs ++ _ = us ++ (vs ++ _); rw [hhs, List.append_assoc], by show ps.take (i - 1) ++ _ = (path.dropLast ++ _).map _; rw [htk]; simp, by show nA + 1 = ls.length + (ss ++ [_]).length; rw [hA]; simp; omega, by show nP + 1 = (ss ++ [_]).length; rw [hP]; simp, by show i - 1 + 1 = (path.dropLast ++ [_]).length; simp; omega, by intro x hx; rcases List.mem_append.1 hx with hx | hx; exact hlit x ((List.dropLast_sublist path).subset hx); simp at hx; subst hx; exact ⟨by omega, by omega, by omega⟩, hslit5, hslen5, by show (path.dropLast ++ [_]).length + f ≤ _; simp; omega, hbs5⟩
        ·dsimp only; omega
        ·exact ⟨rfl, rfl, rfl, rfl, rfl, trivial⟩
        ·rfl
       ·have hneg : ¬ last < 0 := by simpa using h111
        rw [if_neg hneg, List.append_assoc] at sol
        refine jN 2 ?_
        refine WQ.chunks (C' := [pt b4 [.bool false, .int .u32 0, .slice none 0 0] 43, rowc (.slice a5 (nA + 1) c5) (nA + 1) 46 1 (hs ++ [Value.slice (some ⟨b72, 0, none⟩) i i]), rowc (.slice a4 (nP + 1) c4) (nP + 1) 46 1 (vs ++ [Value.slice (some ⟨b72, 0, none⟩) i i]), rowc (.slice (some ⟨g, 0, none⟩) (i - 1) tc) (i - 1) 3 1 (ps.take (i - 1)), stepsC (b72 :: Fb) (vs ++ [Value.slice (some ⟨b72, 0, none⟩) i i]) (ss ++ [(path.map (fun x => -x))])]) (fun w hS => (jK hS)) ?_
        refine WQ.back (⟨f, path.dropLast, ss ++ [(path.map (fun x => -x))], vs ++ [Value.slice (some ⟨b72, 0, none⟩) i i], hs ++ [Value.slice (some ⟨b72, 0, none⟩) i i], ps.take (i - 1), b72 :: Fb, a5, a4, some ⟨g, 0, none⟩, c5, c4, tc, nA + 1, nP + 1, i - 1⟩) ?_ ?_ ?_ ?_
        ·exact ⟨⟨sol, by show hs ++ _ = us ++ (vs ++ _); rw [hhs, List.append_assoc], by show ps.take (i - 1) = path.dropLast.map _; exact htk, by show nA + 1 = ls.length + (ss ++ [_]).length; rw [hA]; simp; omega, by show nP + 1 = (ss ++ [_]).length; rw [hP]; simp, by show i - 1 = path.dropLast.length; simp; omega, fun x hx => hlit x ((List.dropLast_sublist path).subset hx), hslit5, hslen5, by show path.dropLast.length + f ≤ _; simp; omega, hbs5⟩, by show f ≤ fo; omega⟩
        ·exact Nat.lt_succ_self f
        ·exact ⟨rfl, rfl, rfl, rfl, rfl, trivial⟩
        ·rfl

end Go.Proofs.YtkgllhkhdjodeaaGreatDoor

namespace Go.Eng
open Go Go.RowKit
section
variable {P : Program} {w0 : World} {O : List Nat} {ops : Array Oper} {Q : Exit → Act → World → Prop} {N : Nat} {D : List Deferred} {L : FL} {C : List Chunk} {K : Act → World → Prop}
variable {d : Nat} {ty : TypeId} {pos : String} {af : Array Edge}
/-- Rows of numbers of the holder's own: one row more, however it was made. -/
theorem St.stepsSnocR {w : World} {F : List Nat} {vs : List Value} {ss : List (List Int)} {a : Option Addr} {n cap : Nat} {c : List Int} {e : TypeId} (hn : n = c.length) (h : St w0 O (stepsC F vs ss :: rowc (.slice a n cap) n e 1 (c.map (Value.int .i64)) :: C) w) :
  ∃ F', St w0 O (stepsC F' (vs ++ [.slice a n cap]) (ss ++ [c]) :: C) w := by
 have hok : w.ownsRow 0 e 1 (.slice a n cap) n (c.map (Value.int .i64)) := h.ok (rowc (.slice a n cap) n e 1 (c.map (Value.int .i64))) (by simp)
 have hob : ∃ G : List Nat, (∀ k ∈ G, (rowc (.slice a n cap) n e 1 (c.map (Value.int .i64))).fp k) ∧ ∀ (j : Nat) (x : Int), c[j]? = some x → ∃ b, a = some ⟨b, 0, none⟩ ∧ b ∈ G ∧ w.cell? ⟨b, j, none⟩ = some (.int .i64 x) := by
  by_cases h0 : n = 0
  ·refine ⟨[], by simp, fun j x hx => ?_⟩
   have := (List.getElem?_eq_some_iff.1 hx).1
   omega
  ·obtain ⟨g, hg, _, _⟩ := rowc_addr (show (rowc (.slice a n cap) n e 1 (c.map (Value.int .i64))).ok w from hok) (by omega)
   subst hg
   exact ⟨[g], fun k hk => by simp at hk; subst hk; rfl, fun j x hx => ⟨g, rfl, by simp, rowc_cell hok (by simp [hx])⟩⟩
 obtain ⟨G, hG1, hG2⟩ := hob
 refine ⟨F ++ G, h.join (fun k hk => ?_) (fun hc hd _ => ?_)⟩
 ·rcases List.mem_append.1 hk with hk | hk
  ·exact .inl hk
  ·exact .inr (hG1 k hk)
 ·obtain ⟨h1, h2⟩ := hc
  refine ⟨by simp [h1], fun i c' u hc' hu => ?_⟩
  by_cases hi : i < ss.length
  ·rw [List.getElem?_append_left hi] at hc'
   rw [List.getElem?_append_left (by omega)] at hu
   obtain ⟨a1, cap1, h3, h4⟩ := h2 i c' u hc' hu
   refine ⟨a1, cap1, h3, fun j x hx => ?_⟩
   obtain ⟨b, hb1, hb2, hb3⟩ := h4 j x hx
   exact ⟨b, hb1, List.mem_append_left _ hb2, hb3⟩
  ·rw [List.getElem?_append_right (by omega)] at hc'
   rw [List.getElem?_append_right (by omega)] at hu
   have h0 : i - ss.length = 0 := by
    have := (List.getElem?_eq_some_iff.1 hc').1
    simp at this; omega
   rw [h0] at hc'
   rw [h1, h0] at hu
   simp at hc' hu
   subst hc'; subst hu
   refine ⟨a, cap, by rw [hn], fun j x hx => ?_⟩
   obtain ⟨b, hb1, hb2, hb3⟩ := hG2 j x hx
   exact ⟨b, hb1, List.mem_append_right _ hb2, hb3⟩
end
end Go.Eng
namespace Go.Proofs.YtkgllhkhdjodeaaGreatDoor
open Go Go.Eng Go.Proofs
theorem RdC.of_row {w : World} {c : List Int} {a : Option Addr} {n cap : Nat} {e : TypeId} (hn : n = c.length) (h : (rowc (.slice a n cap) n e 1 (c.map (Value.int .i64))).ok w) : RdC w c a := fun j x hx => by
 have hlt := (List.getElem?_eq_some_iff.1 hx).1
 obtain ⟨g, hg, _, _⟩ := rowc_addr h (by omega)
 subst hg
 exact ⟨g, 0, rfl, by rw [Nat.zero_add]; exact rowc_cell h (by simp [hx])⟩
theorem RdC.news {w : World} {c : List Int} {a : Option Addr} (h : RdC w c a) (hc : c.length ≠ 0) : ∃ bx ox, a = some ⟨bx, ox, none⟩ ∧ ∀ j u, (c.map (Value.int .i64))[j]? = some u → w.cell? ⟨bx, ox + j, none⟩ = some u := by
 obtain ⟨x, hx⟩ : ∃ x, c[0]? = some x := ⟨c[0]'(by omega), List.getElem?_eq_getElem _⟩
 obtain ⟨b, off, ha, _⟩ := h 0 x hx
 refine ⟨b, off, ha, fun j u hu => ?_⟩
 rw [List.getElem?_map] at hu
 cases hj : c[j]? with
 | none => rw [hj] at hu; simp at hu
 | some y =>
  rw [hj] at hu; simp at hu; subst hu
  obtain ⟨b', off', ha', hc'⟩ := h j y hj
  rw [ha] at ha'
  injection ha' with ha'
  injection ha' with e1 e2
  subst e1; subst e2
  exact hc'
/-- The headers of clauses, as what is appended. -/
theorem RdLL.news {w : World} {ls : List (List Int)} {a : Option Addr} {us : List Value} (h : RdLL w ls a us) (hc : ls.length ≠ 0) : ∃ bx ox, a = some ⟨bx, ox, none⟩ ∧ ∀ j u, us[j]? = some u → w.cell? ⟨bx, ox + j, none⟩ = some u := by
 have hl := h.len
 obtain ⟨b, off, ha, _⟩ := h.hd 0 (us[0]'(by omega)) (List.getElem?_eq_getElem _)
 refine ⟨b, off, ha, fun j u hu => ?_⟩
 obtain ⟨b', off', ha', hc'⟩ := h.hd j u hu
 rw [ha] at ha'
 injection ha' with ha'
 injection ha' with e1 e2
 subst e1; subst e2
 exact hc'
theorem RdLL.one {w : World} {ls : List (List Int)} {a : Option Addr} {us : List Value} (h : RdLL w ls a us) : ∀ u ∈ us, u.oneCell' = true := by
 intro u hu
 obtain ⟨i, hi, he⟩ := List.getElem_of_mem hu
 have h1 : us[i]? = some u := by rw [List.getElem?_eq_getElem hi, he]
 have h2 : ls[i]? = some (ls[i]'(by rw [← h.len]; exact hi)) := List.getElem?_eq_getElem _
 obtain ⟨a1, c1, h3, _⟩ := h.rd i _ u h2 h1
 subst h3; rfl
/-- A row of headers, each of them readable. -/
theorem RdLL.of_row {w : World} {ls : List (List Int)} {aa : Option Addr} {hs : List Value} {n cap : Nat} (hn : n = ls.length) (hl : hs.length = ls.length) (h : (rowc (.slice aa n cap) n 46 1 hs).ok w)
  (hr : ∀ (i : Nat) (c : List Int) (u : Value), ls[i]? = some c → hs[i]? = some u → ∃ (a1 : Option Addr) (cap : Nat), u = Value.slice a1 c.length cap ∧ RdC w c a1) : RdLL w ls aa hs := by
 refine ⟨hl, fun i u hu => ?_, hr⟩
 have hlt := (List.getElem?_eq_some_iff.1 hu).1
 obtain ⟨g, hg, _, _⟩ := rowc_addr h (by omega)
 subst hg
 exact ⟨g, 0, rfl, by rw [Nat.zero_add]; exact rowc_cell h hu⟩
/-- Rows that the holder made. -/
theorem RdLL.made {w : World} {ls : List (List Int)} {aa : Option Addr} {vs : List Value} {F : List Nat} {n cap : Nat} (hn : n = ls.length) (h1 : (rowc (.slice aa n cap) n 46 1 vs).ok w) (h2 : (stepsC F vs ls).ok w) : RdLL w ls aa vs := by
 obtain ⟨hv1, hv2⟩ := (show vs.length = ls.length ∧ _ from h2)
 refine RdLL.of_row hn hv1 h1 fun i c u hc hu => ?_
 obtain ⟨a1, cap1, h3, h4⟩ := hv2 i c u hc hu
 refine ⟨a1, cap1, h3, fun j x hx => ?_⟩
 obtain ⟨b, hb1, _, hb3⟩ := h4 j x hx
 exact ⟨b, 0, hb1, by rw [Nat.zero_add]; exact hb3⟩
end Go.Proofs.YtkgllhkhdjodeaaGreatDoor

namespace Go.Proofs.YtkgllhkhdjodeaaGreatDoor
open Go Go.Eng Go.Proofs
theorem name_c (s : List UInt8) (w : World) : Pure Tryz.prog 14 [.string (str s)] w (.agg [Value.int .u8 3, .string (str s), .slice none 0 0].toArray) := by
 refine enter Tryz.func14 rfl Tryz.ntmps14 rfl (St.init _) ?_
 refine jN 3 ?_
 refine WL.alloc F.zero36 rfl (fun b2 => ?_)
 refine jN 13 ?_
 refine WQ.ret (rs := [.cell 2 36]) rfl (.cellN F.agg36 rfl jM rfl .nil) (fun w hS => ⟨rfl, hS.drop⟩)

def T1 : Tree := .mk 5 [] [.mk 3 [97] [], .mk 3 [98] [], .mk 5 [] [.mk 3 [99] [], .mk 3 [100] []]]
def T2 : Tree := .mk 5 [] [.mk 6 [] [.mk 3 [97] [], .mk 3 [98] []], .mk 4 [] [.mk 3 [99] []]]
theorem top1 : Fm.top [97, 32, 38, 32, 98, 32, 38, 32, 40, 99, 32, 38, 32, 100, 41] = (T1, 0, 0) := by kernel_rfl
theorem top2 : Fm.top [97, 32, 60, 61, 62, 32, 98, 32, 60, 61, 62, 32, 99] = (Fm.zeroTree, 8, 4) := by kernel_rfl
theorem print1 : printS T2 = [40, 97, 32, 124, 32, 98, 41, 32, 38, 32, 33, 99] := by kernel_rfl
theorem valid1 : Fm.validB T2 = true := by kernel_rfl
theorem sol1 : Fm.solveF 2 20 false [[1, 2], [-1]] [] [] = some ⟨true, 2, []⟩ := by kernel_rfl
theorem sol2 : Fm.solveF 1 20 false [[1], [-1]] [] [] = some ⟨false, 0, [[]]⟩ := by kernel_rfl
theorem may1 : Fm.mayE 2 [[1, 2], [-1]] = 0 := by kernel_rfl
theorem may2 : Fm.mayE 1 [[1], [-1]] = 0 := by kernel_rfl
/-- Two clauses that the caller laid. -/
theorem RdLL.two {w0 w : World} {O : List Nat} {C : List Chunk} {b1 b2 b3 : Nat} {c1 c2 : List Int} (hS : St w0 O C w) (h1 : pt b1 (c1.map (Value.int .i64)) 3 ∈ C) (h2 : pt b2 (c2.map (Value.int .i64)) 3 ∈ C)
  (h3 : pt b3 [.slice (some ⟨b1, 0, none⟩) c1.length c1.length, .slice (some ⟨b2, 0, none⟩) c2.length c2.length] 46 ∈ C) :
  RdLL w [c1, c2] (some ⟨b3, 0, none⟩) [.slice (some ⟨b1, 0, none⟩) c1.length c1.length, .slice (some ⟨b2, 0, none⟩) c2.length c2.length] := by
 refine ⟨rfl, fun i u hu => ⟨b3, 0, rfl, by rw [Nat.zero_add]; exact hS.cell h3 hu⟩, fun i c u hc hu => ?_⟩
 match i, hc, hu with
 | 0, hc, hu =>
  simp at hc hu
  subst hc; subst hu
  exact ⟨_, _, rfl, fun j x hx => ⟨b1, 0, rfl, by rw [Nat.zero_add]; exact hS.cell h1 (by simp [hx])⟩⟩
 | 1, hc, hu =>
  simp at hc hu
  subst hc; subst hu
  exact ⟨_, _, rfl, fun j x hx => ⟨b2, 0, rfl, by rw [Nat.zero_add]; exact hS.cell h2 (by simp [hx])⟩⟩
 | i + 2, hc, hu => simp at hc

theorem wakes_c (w : World) : Pure Tryz.prog 5 [] w (.bool true) := by
 refine enter Tryz.func5 rfl Tryz.ntmps5 rfl (St.init _) ?_
 refine jN 9 ?_
 refine jC (β := List Nat × Option Addr × Nat) (res := fun y => .tuple #[tv T1 y.2.1 y.2.2, .int .i64 0, .int .i64 0]) (cs := fun y => [own y.1 T1 (tv T1 y.2.1 y.2.2)]) F.fun12 rfl (fun w hS _ => (Parse_c [97, 32, 38, 32, 98, 32, 38, 32, 40, 99, 32, 38, 32, 100, 41] w).mono (fun e w2 h => ?_)) (fun y14 => ?_)
 ·rw [top1] at h
  exact h
 refine jN 9 ?_
 refine WL.alloc F.zero36 rfl (fun b1 => ?_)
 refine jN 11 ?_
 refine WL.callV F.fun14 rfl rfl (fun w _ => name_c [97] w) ?_
 refine jN 1 ?_
 refine WL.callV F.fun14 rfl rfl (fun w _ => name_c [98] w) ?_
 refine jN 1 ?_
 refine WL.buildSlice F.sl34 F.ez34 rfl rfl rfl rfl jB rfl (fun b21 => ?_)
 refine jN 3 ?_
 refine WL.callV F.fun14 rfl rfl (fun w _ => name_c [99] w) ?_
 refine jN 1 ?_
 refine WL.buildSlice F.sl34 F.ez34 rfl rfl rfl rfl jB rfl (fun b24 => ?_)
 refine jN 3 ?_
 refine WL.buildSlice F.sl34 F.ez34 rfl rfl rfl rfl jB rfl (fun b26 => ?_)
 refine jN 2 ?_
 refine WA.chunksE (C' := fun x : List Nat => [own x T2 (.agg #[.int .u8 5, .string (str []), .slice (some ⟨b26, 0, none⟩) 2 2]), pt b1 [.int .u8 T1.op, .string (str T1.name), .slice y14.2.1 T1.kids.length y14.2.2] 36]) (fun w hS => ?_) (fun G => ?_)
 ·have a1 := St.node0 3 [98] (St.node0 3 [97] hS)
  have a2 := St.pick a1 (c := own [] (Tree.mk 3 [97] []) (.agg #[.int .u8 3, .string (str [97]), .slice none 0 0])) jR
  obtain ⟨F1, a3⟩ := St.node2 6 (t1 := Tree.mk 3 [97] []) (t2 := Tree.mk 3 [98] []) (a1 := none) (a2 := none) (c1 := 0) (c2 := 0) (St.pick a2 (c := pt b21 [.int .u8 3, .string (str [97]), .slice none 0 0, .int .u8 3, .string (str [98]), .slice none 0 0] 36) jR)
  have a4 := St.node0 3 [99] a3
  obtain ⟨F2, a5⟩ := St.node1 4 (t1 := Tree.mk 3 [99] []) (a1 := none) (c1 := 0) (St.pick a4 (c := pt b24 [.int .u8 3, .string (str [99]), .slice none 0 0] 36) jR)
  have a6 := St.pick a5 (c := own F1 (.mk 6 [] [Tree.mk 3 [97] [], Tree.mk 3 [98] []]) (.agg #[.int .u8 6, .string (str []), .slice (some ⟨b21, 0, none⟩) 2 2])) jR
  obtain ⟨F3, a7⟩ := St.node2 5 (t1 := .mk 6 [] [Tree.mk 3 [97] [], Tree.mk 3 [98] []]) (t2 := .mk 4 [] [Tree.mk 3 [99] []]) (a1 := some ⟨b21, 0, none⟩) (a2 := some ⟨b24, 0, none⟩) (c1 := 2) (c2 := 1) (St.pick a6 (c := pt b26 [.int .u8 6, .string (str []), .slice (some ⟨b21, 0, none⟩) 2 2, .int .u8 4, .string (str []), .slice (some ⟨b24, 0, none⟩) 1 1] 36) jR)
  exact ⟨F3, ((St.pick (St.pick a7 (c := pt b1 [.int .u8 T1.op, .string (str T1.name), .slice y14.2.1 T1.kids.length y14.2.2] 36) jR) (c := own F3 T2 (.agg #[.int .u8 5, .string (str []), .slice (some ⟨b26, 0, none⟩) 2 2])) jR)).two2⟩
 refine jN 1 ?_
 refine WL.callV (v := .tuple #[.string (str [40, 97, 32, 124, 32, 98, 41, 32, 38, 32, 33, 99]), .int .i64 0]) F.fun13 rfl rfl (fun w hS => by have h9 := Print_c T2 G (some ⟨b26, 0, none⟩) 2 w (hS.ok _ (List.Mem.head _)).2; rw [print1, valid1] at h9; exact h9) ?_
 refine jN 15 ?_
 refine jC (β := List Nat × Option Addr × Nat) (res := fun y => .tuple #[tv Fm.zeroTree y.2.1 y.2.2, .int .i64 8, .int .i64 4]) (cs := fun y => [own y.1 Fm.zeroTree (tv Fm.zeroTree y.2.1 y.2.2)]) F.fun12 rfl (fun w hS _ => (Parse_c [97, 32, 60, 61, 62, 32, 98, 32, 60, 61, 62, 32, 99] w).mono (fun e w2 h => ?_)) (fun y32 => ?_)
 ·rw [top2] at h
  exact h
 refine jN 9 ?_
 refine WL.alloc F.zero36 rfl (fun b6 => ?_)
 refine jN 11 ?_
 refine WL.buildSlice F.sl46 F.ez46 rfl rfl rfl rfl jB rfl (fun b37 => ?_)
 refine jN 1 ?_
 refine WL.buildSlice F.sl46 F.ez46 rfl rfl rfl rfl jB rfl (fun b38 => ?_)
 refine jN 1 ?_
 refine WL.buildSlice F.sl23 F.ez23 rfl rfl rfl rfl jB rfl (fun b39 => ?_)
 refine jN 1 ?_
 refine jC (β := Option Addr × Nat) (res := fun x => .tuple #[.agg #[.bool true, .int .u32 2, .slice x.1 0 x.2], .int .i64 0]) (cs := fun _ => []) F.fun15 rfl (fun w hS _ => (Solve_c 2 [[1, 2], [-1]] (some ⟨b39, 0, none⟩) 2 _ (.inr ⟨_, _, rfl⟩) w (RdLL.two (b1 := b37) (b2 := b38) (b3 := b39) (c1 := [1, 2]) (c2 := [-1]) hS jM jM jM) 20 ⟨true, 2, []⟩ (by decide) (fun n hn _ => ?_)).mono (fun e w2 h => ?_)) (fun x40 => ?_)
 ·have : n = 2 := by omega
  subst this
  exact sol1
 ·rcases h with h | h
  ·exact absurd may1 h.1
  ·obtain ⟨_, x, F, vs, h1, h2⟩ := h
   exact ⟨x, h1, h2.sublist (List.nil_sublist _)⟩
 refine jN 7 ?_
 refine WL.alloc F.zero43 rfl (fun b9 => ?_)
 refine jN 9 ?_
 refine WL.buildSlice F.sl46 F.ez46 rfl rfl rfl rfl jB rfl (fun b44 => ?_)
 refine jN 1 ?_
 refine WL.buildSlice F.sl46 F.ez46 rfl rfl rfl rfl jB rfl (fun b45 => ?_)
 refine jN 1 ?_
 refine WL.buildSlice F.sl23 F.ez23 rfl rfl rfl rfl jB rfl (fun b46 => ?_)
 refine jN 1 ?_
 refine jC (β := Option Addr × Nat) (res := fun x => .tuple #[.agg #[.bool false, .int .u32 0, .slice x.1 1 x.2], .int .i64 0]) (cs := fun _ => []) F.fun15 rfl (fun w hS _ => (Solve_c 1 [[1], [-1]] (some ⟨b46, 0, none⟩) 2 _ (.inr ⟨_, _, rfl⟩) w (RdLL.two (b1 := b44) (b2 := b45) (b3 := b46) (c1 := [1]) (c2 := [-1]) hS jM jM jM) 20 ⟨false, 0, [[]]⟩ (by decide) (fun n hn _ => ?_)).mono (fun e w2 h => ?_)) (fun x47 => ?_)
 ·have : n = 1 := by omega
  subst this
  exact sol2
 ·rcases h with h | h
  ·exact absurd may2 h.1
  ·obtain ⟨_, x, F, vs, h1, h2⟩ := h
   exact ⟨x, h1, h2.sublist (List.nil_sublist _)⟩
 refine jN 7 ?_
 refine WL.alloc F.zero43 rfl (fun b11 => ?_)
 refine jN 14 ?_
 refine WA.splitB (i := 52) rfl (fun g52 => ?_) (fun g52 => ?_)
 ·refine jN 10 ?_
  refine WA.splitB (i := 56) rfl (fun g56 => ?_) (fun g56 => ?_)
  ·refine jN 13 ?_
   refine WA.splitB (i := 61) rfl (fun g61 => ?_) (fun g61 => ?_)
   ·refine jN 16 ?_
    refine WA.splitB (i := 67) rfl (fun g67 => ?_) (fun g67 => ?_)
    ·refine jN 10 ?_
     refine WA.splitB (i := 71) rfl (fun g71 => ?_) (fun g71 => ?_)
     ·refine jN 10 ?_
      refine WA.splitB (i := 75) rfl (fun g75 => ?_) (fun g75 => ?_)
      ·refine jN 10 ?_
       refine WA.splitB (i := 79) rfl (fun g79 => ?_) (fun g79 => ?_)
       ·refine jN 10 ?_
        refine WA.splitB (i := 83) rfl (fun g83 => ?_) (fun g83 => ?_)
        ·refine jN 10 ?_
         refine WA.splitB (i := 87) rfl (fun g87 => ?_) (fun g87 => ?_)
         ·refine jN 10 ?_
          refine WA.splitB (i := 91) rfl (fun g91 => ?_) (fun g91 => ?_)
          ·refine jN 13 ?_
           refine WA.splitB (i := 96) rfl (fun g96 => ?_) (fun g96 => ?_)
           ·refine jN 10 ?_
            refine WA.splitB (i := 100) rfl (fun g100 => ?_) (fun g100 => ?_)
            ·refine jN 13 ?_
             refine WA.splitB (i := 105) rfl (fun g105 => ?_) (fun g105 => ?_)
             ·refine jN 19 ?_
              exact WQ.ret (rs := [.tmp 0]) rfl (.tmp rfl .nil) (fun w hS => ⟨rfl, hS.sublist (List.nil_sublist _)⟩)
             ·exact absurd g105 (by decide)
            ·exact absurd g100 (by decide)
           ·exact absurd g96 (by decide)
          ·exact absurd g91 (by decide)
         ·exact absurd g87 (by decide)
        ·exact absurd g83 (by decide)
       ·exact absurd g79 (by decide)
      ·exact absurd g75 (by decide)
     ·exact absurd g71 (by decide)
    ·exact absurd g67 (by decide)
   ·exact absurd g61 (by decide)
  ·exact absurd g56 (by decide)
 ·exact absurd g52 (by decide)

end Go.Proofs.YtkgllhkhdjodeaaGreatDoor

namespace Go.Proofs.YtkgllhkhdjodeaaGreatDoor
open Go Go.Eng Go.Proofs
theorem rfits_c (n : Int) (l : List Int) (a : Option Addr) (cap : Nat) (hn : -1000 ≤ n ∧ n ≤ 1000) (hlen : l.length ≤ 1099511627776) (w : World) (hr : RdC w l a) : Pure Tryz.prog 24 [.int .i64 n, .slice a l.length cap] w (.bool (Fm.fitsB n l)) := by
 refine enter Tryz.func24 rfl Tryz.ntmps24 rfl (St.init _) ?_
 refine jN 14 ?_
 refine WC.loop (α := Nat) (fun i => i ≤ l.length ∧ (l.take i).all (Fm.litB n) = true) (fun i => [(0, .int .i64 n), (1, .slice a l.length cap), (5, .int .i64 (i : Int))]) (fun _ => []) (fun i => l.length - i) (0) ?_ ?_ ?_ ?_
 ·exact ⟨Nat.zero_le _, rfl⟩
 ·exact ⟨rfl, rfl, rfl, trivial⟩
 ·rfl
 rintro i ⟨hi, hal⟩
 refine jN 13 ?_
 refine WC.cond rfl (fun h9 => ?_) (fun h9 => ?_)
 ·have hlt : i < l.length := by simpa using h9
  obtain ⟨y, hx⟩ : ∃ y, l[i]? = some y := ⟨_, List.getElem?_eq_getElem hlt⟩
  obtain ⟨b, off, rfl, hcell⟩ := hr i y hx
  refine jN 5 ?_
  refine WC.cutF [(33, .bool (!Fm.litB n y)), (0, .int .i64 n), (1, .slice (some ⟨b, off, none⟩) l.length cap), (5, .int .i64 (i : Int))] (fun Q' hQ => ?_) ?_
  ·refine jN 6 ?_
   refine WL.indexAddr F.sl46 rfl rfl rfl hlt ?_
   refine jN 1 ?_
   refine WL.load1 F.one3 rfl rfl (v := .int .i64 y) (fun w hS => hS.oldc (by simpa using hcell) (by simp)) ?_
   refine jN 4 ?_
   refine WA.splitB (i := 17) rfl (fun g17 => ?_) (fun g17 => ?_)
   ·refine jN 33 ?_
    refine WQ.byCut hQ (subF_bool ?_ ⟨rfl, rfl, rfl, trivial⟩ rfl)
    unfold Fm.litB
    first | (simp_all; done) | (rw [Bool.eq_iff_iff]; simp at *; omega) | (simp_all; omega)
   ·refine jN 8 ?_
    refine WL.indexAddr F.sl46 rfl rfl rfl hlt ?_
    refine jN 2 ?_
    refine WL.load1 F.one3 rfl rfl (v := .int .i64 y) (fun w hS => hS.oldc (by simpa using hcell) (by simp)) ?_
    refine jN 5 ?_
    refine WL.negI rfl rfl (by omega) ?_
    refine jN 7 ?_
    refine WA.splitB (i := 26) rfl (fun g26 => ?_) (fun g26 => ?_)
    ·refine jN 15 ?_
     refine WQ.byCut hQ (subF_bool ?_ ⟨rfl, rfl, rfl, trivial⟩ rfl)
     unfold Fm.litB
     first | (simp_all; done) | (rw [Bool.eq_iff_iff]; simp at *; omega) | (simp_all; omega)
    ·refine jN 8 ?_
     refine WL.indexAddr F.sl46 rfl rfl rfl hlt ?_
     refine jN 2 ?_
     refine WL.load1 F.one3 rfl rfl (v := .int .i64 y) (fun w hS => hS.oldc (by simpa using hcell) (by simp)) ?_
     refine jN 9 ?_
     refine WQ.byCut hQ (subF_bool ?_ ⟨rfl, rfl, rfl, trivial⟩ rfl)
     unfold Fm.litB
     first | (simp_all; done) | (rw [Bool.eq_iff_iff]; simp at *; omega) | (simp_all; omega)
  refine jN 1 ?_
  refine WC.cond rfl (fun h33 => ?_) (fun h33 => ?_)
  ·refine jN 12 ?_
   refine WQ.ret (rs := [.tmp 4]) rfl (.tmp rfl .nil) (fun w hS => ⟨?_, hS⟩)
   have h9 : l.all (Fm.litB n) = false := by rw [List.all_eq_false]; exact ⟨y, List.mem_of_getElem? hx, by simpa using h33⟩
   simp [tup, Fm.fitsB, h9]
  ·refine jN 11 ?_
   refine WQ.back (i + 1) ?_ ?_ ?_ ?_
   ·exact ⟨by omega, by rw [List.take_add_one, hx]; simp only [Option.toList, List.all_append, hal, List.all_cons, List.all_nil, Bool.true_and, Bool.and_true]; simpa using h33⟩
   ·omega
   ·exact ⟨rfl, rfl, rfl, trivial⟩
   ·rfl
 ·have hie : i = l.length := by simp at h9; omega
  subst hie
  rw [List.take_length] at hal
  refine jN 18 ?_
  refine WQ.ret (rs := [.tmp 4]) rfl (.tmp rfl .nil) (fun w hS => ⟨?_, hS⟩)
  have h9 : decide ((l.length : Int) ≤ 64) = decide (l.length ≤ 64) := by rw [Bool.eq_iff_iff]; simp; omega
  simp [tup, Fm.fitsB, hal, h9]

theorem rclauses_c (n : Int) (ls : List (List Int)) (a : Option Addr) (cap : Nat) (us : List Value) (hll : ls.length ≤ 1099511627776) (hlens : ∀ c ∈ ls, c.length ≤ 1099511627776) (w : World) (hr : RdLL w ls a us) : Pure Tryz.prog 10 [.int .i64 n, .slice a ls.length cap] w (.int .i64 (Fm.mayE n ls)) := by
 refine enter Tryz.func10 rfl Tryz.ntmps10 rfl (St.init _) ?_
 refine jN 15 ?_
 refine WA.splitB (i := 8) rfl (fun h8 => ?_) (fun h8 => ?_)
 ·have hm : Fm.mayE n ls = 3 := by (unfold Fm.mayE; rw [if_pos]; left; simpa using h8)
  refine jN 17 ?_
  exact WQ.ret (rs := [.tmp 4]) rfl (.tmp rfl .nil) (fun w hS => ⟨by rw [hm]; rfl, hS⟩)
 ·refine jN 10 ?_
  refine WC.cond rfl (fun h11 => ?_) (fun h11 => ?_)
  ·have hm : Fm.mayE n ls = 3 := by (first | assumption | (unfold Fm.mayE; rw [if_pos]; right; simpa using h11))
   refine jN 8 ?_
   exact WQ.ret (rs := [.tmp 4]) rfl (.tmp rfl .nil) (fun w hS => ⟨by rw [hm]; rfl, hS⟩)
  ·have hn0 : ¬ (n < 0 ∨ 24 < n) := by (simp at h8 h11; omega)
   have hnb : -1000 ≤ n ∧ n ≤ 1000 := by omega
   refine jN 10 ?_
   refine WC.loop (α := Nat) (fun i => i ≤ ls.length ∧ (ls.take i).all (Fm.fitsB n) = true) (fun i => [(0, .int .i64 n), (1, .slice a ls.length cap), (5, .int .i64 (i : Int))]) (fun _ => []) (fun i => ls.length - i) (0) ?_ ?_ ?_ ?_
   ·exact ⟨Nat.zero_le _, rfl⟩
   ·exact ⟨rfl, rfl, rfl, trivial⟩
   ·rfl
   rintro i ⟨hi, hno⟩
   refine jN 13 ?_
   refine WC.cond rfl (fun h15 => ?_) (fun h15 => ?_)
   ·have hlt : i < ls.length := by simpa using h15
    obtain ⟨c, b, off, a1, cap1, hc, rfl, hcell, hrc⟩ := hr.at hlt
    have hcl := hlens c (List.mem_of_getElem? hc)
    refine jN 13 ?_
    refine WL.indexAddr F.sl23 rfl rfl rfl hlt ?_
    refine jN 1 ?_
    refine WL.load1 F.one46 rfl rfl (v := .slice a1 c.length cap1) (fun w hS => hS.oldc (by simpa using hcell) (by simp)) ?_
    refine jN 1 ?_
    refine WL.callV F.fun24 rfl rfl (fun w hS => rfits_c n c a1 cap1 hnb hcl w (hrc.next hS)) ?_
    refine jN 4 ?_
    refine WC.cond rfl (fun h24 => ?_) (fun h24 => ?_)
    ·have hm : Fm.mayE n ls = 2 := by
      unfold Fm.mayE; rw [if_neg hn0]; split
      ·rfl
      ·rw [if_neg]
       rw [Bool.not_eq_true, List.all_eq_false]
       exact ⟨c, List.mem_of_getElem? hc, by simpa using h24⟩
     refine jN 12 ?_
     exact WQ.ret (rs := [.tmp 4]) rfl (.tmp rfl .nil) (fun w hS => ⟨by rw [hm]; rfl, hS⟩)
    ·refine jN 11 ?_
     refine WQ.back (i + 1) ?_ ?_ ?_ ?_
     ·exact ⟨by omega, by rw [List.take_add_one, hc]; simp only [Option.toList, List.all_append, hno, List.all_cons, List.all_nil]; simpa using h24⟩
     ·omega
     ·exact ⟨rfl, rfl, rfl, trivial⟩
     ·rfl
   ·have hie : i = ls.length := by simp at h15; omega
    subst hie
    rw [List.take_length] at hno
    refine jN 16 ?_
    refine WC.cond rfl (fun h27 => ?_) (fun h27 => ?_)
    ·have hm : Fm.mayE n ls = 2 := by (unfold Fm.mayE; rw [if_neg hn0, if_pos]; simp at h27; omega)
     refine jN 8 ?_
     exact WQ.ret (rs := [.tmp 4]) rfl (.tmp rfl .nil) (fun w hS => ⟨by rw [hm]; rfl, hS⟩)
    ·have hm : Fm.mayE n ls = 0 := by (unfold Fm.mayE; rw [if_neg hn0, if_neg (by simp at h27; omega), if_pos hno])
     refine jN 9 ?_
     exact WQ.ret (rs := [.tmp 4]) rfl (.tmp rfl .nil) (fun w hS => ⟨by rw [hm]; rfl, hS⟩)

end Go.Proofs.YtkgllhkhdjodeaaGreatDoor

namespace Go.Proofs.YtkgllhkhdjodeaaGreatDoor
open Go Go.Eng Go.Proofs
structure C1 where
 f : Nat
 out : List Int
 ad : Option Addr
 ac : Nat
structure C2 where
 i : Nat
 out : List Int
 ad : Option Addr
 ac : Nat
structure C3 where
 k : Nat
 out : List Int
 ad : Option Addr
 ac : Nat

end Go.Proofs.YtkgllhkhdjodeaaGreatDoor

namespace Go.Proofs.YtkgllhkhdjodeaaGreatDoor
open Go Go.Eng Go.Proofs
def refuted (ls : List (List Int)) (c : List Int) : Bool := match Fm.consF 66 ls (c.map (fun x => -x)) with | some o => Fm.conflictB ls o | none => false
def verF : List (List Int) → List (List Int) → Nat → Int
 | _, [], i => i
 | ls, c :: ps, i => if refuted ls c then (if c.isEmpty then -1 else verF (ls ++ [c]) ps (i + 1)) else i
def verE (n : Int) (ls ps : List (List Int)) : Int × Int := if Fm.mayE n ls = 0 then (if ps.all (Fm.fitsB n) then (verF ls ps 0, 0) else (0, 2)) else (0, Fm.mayE n ls)
theorem any_take {α : Type} {p : α → Bool} {l : List α} {i : Nat} {x : α} (hx : l[i]? = some x) (h : (l.take i).any p = false) (hp : p x = false) : (l.take (i + 1)).any p = false := by
 rw [List.take_add_one, hx, List.any_append, h, Bool.false_or]
 simp [hp]
theorem any_at {α : Type} {p : α → Bool} {l : List α} {i : Nat} {x : α} (hx : l[i]? = some x) (hp : p x = true) : l.any p = true := List.any_eq_true.2 ⟨x, List.mem_of_getElem? hx, hp⟩
end Go.Proofs.YtkgllhkhdjodeaaGreatDoor

namespace Go.Proofs.YtkgllhkhdjodeaaGreatDoor
open Go Go.Eng Go.Proofs
theorem RdLL.shape {w : World} {ls : List (List Int)} {a : Option Addr} {us : List Value} (h : RdLL w ls a us) (hi : 0 < ls.length) : ∃ b off, a = some ⟨b, off, none⟩ := by
 obtain ⟨c, b, off, _, _, _, ha, _⟩ := h.at hi
 exact ⟨b, off, ha⟩
structure V2 where
 i : Nat
 N : Nat
 hs : List Value
 aa : Option Addr
 ca : Nat

end Go.Proofs.YtkgllhkhdjodeaaGreatDoor

namespace Go.Proofs.YtkgllhkhdjodeaaGreatDoor
open Go Go.Eng Go.Proofs
def largeB (ls : List (List Int)) : Bool := decide (40 < ls.length) || ls.any (fun c => decide (80 < c.length))
theorem large_no {ls : List (List Int)} (h : largeB ls = false) : ls.length ≤ 40 ∧ ∀ c ∈ ls, c.length ≤ 80 := by
 simp only [largeB, Bool.or_eq_false_iff, decide_eq_false_iff_not, List.any_eq_false, decide_eq_true_eq] at h
 exact ⟨by omega, fun c hc => by have := h.2 c hc; omega⟩

theorem Large_c (ls : List (List Int)) (a : Option Addr) (cap : Nat) (us : List Value) (w : World) (hr : RdLL w ls a us) : Pure Tryz.prog 9 [.slice a ls.length cap] w (.bool (largeB ls)) := by
 refine enter Tryz.func9 rfl Tryz.ntmps9 rfl (St.init _) ?_
 refine jN 17 ?_
 refine WC.cond rfl (fun h6 => ?_) (fun h6 => ?_)
 ·have hres : largeB ls = true := by
   have h9 : decide (40 < ls.length) = true := by simp at h6 ⊢; omega
   unfold largeB; rw [h9]; rfl
  refine jN 8 ?_
  exact WQ.ret (rs := [.tmp 2]) rfl (.tmp rfl .nil) (fun w hS => ⟨by rw [hres]; rfl, hS⟩)
 ·have hs40 : decide (40 < ls.length) = false := by simp at h6 ⊢; omega
  have hl40 : ls.length ≤ 40 := by simpa using hs40
  refine jN 10 ?_
  refine WC.loop (α := Nat) (fun i => i ≤ ls.length ∧ (ls.take i).any (fun c => decide (80 < c.length)) = false) (fun i => [(0, .slice a ls.length cap), (3, .int .i64 (i : Int))]) (fun _ => []) (fun i => ls.length - i) (0) ?_ ?_ ?_ ?_
  ·exact ⟨Nat.zero_le _, rfl⟩
  ·exact ⟨rfl, rfl, trivial⟩
  ·rfl
  rintro i ⟨hi, hno⟩
  refine jN 13 ?_
  refine WC.cond rfl (fun h10 => ?_) (fun h10 => ?_)
  ·have hlt : i < ls.length := by simpa using h10
   obtain ⟨c, b, off, a1, cap1, hc, rfl, hcell, hrc⟩ := hr.at hlt
   refine jN 11 ?_
   refine WL.indexAddr F.sl23 rfl rfl rfl hlt ?_
   refine jN 1 ?_
   refine WL.load1 F.one46 rfl rfl (v := .slice a1 c.length cap1) (fun w hS => hS.oldc (by simpa using hcell) (by simp)) ?_
   refine jN 6 ?_
   refine WC.cond rfl (fun h18 => ?_) (fun h18 => ?_)
   ·have hres : largeB ls = true := by
     have h9 : ls.any (fun c => decide (80 < c.length)) = true := any_at hc (by simp at h18 ⊢; omega)
     unfold largeB; rw [h9, Bool.or_true]
    refine jN 12 ?_
    exact WQ.ret (rs := [.tmp 2]) rfl (.tmp rfl .nil) (fun w hS => ⟨by rw [hres]; rfl, hS⟩)
   ·refine jN 11 ?_
    refine WQ.back (i + 1) ?_ ?_ ?_ ?_
    ·exact ⟨by omega, any_take hc hno (by simp at h18 ⊢; omega)⟩
    ·omega
    ·exact ⟨rfl, rfl, trivial⟩
    ·rfl
  ·have hie : i = ls.length := by simp at h10; omega
   subst hie
   rw [List.take_length] at hno
   have hres : largeB ls = false := by unfold largeB; rw [hs40, hno]; rfl
   refine jN 12 ?_
   exact WQ.ret (rs := [.tmp 2]) rfl (.tmp rfl .nil) (fun w hS => ⟨by rw [hres]; rfl, hS⟩)

structure RW where
 i : Nat
 G : List Nat
 vs : List Value
 ss : List (List Int)
 aa : Option Addr
 ca : Nat
def Shaped (a : Option Addr) : Prop := a = none ∨ ∃ b off, a = some ⟨b, off, none⟩
abbrev RowsX := { x : (List Nat × List Value) × Option Addr × Nat // Shaped x.2.1 }
def rowsC (x : RowsX) (ls : List (List Int)) : List Chunk := [rowc (.slice x.1.2.1 ls.length x.1.2.2) ls.length 46 1 x.1.1.2, stepsC x.1.1.1 x.1.1.2 ls]

theorem Alike_c (l : List Int) (a a2 : Option Addr) (cap cap2 : Nat) (hll : l.length ≤ 1099511627776) (w : World) (hr : RdC w l a) (hr2 : RdC w l a2) : Pure Tryz.prog 23 [.slice a l.length cap, .slice a2 l.length cap2] w (.bool true) := by
 refine enter Tryz.func23 rfl Tryz.ntmps23 rfl (St.init _) ?_
 refine jN 21 ?_
 refine WC.cond rfl (fun h10 => ?_) (fun h10 => ?_)
 ·simp at h10
 ·refine jN 10 ?_
  refine WC.loop (α := Nat) (fun i => i ≤ l.length) (fun i => [(0, .slice a l.length cap), (1, .slice a2 l.length cap2), (5, .int .i64 (i : Int))]) (fun _ => []) (fun i => l.length - i) (0) ?_ ?_ ?_ ?_
  ·exact Nat.zero_le _
  ·exact ⟨rfl, rfl, rfl, trivial⟩
  ·rfl
  rintro i hi
  refine jN 13 ?_
  refine WC.cond rfl (fun h14 => ?_) (fun h14 => ?_)
  ·have hlt : i < l.length := by simpa using h14
   obtain ⟨x, hx⟩ : ∃ y, l[i]? = some y := ⟨_, List.getElem?_eq_getElem hlt⟩
   obtain ⟨b, off, rfl, hcell⟩ := hr i x hx
   obtain ⟨b2, off2, rfl, hcell2⟩ := hr2 i x hx
   refine jN 5 ?_
   refine WC.drawsL (by kernel_rfl) (FactsOk.cons (ds := []) (LoadOk.by (Y := fun w => w.cell? ⟨b, off + i * 1, none⟩ = some (.int .i64 x)) (fun w hS => by rw [Nat.mul_one]; exact hS.oldc hcell (by simp))) (FactsOk.cons (ds := []) (LoadOk.by (Y := fun w => w.cell? ⟨b2, off2 + i * 1, none⟩ = some (.int .i64 x)) (fun w hS => by rw [Nat.mul_one]; exact hS.oldc hcell2 (by simp))) (FactsOk.nil))) ?_
   refine jT 0 rfl (Yl.move rfl) ?_
   refine jT 1 rfl (Yl.move rfl) ?_
   refine jT 2 rfl (Yl.indexAddr F.sl46 rfl rfl hlt) ?_
   refine jF 3 0 rfl rfl (Yl.load1 F.one3 rfl) ?_
   refine jT 4 rfl (Yl.move rfl) ?_
   refine jT 5 rfl (Yl.move rfl) ?_
   refine jT 6 rfl (Yl.indexAddr F.sl46 rfl rfl hlt) ?_
   refine jF 7 1 rfl rfl (Yl.load1 F.one3 rfl) ?_
   refine jT 8 rfl (Yl.neI rfl rfl) ?_
   refine jD ?_
   refine jN 1 ?_
   refine WC.cond rfl (fun h25 => ?_) (fun h25 => ?_)
   ·simp at h25
   ·refine jN 11 ?_
    refine WQ.back (i + 1) ?_ ?_ ?_ ?_
    ·exact (by omega)
    ·omega
    ·exact ⟨rfl, rfl, rfl, trivial⟩
    ·rfl
  ·refine jN 12 ?_
   exact WQ.ret (rs := [.tmp 4]) rfl (.tmp rfl .nil) (fun w hS => ⟨rfl, hS⟩)

theorem lsame_c (ls : List (List Int)) (a a2 : Option Addr) (cap cap2 : Nat) (us us2 : List Value) (hll : ls.length ≤ 1000000) (hlens : ∀ c ∈ ls, c.length ≤ 1000) (w : World) (hr : RdLL w ls a us) (hr2 : RdLL w ls a2 us2) : Pure Tryz.prog 8 [.slice a ls.length cap, .slice a2 ls.length cap2] w (.bool true) := by
 refine enter Tryz.func8 rfl Tryz.ntmps8 rfl (St.init _) ?_
 refine jN 21 ?_
 refine WC.cond rfl (fun h10 => ?_) (fun h10 => ?_)
 ·simp at h10
 ·refine jN 10 ?_
  refine WC.loop (α := Nat) (fun i => i ≤ ls.length) (fun i => [(0, .slice a ls.length cap), (1, .slice a2 ls.length cap2), (5, .int .i64 (i : Int))]) (fun _ => []) (fun i => ls.length - i) (0) ?_ ?_ ?_ ?_
  ·exact Nat.zero_le _
  ·exact ⟨rfl, rfl, rfl, trivial⟩
  ·rfl
  rintro i hi
  refine jN 13 ?_
  refine WC.cond rfl (fun h14 => ?_) (fun h14 => ?_)
  ·have hlt : i < ls.length := by simpa using h14
   obtain ⟨c, b, off, a1, cap1, hc, rfl, hcell, hrc⟩ := hr.at hlt
   obtain ⟨c2, b2, off2, a3, cap3, hc2, rfl, hcell2, hrc2⟩ := hr2.at hlt
   obtain rfl : c = c2 := by rw [hc] at hc2; injection hc2
   refine jN 5 ?_
   refine WC.drawsL (by kernel_rfl) (FactsOk.cons (ds := [8]) (LoadOk.by (Y := fun w => w.cell? ⟨b, off + i * 1, none⟩ = some (.slice a1 c.length cap1)) (fun w hS => by rw [Nat.mul_one]; exact hS.oldc hcell (by simp))) (FactsOk.cons (ds := [8]) (LoadOk.by (Y := fun w => w.cell? ⟨b2, off2 + i * 1, none⟩ = some (.slice a3 c.length cap3)) (fun w hS => by rw [Nat.mul_one]; exact hS.oldc hcell2 (by simp))) (FactsOk.nil))) ?_
   refine jT 0 rfl (Yl.move rfl) ?_
   refine jT 1 rfl (Yl.move rfl) ?_
   refine jT 2 rfl (Yl.indexAddr F.sl23 rfl rfl hlt) ?_
   refine jF 3 0 rfl rfl (Yl.load1 F.one46 rfl) ?_
   refine jT 4 rfl (Yl.move rfl) ?_
   refine jT 5 rfl (Yl.move rfl) ?_
   refine jT 6 rfl (Yl.indexAddr F.sl23 rfl rfl hlt) ?_
   refine jF 7 1 rfl rfl (Yl.load1 F.one46 rfl) ?_
   refine jA 8 rfl ?_
   refine WL.callV F.fun23 rfl rfl (fun w hS => Alike_c c a1 a3 cap1 cap3 (by have := hlens c (List.mem_of_getElem? hc); omega) w (hrc.next hS) (hrc2.next hS)) ?_
   refine jG ?_
   refine jT 9 rfl (Yl.not rfl) ?_
   refine jD ?_
   refine jN 1 ?_
   refine WC.cond rfl (fun h26 => ?_) (fun h26 => ?_)
   ·simp at h26
   ·refine jN 11 ?_
    refine WQ.back (i + 1) ?_ ?_ ?_ ?_
    ·exact (by omega)
    ·omega
    ·exact ⟨rfl, rfl, rfl, trivial⟩
    ·rfl
  ·refine jN 12 ?_
   exact WQ.ret (rs := [.tmp 4]) rfl (.tmp rfl .nil) (fun w hS => ⟨rfl, hS⟩)

end Go.Proofs.YtkgllhkhdjodeaaGreatDoor

namespace Go.Proofs
open Go.Shelf
def Tryz.laysM171_ren : Go.Shelf.Ren := ⟨fun | 171 => 27 | 243 => 49 | 246 => 69 | 283 => 82 | 284 => 83 | 285 => 84 | 286 => 85 | 129 => 100 | 317 => 99 | 318 => 101 | 319 => 102 | 320 => 103 | 337 => 110 | 338 => 111 | n => n, fun | 3 => 3 | 9 => 9 | 2 => 2 | 4 => 4 | 171 => 115 | 0 => 0 | 53 => 116 | 37 => 58 | 5 => 5 | 173 => 119 | 212 => 133 | 51 => 41 | 20 => 20 | 213 => 134 | 46 => 125 | 232 => 155 | 233 => 156 | n => n, fun | 17 => 1 | 18 => 6 | 19 => 7 | n => n⟩
theorem Tryz.laysM171 : Go.Proofs.LaysM.n171 Tryz.prog Tryz.laysM171_ren := {
 mixed := by kernel_rfl
 f129 := Tryz.func100.trans (congrArg some (by kernel_rfl))
 f171 := Tryz.func27.trans (congrArg some (by kernel_rfl))
 f243 := Tryz.func49.trans (congrArg some (by kernel_rfl))
 f246 := Tryz.func69.trans (congrArg some (by kernel_rfl))
 f283 := Tryz.func82.trans (congrArg some (by kernel_rfl))
 f284 := Tryz.func83.trans (congrArg some (by kernel_rfl))
 f285 := Tryz.func84.trans (congrArg some (by kernel_rfl))
 f286 := Tryz.func85.trans (congrArg some (by kernel_rfl))
 f317 := Tryz.func99.trans (congrArg some (by kernel_rfl))
 f318 := Tryz.func101.trans (congrArg some (by kernel_rfl))
 f319 := Tryz.func102.trans (congrArg some (by kernel_rfl))
 f320 := Tryz.func103.trans (congrArg some (by kernel_rfl))
 f337 := Tryz.func110.trans (congrArg some (by kernel_rfl))
 f338 := Tryz.func111.trans (congrArg some (by kernel_rfl))
 t0 := Tryz.underlying0
 a0 := Tryz.isAgg0
 z0 := Tryz.sizeOf0
 v0 := Tryz.zeroValue0
 t2 := Tryz.underlying2
 a2 := Tryz.isAgg2
 z2 := Tryz.sizeOf2
 v2 := Tryz.zeroValue2
 t3 := Tryz.underlying3
 a3 := Tryz.isAgg3
 z3 := Tryz.sizeOf3
 v3 := Tryz.zeroValue3
 t4 := Tryz.underlying4
 a4 := Tryz.isAgg4
 z4 := Tryz.sizeOf4
 v4 := Tryz.zeroValue4
 t5 := Tryz.underlying5
 a5 := Tryz.isAgg5
 z5 := Tryz.sizeOf5
 v5 := Tryz.zeroValue5
 t9 := Tryz.underlying9
 a9 := Tryz.isAgg9
 z9 := Tryz.sizeOf9
 v9 := Tryz.zeroValue9
 t20 := Tryz.underlying20
 a20 := Tryz.isAgg20
 z20 := Tryz.sizeOf20
 v20 := Tryz.zeroValue20
 t37 := Tryz.underlying58
 a37 := Tryz.isAgg58
 z37 := Tryz.sizeOf58
 v37 := Tryz.zeroValue58
 t46 := Tryz.underlying125
 a46 := Tryz.isAgg125
 z46 := Tryz.sizeOf125
 v46 := Tryz.zeroValue125
 t51 := Tryz.underlying41
 a51 := Tryz.isAgg41
 z51 := Tryz.sizeOf41
 v51 := Tryz.zeroValue41
 t53 := Tryz.underlying116
 a53 := Tryz.isAgg116
 z53 := Tryz.sizeOf116
 v53 := Tryz.zeroValue116
 t171 := Tryz.underlying115
 a171 := Tryz.isAgg115
 z171 := Tryz.sizeOf115
 v171 := Tryz.zeroValue115
 t173 := Tryz.underlying119
 a173 := Tryz.isAgg119
 z173 := Tryz.sizeOf119
 v173 := Tryz.zeroValue119
 t212 := Tryz.underlying133
 a212 := Tryz.isAgg133
 z212 := Tryz.sizeOf133
 v212 := Tryz.zeroValue133
 t213 := Tryz.underlying134
 a213 := Tryz.isAgg134
 z213 := Tryz.sizeOf134
 t232 := Tryz.underlying155
 a232 := Tryz.isAgg155
 z232 := Tryz.sizeOf155
 v232 := Tryz.zeroValue155
 t233 := Tryz.underlying156
 a233 := Tryz.isAgg156
 z233 := Tryz.sizeOf156
 v233 := Tryz.zeroValue156
 g17 := by kernel_rfl
 g18 := by kernel_rfl
 g19 := by kernel_rfl
 i0 := by kernel_rfl
 i2 := by kernel_rfl
 i3 := by kernel_rfl
 i4 := by kernel_rfl
 i5 := by kernel_rfl
 i9 := by kernel_rfl
 i20 := by kernel_rfl
 i37 := by kernel_rfl
 i46 := by kernel_rfl
 i51 := by kernel_rfl
 i53 := by kernel_rfl
 i171 := by kernel_rfl
 i173 := by kernel_rfl
 i212 := by kernel_rfl
 i232 := by kernel_rfl
 i233 := by kernel_rfl
 m17 := by kernel_rfl
 m18 := by kernel_rfl
 m19 := by kernel_rfl }
theorem Tryz.strconv_Itoa (n : Int) (h0 : -9223372036854775808 ≤ n) (h1 : n ≤ 9223372036854775807) (w : World) (htab : Lib.TabIs Tryz.prog w "internal/strconv.uint64pow10" .u64 Lib.pow10Tab) :
  Calls Tryz.prog 27 #[.int .i64 n] w fun e w' => e = .returned (.string ⟨(Lib.itoa n).toArray⟩) ∧ ∃ k os, w' = Go.Sort.grow (w.drewN k) os := Any.strconv_Itoa Tryz.laysM171 n h0 h1 w htab
end Go.Proofs
namespace Go.Proofs.YtkgllhkhdjodeaaGreatDoor
open Go Go.Eng Go.Proofs
/-- The library's table of the powers of ten lies as it was laid. -/
def Tab (w : World) : Prop := Lib.TabIs Tryz.prog w "internal/strconv.uint64pow10" .u64 Lib.pow10Tab
theorem Tab.next {w0 w : World} {C : List Chunk} (h : Tab w0) (hS : St w0 [] C w) : Tab w := by
 unfold Tab Lib.TabIs World.var? at h ⊢
 cases hg : Tryz.prog.globalNamed "internal/strconv.uint64pow10" with
 | none => rw [hg] at h; cases h
 | some g =>
  rw [hg] at h
  simp only [Option.bind_some] at h ⊢
  have hlt : g < w0.heap.size := by
   rcases Nat.lt_or_ge g w0.heap.size with hl | hl
   ·exact hl
   ·rw [Array.getElem?_eq_none hl] at h; cases h
  rw [hS.old g hlt (by simp)]
  exact h
theorem Itoa_c (n : Int) (h0 : -9223372036854775808 ≤ n) (h1 : n < 9223372036854775808) (w : World) (ht : Tab w) : Pure Tryz.prog 27 [.int .i64 n] w (.string (str (Lib.itoa n))) := by
 refine (Tryz.strconv_Itoa n h0 (by omega) w ht).mono ?_
 rintro e w' ⟨rfl, k, os, rfl⟩
 refine ⟨rfl, rfl, rfl, rfl, ?_, ?_, by simp, by simp, .nil⟩
 ·show w.heap.size ≤ (w.heap ++ os).size
  simp
 ·intro j hj _
  show (w.heap ++ os)[j]? = w.heap[j]?
  rw [Array.getElem?_append_left hj]
theorem itoa_len (n : Int) (h0 : -9223372036854775808 ≤ n) (h1 : n < 9223372036854775808) : (Lib.itoa n).length ≤ 21 := Lib.itoa_length_le n h0 (by omega)
def DecC (N : Nat) : Prop := ∀ n : Int, 2 * n.natAbs + (if n < 0 then 1 else 0) < N → -9223372036854775808 < n → n < 9223372036854775808 → ∀ w, Pure Tryz.prog 67 [.int .i64 n] w (.string (str (Lib.itoa n)))

/-- The text of clauses. -/
def litsS (c : List Int) : List UInt8 := c.flatMap fun x => Lib.itoa x ++ [32]
def rowS (c : List Int) : List UInt8 := litsS c ++ [48, 10]
def headS (n : Int) (k : Nat) : List UInt8 := [112, 32, 99, 110, 102, 32] ++ Lib.itoa n ++ [32] ++ Lib.itoa (k : Int) ++ [10]
def textS (n : Int) (ls : List (List Int)) : List UInt8 := headS n ls.length ++ ls.flatMap rowS
theorem litsS_len {c : List Int} (hc : ∀ x ∈ c, -1000 ≤ x ∧ x ≤ 1000) : (litsS c).length ≤ 22 * c.length := by
 unfold litsS
 induction c with
 | nil => simp
 | cons x c ih =>
  have h1 := itoa_len x (by have := hc x (by simp); omega) (by have := hc x (by simp); omega)
  have h2 := ih fun y hy => hc y (by simp [hy])
  simp only [List.flatMap_cons, List.length_append, List.length_cons, List.length_nil]
  omega
theorem rows_len {ls : List (List Int)} (hc : ∀ c ∈ ls, c.length ≤ 64 ∧ ∀ x ∈ c, -1000 ≤ x ∧ x ≤ 1000) : (ls.flatMap rowS).length ≤ 1410 * ls.length := by
 induction ls with
 | nil => simp
 | cons c ls ih =>
  obtain ⟨h0, h1⟩ := hc c (by simp)
  have h2 := litsS_len h1
  have h3 := ih fun d hd => hc d (by simp [hd])
  simp only [List.flatMap_cons, List.length_append, List.length_cons, rowS, List.length_nil] at h3 ⊢
  omega
theorem headS_len {n : Int} {k : Nat} (h0 : -1000 ≤ n ∧ n ≤ 1000) (hk : k ≤ 1000000) : (headS n k).length ≤ 50 := by
 have h1 := itoa_len n (by omega) (by omega)
 have h2 := itoa_len (k : Int) (by omega) (by omega)
 simp only [headS, List.length_append, List.length_cons, List.length_nil]
 omega
theorem litsS_take {c : List Int} {k : Nat} {x : Int} (h : c[k]? = some x) : litsS (c.take (k + 1)) = litsS (c.take k) ++ (Lib.itoa x ++ [32]) := by
 unfold litsS
 rw [List.take_add_one, h, List.flatMap_append]
 simp
theorem rowsS_take {ls : List (List Int)} {k : Nat} {c : List Int} (h : ls[k]? = some c) : (ls.take (k + 1)).flatMap rowS = (ls.take k).flatMap rowS ++ rowS c := by
 rw [List.take_add_one, h, List.flatMap_append]
 simp
end Go.Proofs.YtkgllhkhdjodeaaGreatDoor

namespace Go.Proofs.YtkgllhkhdjodeaaGreatDoor
open Go Go.Eng Go.Proofs
def accT (n : Int) (ls : List (List Int)) (i : Nat) : List UInt8 := headS n ls.length ++ (ls.take i).flatMap rowS
theorem accT_zero (n : Int) (ls : List (List Int)) : accT n ls 0 = headS n ls.length := by simp [accT]
theorem accT_succ {n : Int} {ls : List (List Int)} {i : Nat} {c : List Int} (h : ls[i]? = some c) : accT n ls (i + 1) = accT n ls i ++ litsS c ++ [48, 10] := by
 unfold accT
 rw [rowsS_take h, rowS]
 simp only [List.append_assoc]
theorem accT_all (n : Int) (ls : List (List Int)) : accT n ls ls.length = textS n ls := by simp [accT, textS]
structure ClsOk (n : Int) (ls : List (List Int)) : Prop where
 n : -1000 ≤ n ∧ n ≤ 1000
 len : ls.length ≤ 4096
 lit : ∀ c ∈ ls, c.length ≤ 64 ∧ ∀ x ∈ c, -1000 ≤ x ∧ x ≤ 1000
theorem ClsOk.acc {n : Int} {ls : List (List Int)} (h : ClsOk n ls) (i : Nat) : (accT n ls i).length ≤ 6000000 := by
 have h1 := headS_len (k := ls.length) h.n (by have := h.len; omega)
 have h2 := rows_len (ls := ls.take i) fun c hc => h.lit c (List.mem_of_mem_take hc)
 have h3 := h.len
 have h4 : (ls.take i).length ≤ 4096 := by rw [List.length_take]; omega
 unfold accT
 rw [List.length_append]
 omega
theorem ClsOk.lits {n : Int} {ls : List (List Int)} (h : ClsOk n ls) {c : List Int} (hc : c ∈ ls) (k : Nat) : (litsS (c.take k)).length ≤ 10000 := by
 have h2 := litsS_len (c := c.take k) fun x hx => (h.lit c hc).2 x (List.mem_of_mem_take hx)
 have h4 : (c.take k).length ≤ 64 := by rw [List.length_take]; have := (h.lit c hc).1; omega
 omega

structure WrG where
 i : Nat
 ba : Option Addr
 bc : Nat

theorem Write_c (n : Int) (ls : List (List Int)) (a : Option Addr) (cap : Nat) (us : List Value) (w : World) (ht : Tab w) (hr : RdLL w ls a us) :
  Pure Tryz.prog 11 [.int .i64 n, .slice a ls.length cap] w (.tuple #[.string (str (if Fm.mayE n ls = 0 then textS n ls else [])), .int .i64 (Fm.mayE n ls)]) := by
 refine enter Tryz.func11 rfl Tryz.ntmps11 rfl (St.init _) ?_
 refine jN 16 ?_
 refine WL.callV F.fun25 rfl rfl (fun w hS => may_c n ls a cap us w (hr.next hS)) ?_
 refine jN 12 ?_
 refine WC.cond rfl (fun h16 => ?_) (fun h16 => ?_)
 ·have hme : Fm.mayE n ls ≠ 0 := by simpa using h16
  refine jN 12 ?_
  exact WQ.ret (rs := [.tmp 4, .tmp 5]) rfl (.tmp rfl (.tmp rfl .nil)) (fun w hS => ⟨by rw [if_neg hme]; rfl, hS.sublist (List.nil_sublist _)⟩)
 ·have hme : Fm.mayE n ls = 0 := by simpa using h16
  obtain ⟨hm0, hcount, hall⟩ := may_zero hme
  have hok : ClsOk n ls := by
   obtain ⟨m, rfl⟩ : ∃ m : Nat, n = (m : Int) := ⟨n.toNat, by omega⟩
   have hm : m ≤ 24 := by omega
   exact ⟨by omega, hcount, fun c hc => ⟨(may_lit hm hall).2 c hc, fun x hx => by have := (may_lit hm hall).1 c hc x hx; exact ⟨by omega, by omega⟩⟩⟩
  have hl0 := itoa_len n (by omega) (by omega)
  have hl1 := itoa_len (ls.length : Int) (by omega) (by omega)
  have hhd := headS_len (n := n) (k := ls.length) hok.n (by omega)
  refine jN 5 ?_
  refine WL.alloc F.zero60 rfl (fun b7 => ?_)
  refine jN 7 ?_
  refine WL.callV F.fun27 rfl rfl (fun w hS => Itoa_c (n) (by omega) (by omega) w (ht.next hS)) ?_
  refine jN 1 ?_
  refine WL.addS rfl rfl rfl (by first | omega | (simp only [List.length_append, List.length_cons, List.length_nil]; omega)) ?_
  refine jN 1 ?_
  refine WL.addS rfl rfl rfl (by first | omega | (simp only [List.length_append, List.length_cons, List.length_nil]; omega)) ?_
  refine jN 5 ?_
  refine WL.callV F.fun27 rfl rfl (fun w hS => Itoa_c ((ls.length : Int)) (by omega) (by omega) w (ht.next hS)) ?_
  refine jN 1 ?_
  refine WL.addS rfl rfl rfl (by first | omega | (simp only [List.length_append, List.length_cons, List.length_nil]; omega)) ?_
  refine jN 1 ?_
  refine WL.addS rfl rfl rfl (by first | omega | (simp only [List.length_append, List.length_cons, List.length_nil]; omega)) ?_
  refine WA.chunks (fun w hS => hS.rowNil 5 1) ?_
  refine jN 1 ?_
  refine WL.callB (β := Option Addr × Nat) (res := fun _ => .tuple #[.int .i64 (List.length (headS n ls.length) : Nat), .nilIface]) (c1 := fun x => pt b7 [pp b7, .slice x.1 (headS n ls.length).length x.2] 60) (c2 := fun x => rowc (.slice x.1 (headS n ls.length).length x.2) (headS n ls.length).length 5 1 (bcells (headS n ls.length))) (q := .pointer none) (v := .slice none 0 0) (l := []) (b := b7) F.fun26 rfl rfl jR jR (fun w hS hS2 => WriteString_e b7 _ _ ([]) (headS n ls.length) (headS n ls.length) _ (rfl) (.inl rfl) (by simp only [List.length_nil]; omega) rfl w hS2) (fun x27 => ?_)
  refine jN 14 ?_
  refine WC.loop (α := WrG) (fun g => g.i ≤ ls.length) (fun g => [(0, .int .i64 n), (1, .slice a ls.length cap), (7, pp b7), (28, .slice a ls.length cap), (29, .int .i64 (ls.length : Int)), (30, .int .i64 (g.i : Int))]) (fun g => [pt b7 [pp b7, .slice g.ba (accT n ls g.i).length g.bc] 60, rowc (.slice g.ba (accT n ls g.i).length g.bc) (accT n ls g.i).length 5 1 (bcells (accT n ls g.i))]) (fun g => ls.length - g.i) (⟨0, x27.1, x27.2⟩) ?_ ?_ ?_ ?_
  ·exact Nat.zero_le _
  ·exact ⟨rfl, rfl, rfl, rfl, rfl, rfl, trivial⟩
  ·simp only [accT_zero]
  rintro ⟨i, ba, bc⟩ hi
  dsimp only at hi
  show WC _ _ _ _ _ _ _ [(0, .int .i64 n), (1, .slice a ls.length cap), (7, pp b7), (28, .slice a ls.length cap), (29, .int .i64 (ls.length : Int)), (30, .int .i64 (i : Int))] [pt b7 [pp b7, .slice ba (accT n ls i).length bc] 60, rowc (.slice ba (accT n ls i).length bc) (accT n ls i).length 5 1 (bcells (accT n ls i))]
  refine jN 7 ?_
  refine WC.cond rfl (fun h31 => ?_) (fun h31 => ?_)
  ·have hlt : i < ls.length := by simpa using h31
   have hacc := hok.acc i
   obtain ⟨c, b, off, a1, cap1, hc, rfl, hcell, hrc⟩ := hr.at hlt
   have hcm := List.mem_of_getElem? hc
   have hcl := (hok.lit c hcm).1
   have hlen := hok.len
   have hll := hok.lits hcm c.length
   rw [List.take_length] at hll
   refine jN 7 ?_
   refine WL.indexAddr F.sl23 rfl rfl rfl hlt ?_
   refine jN 1 ?_
   refine WL.load1 F.one46 rfl rfl (v := .slice a1 c.length cap1) (fun w hS => hS.oldc (by simpa using hcell) (by simp)) ?_
   refine jN 16 ?_
   refine WC.loop (α := WrG) (fun g => g.i ≤ c.length) (fun g => [(0, .int .i64 n), (1, .slice (some ⟨b, off, none⟩) ls.length cap), (7, pp b7), (28, .slice (some ⟨b, off, none⟩) ls.length cap), (29, .int .i64 (ls.length : Int)), (30, .int .i64 (i : Int)), (9, .slice a1 c.length cap1), (34, .slice a1 c.length cap1), (35, .int .i64 (c.length : Int)), (36, .int .i64 (g.i : Int))]) (fun g => [pt b7 [pp b7, .slice g.ba (accT n ls i ++ litsS (c.take g.i)).length g.bc] 60, rowc (.slice g.ba (accT n ls i ++ litsS (c.take g.i)).length g.bc) (accT n ls i ++ litsS (c.take g.i)).length 5 1 (bcells (accT n ls i ++ litsS (c.take g.i)))]) (fun g => c.length - g.i) (⟨0, ba, bc⟩) ?_ ?_ ?_ ?_
   ·exact Nat.zero_le _
   ·exact ⟨rfl, rfl, rfl, rfl, rfl, rfl, rfl, rfl, rfl, rfl, trivial⟩
   ·simp only [List.take_zero, show litsS [] = [] from rfl, List.append_nil]
   rintro ⟨k, ba2, bc2⟩ hk
   dsimp only at hk
   show WC _ _ _ _ _ _ _ [(0, .int .i64 n), (1, .slice (some ⟨b, off, none⟩) ls.length cap), (7, pp b7), (28, .slice (some ⟨b, off, none⟩) ls.length cap), (29, .int .i64 (ls.length : Int)), (30, .int .i64 (i : Int)), (9, .slice a1 c.length cap1), (34, .slice a1 c.length cap1), (35, .int .i64 (c.length : Int)), (36, .int .i64 (k : Int))] [pt b7 [pp b7, .slice ba2 (accT n ls i ++ litsS (c.take k)).length bc2] 60, rowc (.slice ba2 (accT n ls i ++ litsS (c.take k)).length bc2) (accT n ls i ++ litsS (c.take k)).length 5 1 (bcells (accT n ls i ++ litsS (c.take k)))]
   refine jN 7 ?_
   refine WC.cond rfl (fun h37 => ?_) (fun h37 => ?_)
   ·have hklt : k < c.length := by simpa using h37
    obtain ⟨x, hx⟩ : ∃ z, c[k]? = some z := ⟨_, List.getElem?_eq_getElem hklt⟩
    have hxb := (hok.lit c hcm).2 x (List.mem_of_getElem? hx)
    have hlk := hok.lits hcm k
    have hlx := itoa_len x (by omega) (by omega)
    obtain ⟨b2, off2, ha1, hcell2⟩ := hrc k x hx
    subst ha1
    refine jN 7 ?_
    refine WL.indexAddr F.sl46 rfl rfl rfl hklt ?_
    refine jN 1 ?_
    refine WL.load1 F.one3 rfl rfl (v := .int .i64 x) (fun w hS => hS.oldc (by simpa using hcell2) (by simp)) ?_
    refine jN 8 ?_
    refine WL.callV F.fun27 rfl rfl (fun w hS => Itoa_c (x) (by omega) (by omega) w (ht.next hS)) ?_
    refine jN 1 ?_
    refine WL.addS rfl rfl rfl (by first | omega | (simp only [List.length_append, List.length_cons, List.length_nil]; omega)) ?_
    refine jN 1 ?_
    refine WL.callB (β := Option Addr × Nat) (res := fun _ => .tuple #[.int .i64 (List.length (Lib.itoa x ++ [32]) : Nat), .nilIface]) (c1 := fun x => pt b7 [pp b7, .slice x.1 (accT n ls i ++ litsS (c.take (k + 1))).length x.2] 60) (c2 := fun x => rowc (.slice x.1 (accT n ls i ++ litsS (c.take (k + 1))).length x.2) (accT n ls i ++ litsS (c.take (k + 1))).length 5 1 (bcells (accT n ls i ++ litsS (c.take (k + 1))))) (q := pp b7) (v := .slice ba2 (accT n ls i ++ litsS (c.take k)).length bc2) (l := accT n ls i ++ litsS (c.take k)) (b := b7) F.fun26 rfl rfl jR jR (fun w hS hS2 => WriteString_e b7 _ _ (accT n ls i ++ litsS (c.take k)) (Lib.itoa x ++ [32]) (accT n ls i ++ litsS (c.take (k + 1))) _ (by rw [litsS_take hx]; simp only [List.append_assoc]) (.inr rfl) (by simp only [List.length_append, List.length_cons, List.length_nil]; omega) rfl w hS2) (fun x43 => ?_)
    refine jN 9 ?_
    refine WQ.back ⟨k + 1, x43.1, x43.2⟩ ?_ ?_ ?_ ?_
    ·show k + 1 ≤ _; omega
    ·show c.length - (k + 1) < c.length - k; omega
    ·exact ⟨rfl, rfl, rfl, rfl, rfl, rfl, rfl, rfl, rfl, rfl, trivial⟩
    ·rfl
   ·have hke : k = c.length := by simp at h37; omega
    subst hke
    rw [List.take_length]
    refine jN 7 ?_
    refine WL.callB (β := Option Addr × Nat) (res := fun _ => .tuple #[.int .i64 (List.length ([48, 10]) : Nat), .nilIface]) (c1 := fun x => pt b7 [pp b7, .slice x.1 (accT n ls (i + 1)).length x.2] 60) (c2 := fun x => rowc (.slice x.1 (accT n ls (i + 1)).length x.2) (accT n ls (i + 1)).length 5 1 (bcells (accT n ls (i + 1)))) (q := pp b7) (v := .slice ba2 (accT n ls i ++ litsS c).length bc2) (l := accT n ls i ++ litsS c) (b := b7) F.fun26 rfl rfl jR jR (fun w hS hS2 => WriteString_e b7 _ _ (accT n ls i ++ litsS c) ([48, 10]) (accT n ls (i + 1)) _ (accT_succ hc) (.inr rfl) (by simp only [List.length_append, List.length_cons, List.length_nil]; omega) rfl w hS2) (fun x45 => ?_)
    refine jN 9 ?_
    refine WQ.back ⟨i + 1, x45.1, x45.2⟩ ?_ ?_ ?_ ?_
    ·show i + 1 ≤ _; omega
    ·show ls.length - (i + 1) < ls.length - i; omega
    ·exact ⟨rfl, rfl, rfl, rfl, rfl, rfl, trivial⟩
    ·rfl
  ·have hie : i = ls.length := by simp at h31; omega
   subst hie
   have hacc := hok.acc ls.length
   have hne : accT n ls ls.length ≠ [] := by simp [accT, headS]
   refine jN 8 ?_
   refine WL.callC (β := Unit) (res := fun _ => .string (str (accT n ls ls.length))) (cs := fun _ => [pt b7 [pp b7, .slice ba (accT n ls ls.length).length bc] 60]) (Cs := [pt b7 [pp b7, .slice ba (accT n ls ls.length).length bc] 60, rowc (.slice ba (accT n ls ls.length).length bc) (accT n ls ls.length).length 5 1 (bcells (accT n ls ls.length))]) (O' := b7 :: ob (.slice ba (accT n ls ls.length).length bc)) F.fun28 (fun d h => by cases h; rfl) rfl (List.Perm.refl _) bld_fp1 bld_fp2 (fun w hS hS2 => (String_c b7 _ _ _ (accT n ls ls.length) hne (by omega) w hS2).mono (fun e w2 h => ⟨(), h⟩)) (fun _ => ?_)
   refine jN 7 ?_
   exact WQ.ret (rs := [.tmp 4, .tmp 5]) rfl (.tmp rfl (.tmp rfl .nil)) (fun w hS => ⟨by rw [if_pos hme, hme, accT_all]; rfl, hS.sublist (List.nil_sublist _)⟩)

end Go.Proofs.YtkgllhkhdjodeaaGreatDoor

/-! Words between single bytes; numerals. -/
namespace Fm
open Go

/-! ### what stands between single bytes -/
def splitC (c : UInt8) : List UInt8 → List (List UInt8)
 | [] => [[]]
 | x :: xs => if x = c then [] :: splitC c xs else match splitC c xs with
  | [] => [[x]]
  | p :: ps => (x :: p) :: ps
theorem splitC_ne (c : UInt8) : ∀ l, splitC c l ≠ []
 | [] => by simp [splitC]
 | x :: xs => by
  unfold splitC
  split
  ·simp
  ·split <;> simp
theorem splitC_miss {c : UInt8} : ∀ {l : List UInt8}, c ∉ l → splitC c l = [l]
 | [], _ => rfl
 | x :: xs, h => by
  have h1 : x ≠ c := fun e => h (by simp [e])
  have h2 := splitC_miss (c := c) (l := xs) fun e => h (by simp [e])
  rw [splitC, if_neg h1, h2]
theorem splitC_hit {c : UInt8} : ∀ {p r : List UInt8}, c ∉ p → splitC c (p ++ c :: r) = p :: splitC c r
 | [], r, _ => by simp [splitC]
 | x :: p, r, h => by
  have h1 : x ≠ c := fun e => h (by simp [e])
  have h2 := splitC_hit (c := c) (p := p) (r := r) fun e => h (by simp [e])
  rw [List.cons_append, splitC, if_neg h1, h2]
theorem splitC_len (c : UInt8) : ∀ l, (splitC c l).length ≤ l.length + 1
 | [] => by simp [splitC]
 | x :: xs => by
  have ih := splitC_len c xs
  unfold splitC
  split
  ·simp only [List.length_cons]; omega
  ·split
   ·simp
   ·rename_i h; rw [h] at ih; simp only [List.length_cons] at ih ⊢; omega
theorem splitC_mem (c : UInt8) : ∀ l, ∀ w ∈ splitC c l, w.length ≤ l.length
 | [], w, h => by simp [splitC] at h; subst h; simp
 | x :: xs, w, h => by
  have ih := splitC_mem c xs
  unfold splitC at h
  split at h
  ·rcases List.mem_cons.1 h with rfl | h
   ·simp
   ·have := ih w h; simp only [List.length_cons]; omega
  ·split at h
   ·simp only [List.mem_singleton] at h; subst h; simp
   ·rename_i p ps h1
    rcases List.mem_cons.1 h with rfl | h
    ·have := ih p (by rw [h1]; simp); simp only [List.length_cons] at this ⊢; omega
    ·have := ih w (by rw [h1]; simp [h]); simp only [List.length_cons]; omega
/-- Onto what was read before: the first piece goes on. -/
def splitOn (c : UInt8) (cur : List UInt8) (l : List UInt8) : List (List UInt8) := match splitC c l with
 | [] => [cur]
 | p :: ps => (cur ++ p) :: ps
theorem index_c (c : UInt8) : ∀ s : List UInt8, (Lib.index s [c] = -1 ∧ c ∉ s) ∨ ∃ p r, s = p ++ c :: r ∧ c ∉ p ∧ Lib.index s [c] = (p.length : Int)
 | [] => .inl ⟨by simp [Lib.index], by simp⟩
 | b :: l => by
  by_cases hb : c = b
  ·subst hb
   exact .inr ⟨[], l, rfl, by simp, by simp [Lib.index]⟩
  ·have h1 : ([c] : List UInt8).isPrefixOf (b :: l) = false := by simp [List.isPrefixOf, hb]
   rcases index_c c l with ⟨h2, h3⟩ | ⟨p, r, h2, h3, h4⟩
   ·refine .inl ⟨?_, by simp [hb, h3]⟩
    rw [Lib.index, h1, h2]; simp
   ·refine .inr ⟨b :: p, r, by rw [h2]; rfl, by simp [hb, h3], ?_⟩
    rw [Lib.index, h1, h4]
    have : (((p.length : Int)) == -1) = false := by rw [beq_eq_false_iff_ne]; omega
    simp [this]
theorem splitK_c (c : UInt8) : ∀ (n : Nat) (s : List UInt8), s.length ≤ n → Lib.splitK [c] 0 (Lib.count s [c]) s = splitC c s
 | 0, s, h => by
  have : s = [] := List.length_eq_zero_iff.1 (by omega)
  subst this
  rw [Lib.count_miss (by simp [Lib.index])]
  rfl
 | n + 1, s, h => by
  rcases index_c c s with ⟨h2, h3⟩ | ⟨p, r, rfl, h3, h4⟩
  ·rw [Lib.count_miss h2, splitC_miss h3]
   rfl
  ·have hd : (p ++ c :: r).drop (p.length + [c].length) = r := by
    rw [show p ++ c :: r = (p ++ [c]) ++ r by simp, show p.length + [c].length = (p ++ [c]).length by simp, List.drop_left]
   rw [Lib.count_hit (by simp) h4, splitC_hit h3, hd, Nat.add_comm, Lib.splitK, if_neg (by rw [h4]; simp), h4]
   have hl : r.length ≤ n := by simp at h; omega
   have e1 : ((p.length : Int)).toNat = p.length := by simp
   rw [e1, hd, splitK_c c n r hl]
   simp
theorem split_c (c : UInt8) (s : List UInt8) : Lib.split s [c] = splitC c s := splitK_c c s.length s (Nat.le_refl _)

/-! ### numerals -/
def digV (l : List UInt8) : Nat := l.foldl (fun n c => 10 * n + (c.toNat - 48)) 0
theorem digV_snoc (l : List UInt8) (c : UInt8) : digV (l ++ [c]) = 10 * digV l + (c.toNat - 48) := by simp [digV]
def valD (s : List UInt8) : Int := if s.head? = some 45 then -(digV s.tail : Int) else (digV s : Int)
theorem u8_dig {d : Nat} (h : d < 10) : (UInt8.ofNat (48 + d)).toNat = 48 + d := by
 rw [UInt8.toNat_ofNat']; omega
theorem dec_ok : ∀ (k u : Nat), u < k → digV (Lib.decDigits u) = u ∧ (∀ c ∈ Lib.decDigits u, 48 ≤ c.toNat ∧ c.toNat ≤ 57) ∧ Lib.decDigits u ≠ []
 | 0, u, h => by omega
 | k + 1, u, h => by
  by_cases h1 : u < 10
  ·have hd := u8_dig h1
   rw [Lib.decDigits, dif_pos h1]
   refine ⟨by simp only [digV, List.foldl_cons, List.foldl_nil, hd]; omega, fun c hc => ?_, by simp⟩
   rw [List.mem_singleton.1 hc, hd]; omega
  ·have hd := u8_dig (Nat.mod_lt u (show 0 < 10 by decide))
   obtain ⟨e1, e2, e3⟩ := dec_ok k (u / 10) (by omega)
   rw [Lib.decDigits, dif_neg h1]
   refine ⟨by rw [digV_snoc, e1, hd]; omega, fun c hc => ?_, by simp⟩
   rcases List.mem_append.1 hc with hc | hc
   ·exact e2 c hc
   ·rw [List.mem_singleton.1 hc, hd]; omega
theorem digV_dec (u : Nat) : digV (Lib.decDigits u) = u := (dec_ok (u + 1) u (by omega)).1
theorem dec_dig (u : Nat) : ∀ c ∈ Lib.decDigits u, 48 ≤ c.toNat ∧ c.toNat ≤ 57 := (dec_ok (u + 1) u (by omega)).2.1
theorem dec_ne (u : Nat) : Lib.decDigits u ≠ [] := (dec_ok (u + 1) u (by omega)).2.2
theorem dec_head (u : Nat) : (Lib.decDigits u).head? ≠ some 45 := fun h => by
 have := dec_dig u 45 (List.mem_of_mem_head? h)
 exact absurd this.1 (by decide)
theorem itoa_cases (x : Int) : (x < 0 ∧ Lib.itoa x = 45 :: Lib.decDigits x.natAbs) ∨ (0 ≤ x ∧ Lib.itoa x = Lib.decDigits x.natAbs) := by
 unfold Lib.itoa
 by_cases h : x < 0
 ·exact .inl ⟨h, if_pos h⟩
 ·refine .inr ⟨by omega, ?_⟩
  rw [if_neg h, show x.toNat = x.natAbs by omega]
theorem valD_itoa (x : Int) : valD (Lib.itoa x) = x := by
 rcases itoa_cases x with ⟨h, e⟩ | ⟨h, e⟩
 ·rw [e]
  simp only [valD, List.head?_cons, if_true, List.tail_cons, digV_dec]
  omega
 ·rw [e, valD, if_neg (dec_head _), digV_dec]
  omega
theorem nDigits_le : ∀ (k u : Nat), 1 ≤ k → u < 10 ^ k → Lib.nDigits u ≤ k
 | 0, u, h, _ => by omega
 | k + 1, u, _, h => by
  by_cases h1 : u < 10
  ·rw [Lib.nDigits_small h1]; omega
  ·rw [Lib.nDigits_big h1]
   have hk : 1 ≤ k := by
    rcases Nat.eq_zero_or_pos k with rfl | h2
    ·simp at h; omega
    ·exact h2
   rw [Nat.pow_succ] at h
   have := nDigits_le k (u / 10) hk (by omega)
   omega
theorem dec_len9 (u : Nat) : (Lib.decDigits u).length ≤ 9 ↔ u < 1000000000 := by
 rw [Lib.decDigits_length]
 constructor
 ·intro h
  have h1 := Lib.lt_pow_nDigits u
  exact Nat.lt_of_lt_of_le h1 (by have := Nat.pow_le_pow_right (n := 10) (by decide) h; simpa using this)
 ·intro h
  exact nDigits_le 9 u (by decide) (by simpa using h)
/-- A word that is a number: a numeral of at most nine digits, as it is printed. -/
def isNum (s : List UInt8) : Bool := decide (Lib.itoa (valD s) = s) && decide ((valD s).natAbs < 1000000000)
theorem isNum_iff {s : List UInt8} : isNum s = true ↔ ∃ x : Int, s = Lib.itoa x ∧ x.natAbs < 1000000000 := by
 unfold isNum
 rw [Bool.and_eq_true, decide_eq_true_eq, decide_eq_true_eq]
 constructor
 ·rintro ⟨h1, h2⟩; exact ⟨valD s, h1.symm, h2⟩
 ·rintro ⟨x, rfl, h⟩; rw [valD_itoa]; exact ⟨rfl, h⟩
/-- What stands behind the sign. -/
def unsign (s : List UInt8) : List UInt8 := if s.head? = some 45 then s.tail else s
theorem unsign_itoa (x : Int) : unsign (Lib.itoa x) = Lib.decDigits x.natAbs := by
 rcases itoa_cases x with ⟨h, e⟩ | ⟨h, e⟩
 ·rw [e]; simp [unsign]
 ·rw [e, unsign, if_neg (dec_head _)]
/-- As Go asks: the value's numeral is the word, and has at most nine digits. -/
theorem isNum_of {s : List UInt8} {x : Int} : isNum s = true ∧ valD s = x ↔ (Lib.itoa x = s ∧ (unsign s).length ≤ 9) := by
 constructor
 ·rintro ⟨h, rfl⟩
  obtain ⟨y, rfl, hy⟩ := isNum_iff.1 h
  rw [valD_itoa, unsign_itoa]
  exact ⟨rfl, (dec_len9 _).2 hy⟩
 ·rintro ⟨rfl, h⟩
  rw [unsign_itoa] at h
  exact ⟨isNum_iff.2 ⟨x, rfl, (dec_len9 _).1 h⟩, valD_itoa x⟩
theorem parse_dig : ∀ (l : List UInt8) (acc : Nat), (∀ c ∈ l, 48 ≤ c.toNat ∧ c.toNat ≤ 57) → l.foldl (fun n c => 10 * n + (c.toNat - 48)) acc < 1000000000000000000 → Lib.parseUint10 acc l = .ok (l.foldl (fun n c => 10 * n + (c.toNat - 48)) acc)
 | [], acc, _, _ => rfl
 | c :: r, acc, h, hb => by
  have hm : ∀ (l : List UInt8) (a : Nat), a ≤ l.foldl (fun n c => 10 * n + (c.toNat - 48)) a := by
   intro l
   induction l with
   | nil => intro a; exact Nat.le_refl _
   | cons x l ih => intro a; exact Nat.le_trans (by omega) (ih (10 * a + (x.toNat - 48)))
  have h1 := hm r (10 * acc + (c.toNat - 48))
  rw [List.foldl_cons] at hb ⊢
  have hc := h c (by simp)
  unfold Lib.parseUint10
  rw [if_pos hc, if_neg (by omega), if_neg (by omega), Nat.mul_comm acc 10]
  exact parse_dig r _ (fun x hx => h x (by simp [hx])) hb
theorem atoiAll_itoa {x : Int} (h : x.natAbs < 1000000000) : Lib.atoiAll (Lib.itoa x) = .ok x := by
 have hp : Lib.parseMag (Lib.decDigits x.natAbs) = .ok x.natAbs := by
  unfold Lib.parseMag
  rw [if_neg (dec_ne _)]
  have e := digV_dec x.natAbs
  unfold digV at e
  rw [parse_dig _ 0 (dec_dig _) (by rw [e]; omega), e]
 rcases itoa_cases x with ⟨h1, e⟩ | ⟨h1, e⟩
 ·rw [e]
  unfold Lib.atoiAll
  have : (45 : UInt8).toNat = 45 := by decide
  simp only [this, or_true, if_true, hp]
  rw [if_neg (by omega), if_neg (by omega)]
  congr 1
  omega
 ·rw [e]
  cases hl : Lib.decDigits x.natAbs with
  | nil => exact absurd hl (dec_ne _)
  | cons c r =>
   have hc := dec_dig x.natAbs c (by rw [hl]; simp)
   rw [hl] at hp
   unfold Lib.atoiAll
   have h43 : ¬ c.toNat = 43 := by omega
   have h45 : ¬ c.toNat = 45 := by omega
   simp only [h43, h45, or_self, if_false, hp, not_false_eq_true, true_and, false_and]
   rw [if_neg (by omega)]
   congr 1
   omega
end Fm

/-! What a reader of numbers asks; lines, words, rows of clauses. -/
namespace Fm
open Go
theorem num_ok {s : List UInt8} {v : Int} (h : Lib.atoiAll s = .ok v) : isNum s = (decide ((unsign s).length ≤ 9) && decide (Lib.itoa v = s)) ∧ (isNum s = true → valD s = v) := by
 have h1 : isNum s = true → valD s = v := fun hn => by
  obtain ⟨x, rfl, hx⟩ := isNum_iff.1 hn
  rw [atoiAll_itoa hx] at h
  injection h with h
  rw [valD_itoa, h]
 refine ⟨?_, h1⟩
 rw [Bool.eq_iff_iff, Bool.and_eq_true, decide_eq_true_eq, decide_eq_true_eq]
 constructor
 ·intro hn
  have := (isNum_of (s := s) (x := v)).1 ⟨hn, h1 hn⟩
  exact ⟨this.2, this.1⟩
 ·rintro ⟨h2, h3⟩
  exact ((isNum_of (s := s) (x := v)).2 ⟨h3, h2⟩).1
theorem num_no {s : List UInt8} (h : ∀ v, Lib.atoiAll s ≠ .ok v) : isNum s = false := by
 cases hn : isNum s with
 | false => rfl
 | true =>
  obtain ⟨x, rfl, hx⟩ := isNum_iff.1 hn
  exact absurd (atoiAll_itoa hx) (h x)
theorem trim_unsign (s : List UInt8) : Lib.trimPrefix s [45] = unsign s := by
 unfold Lib.trimPrefix unsign
 cases s with
 | nil => rfl
 | cons c r =>
  by_cases hc : c = 45
  ·subst hc; simp [Lib.hasPrefix]
  ·have hb : ((45 : UInt8) == c) = false := by rw [beq_eq_false_iff_ne]; exact fun e => hc e.symm
   have : Lib.hasPrefix (c :: r) [45] = false := by
    simp only [Lib.hasPrefix, List.isPrefixOf, hb, Bool.false_and]
   rw [if_neg (by rw [this]; decide), if_neg (by simpa using hc)]
theorem isNum_shape {s : List UInt8} (h : isNum s = true) : 1 ≤ (unsign s).length ∧ (unsign s).length ≤ 9 ∧ ∀ c ∈ unsign s, 48 ≤ c.toNat ∧ c.toNat ≤ 57 := by
 obtain ⟨x, rfl, hx⟩ := isNum_iff.1 h
 rw [unsign_itoa]
 exact ⟨List.length_pos_iff.2 (dec_ne _), (dec_len9 _).2 hx, dec_dig _⟩
theorem atoiAll_bd {s : List UInt8} {v : Int} (h : Lib.atoiAll s = .ok v) : -9223372036854775808 ≤ v ∧ v < 9223372036854775808 := by
 cases s with
 | nil => cases h
 | cons c r =>
  unfold Lib.atoiAll at h
  dsimp only at h
  split at h
  ·cases h
  ·cases h
  ·split at h
   ·cases h
   ·split at h
    ·cases h
    ·injection h with h
     subst h
     split <;> omega

/-! ### lines, words, rows -/
def linesL (t : List UInt8) : List (List UInt8) := let l := splitC 10 t
 if l.getLast? = some [] then l.dropLast else l
def headE (s : List UInt8) : Int × Int × Int :=
 let w := splitC 32 s
 if w.length ≠ 4 ∨ w[0]?.getD [] ≠ [112] ∨ w[1]?.getD [] ≠ [99, 110, 102] then (0, 0, 4)
 else if isNum (w[2]?.getD []) = false ∨ isNum (w[3]?.getD []) = false ∨ valD (w[2]?.getD []) < 0 ∨ valD (w[3]?.getD []) < 0 then (0, 0, 4)
 else if 24 < valD (w[2]?.getD []) then (0, 0, 3)
 else if 4096 < valD (w[3]?.getD []) then (0, 0, 5)
 else (valD (w[2]?.getD []), valD (w[3]?.getD []), 0)
def okAt (w : List (List UInt8)) (i : Nat) : Bool := isNum (w[i]?.getD []) && (decide (valD (w[i]?.getD []) = 0) == decide (i + 1 = w.length))
def goodW (w : List (List UInt8)) (i : Nat) : Bool := (List.range i).all (okAt w)
theorem goodW_succ (w : List (List UInt8)) (i : Nat) : goodW w (i + 1) = (goodW w i && okAt w i) := by
 unfold goodW
 rw [List.range_succ, List.all_append]
 simp
theorem goodW_at {w : List (List UInt8)} {i n : Nat} (h : okAt w i = false) (hi : i < n) : goodW w n = false := by
 unfold goodW
 rw [List.all_eq_false]
 exact ⟨i, List.mem_range.2 hi, by simp [h]⟩
def valsW (w : List (List UInt8)) (i : Nat) : List Int := (w.take i).map valD
theorem valsW_len {w : List (List UInt8)} {i : Nat} (h : i ≤ w.length) : (valsW w i).length = i := by simp [valsW]; omega
theorem valsW_succ {w : List (List UInt8)} {i : Nat} {x : List UInt8} (h : w[i]? = some x) : valsW w (i + 1) = valsW w i ++ [valD x] := by
 unfold valsW
 rw [List.take_add_one, h]
 simp
def rowE (n : Int) (s : List UInt8) : List Int × Int :=
 let w := splitC 32 s
 if goodW w w.length = false then ([], 4)
 else if 64 < w.length - 1 then ([], 5)
 else if fitsB n (valsW w (w.length - 1)) = false then ([], 3)
 else (valsW w (w.length - 1), 0)
def readF : List (List UInt8) → Nat → Int → Int → List (List Int) → Int × List (List Int) × Int × Int
 | [], i, n, m, out => if (out.length : Int) = m then (n, out, 0, 0) else (0, [], (i : Int) + 1, 4)
 | s :: r, i, n, m, out =>
  if s.head? = some 99 then readF r (i + 1) n m out
  else if m < 0 then (if (headE s).2.2 = 0 then readF r (i + 1) (headE s).1 (headE s).2.1 out else (0, [], (i : Int) + 1, (headE s).2.2))
  else if (out.length : Int) = m then (0, [], (i : Int) + 1, 4)
  else if (rowE n s).2 = 0 then readF r (i + 1) n m (out ++ [(rowE n s).1]) else (0, [], (i : Int) + 1, (rowE n s).2)
def readS (t : List UInt8) : Int × List (List Int) × Int × Int := readF (linesL t) 0 0 (-1) []
theorem splitC_pos (c : UInt8) (s : List UInt8) : 1 ≤ (splitC c s).length := List.length_pos_iff.2 (splitC_ne c s)
end Fm

namespace Go.Eng
open Go Go.RowKit
section
variable {P : Program} {w0 : World} {O : List Nat} {ops : Array Oper} {Q : Exit → Act → World → Prop} {N : Nat} {D : List Deferred} {L : FL} {C : List Chunk} {K : Act → World → Prop}
variable {d : Nat} {ty : TypeId} {pos : String} {af : Array Edge}
end
end Go.Eng

namespace Go.Eng
open Go Go.RowKit
section
variable {P : Program}
end
end Go.Eng

/-
 The search: it ends, its model is the least, and its proof is one.
-/
namespace Go.Proofs.YtkgllhkhdjodeaaGreatDoor
open Go Go.Eng Go.Proofs

def satL (M : Nat) (x : Int) : Bool := if 0 < x then M.testBit (x - 1).toNat else !M.testBit (-x - 1).toNat
def satC (M : Nat) (c : List Int) : Bool := c.any (satL M)
def holdsB (ls : List (List Int)) (M : Nat) : Bool := ls.all (satC M)
/-! ### the search -/
structure SI (n : Nat) (ls : List (List Int)) (path : List Int) (proof : List (List Int)) : Prop where
 lit : ∀ x ∈ path, x ≠ 0 ∧ x.natAbs ≤ n
 dec : path.Pairwise (fun x y => y.natAbs < x.natAbs)
 hi : ∀ i x, path[i]? = some x → ∀ v : Nat, x.natAbs < v → v ≤ n → Fm.Der (ls ++ proof) (path.take i) (v : Int) ∨ Fm.Der (ls ++ proof) (path.take i) (-(v : Int))
 pos : ∀ i x, path[i]? = some x → 0 < x → ((path.take i).map (fun y => -y) ++ [x]) ∈ ls ++ proof
 ver : ∀ i c, proof[i]? = some c → refuted (ls ++ proof.take i) c = true ∧ c ≠ []
 fit : ∀ c ∈ proof, (∀ x ∈ c, x ≠ 0 ∧ x.natAbs ≤ n) ∧ c.length ≤ 64
 mdl : ∀ M, holdsB ls M = true → holdsB (ls ++ proof) M = true
theorem SI.all {n : Nat} {ls proof : List (List Int)} {path : List Int} (h : SI n ls path proof) (hls : ∀ c ∈ ls, ∀ x ∈ c, x ≠ 0 ∧ x.natAbs ≤ n) : ∀ c ∈ ls ++ proof, ∀ x ∈ c, x ≠ 0 ∧ x.natAbs ≤ n := fun c hc => by
 rcases List.mem_append.1 hc with hc | hc
 ·exact hls c hc
 ·exact (h.fit c hc).1
def tS (v : Nat) : Nat := 4 * 2 ^ v - 3
def rS (x : Int) : Nat := if x < 0 then tS (x.natAbs - 1) + 2 else 1
def remS (n : Nat) (path : List Int) : Nat := match path.getLast? with | none => n | some x => x.natAbs - 1
def muS (n : Nat) (mode : Bool) (path : List Int) : Nat := (path.map rS).sum + 1 + (if mode then 0 else tS (remS n path))
def GoodS (n : Nat) (ls : List (List Int)) (r : Fm.Ans) : Prop :=
 (r.ok = true ∧ r.proof = [] ∧ r.model < 2 ^ n ∧ holdsB ls r.model = true ∧ ∀ M, M < 2 ^ n → holdsB ls M = true → r.model ≤ M) ∨
 (r.ok = false ∧ r.model = 0 ∧ verF ls r.proof 0 = -1 ∧ (∀ c ∈ r.proof, (∀ x ∈ c, x ≠ 0 ∧ x.natAbs ≤ n) ∧ c.length ≤ 64) ∧ ∀ M, holdsB ls M = false)
/-- A new decision. -/
theorem SI.push {n : Nat} {ls proof : List (List Int)} {p : List Int} {y : Int} (h : SI n ls p proof) (hy : y ≠ 0 ∧ y.natAbs ≤ n) (hd : ∀ x ∈ p, y.natAbs < x.natAbs) (hh : ∀ v : Nat, y.natAbs < v → v ≤ n → Fm.Der (ls ++ proof) p (v : Int) ∨ Fm.Der (ls ++ proof) p (-(v : Int)))
  (hp : 0 < y → (p.map (fun z => -z) ++ [y]) ∈ ls ++ proof) : SI n ls (p ++ [y]) proof := by
 have hidx : ∀ i x, (p ++ [y])[i]? = some x → (p[i]? = some x ∧ (p ++ [y]).take i = p.take i) ∨ (x = y ∧ (p ++ [y]).take i = p) := fun i x hi => by
  by_cases hlt : i < p.length
  ·rw [List.getElem?_append_left hlt] at hi
   exact .inl ⟨hi, by rw [List.take_append_of_le_length (by omega)]⟩
  ·rw [List.getElem?_append_right (by omega)] at hi
   have hie : i = p.length := by
    have := (List.getElem?_eq_some_iff.1 hi).1
    simp at this; omega
   subst hie
   rw [Nat.sub_self] at hi
   injection hi with hi
   exact .inr ⟨hi.symm, List.take_left' rfl⟩
 refine ⟨fun x hx => ?_, ?_, fun i x hi v h1 h2 => ?_, fun i x hi h1 => ?_, h.ver, h.fit, h.mdl⟩
 ·rcases List.mem_append.1 hx with hx | hx
  ·exact h.lit x hx
  ·rw [List.mem_singleton] at hx; rw [hx]; exact hy
 ·refine List.pairwise_append.2 ⟨h.dec, List.pairwise_singleton _ _, fun x hx z hz => ?_⟩
  rw [List.mem_singleton] at hz; rw [hz]; exact hd x hx
 ·rcases hidx i x hi with ⟨g1, g2⟩ | ⟨rfl, g2⟩
  ·rw [g2]; exact h.hi i x g1 v h1 h2
  ·rw [g2]; exact hh v h1 h2
 ·rcases hidx i x hi with ⟨g1, g2⟩ | ⟨rfl, g2⟩
  ·rw [g2]; exact h.pos i x g1 h1
  ·rw [g2]; exact hp h1
end Go.Proofs.YtkgllhkhdjodeaaGreatDoor

namespace Go.Proofs.YtkgllhkhdjodeaaGreatDoor
open Go Go.Eng Go.Proofs
def propL (q : Int → Bool) : Nat → List Int
 | 0 => []
 | n + 1 => propL q n ++ (if q ((n : Int) + 1) then [(n : Int) + 1] else if q (-((n : Int) + 1)) then [-((n : Int) + 1)] else [])
def propE (n : Int) (ls : List (List Int)) (fixed : List Int) : List Int × Int :=
 if Fm.mayE n ls = 0 then (if fixed.all (Fm.litB n) then (match Fm.consF 66 ls fixed with
  | some o => if Fm.conflictB ls o then ([], 9) else (propL (fun z => o.contains z) n.toNat, 0)
  | none => ([], 0)) else ([], 2)) else ([], Fm.mayE n ls)
def PropPost (n : Int) (ls : List (List Int)) (fixed : List Int) (w : World) (e : Ending) (w' : World) : Prop :=
 ∃ x : Option Addr × Nat, e = .returned (.tuple #[.slice x.1 (propE n ls fixed).1.length x.2, .int .i64 (propE n ls fixed).2]) ∧
  St w [] [rowc (.slice x.1 (propE n ls fixed).1.length x.2) (propE n ls fixed).1.length 3 1 ((propE n ls fixed).1.map (Value.int .i64))] w'
theorem RdC.one {w : World} {b off : Nat} {x : Int} (h : w.cell? ⟨b, off, none⟩ = some (.int .i64 x)) : RdC w [x] (some ⟨b, off, none⟩) := fun j y hy => by
 match j, hy with
 | 0, hy => simp at hy; subst hy; exact ⟨b, off, rfl, h⟩
 | j + 1, hy => simp at hy

structure P2 where
 j : Nat
 out : List Int
 ad : Option Addr
 ac : Nat

end Go.Proofs.YtkgllhkhdjodeaaGreatDoor

namespace Go.Proofs.YtkgllhkhdjodeaaGreatDoor
open Go Go.Eng Go.Proofs
end Go.Proofs.YtkgllhkhdjodeaaGreatDoor

namespace Go.Proofs.YtkgllhkhdjodeaaGreatDoor
open Go Go.Eng Go.Proofs
end Go.Proofs.YtkgllhkhdjodeaaGreatDoor

namespace Go.Proofs.YtkgllhkhdjodeaaGreatDoor
open Go Go.Eng Go.Proofs
def modelsL (n : Nat) (ls : List (List Int)) : List Nat := (List.range (2 ^ n)).filter (holdsB ls)
def u32s (l : List Nat) : List Value := l.map (fun m : Nat => Value.int .u32 (m : Int))
structure MD where
 M : Nat
 out : List Nat
 ad : Option Addr
 ac : Nat

end Go.Proofs.YtkgllhkhdjodeaaGreatDoor

namespace Go.Proofs.YtkgllhkhdjodeaaGreatDoor
open Go Go.Eng Go.Proofs
end Go.Proofs.YtkgllhkhdjodeaaGreatDoor

namespace Go.Proofs.YtkgllhkhdjodeaaGreatDoor
open Go Go.Eng Go.Proofs
/-- Strings in memory. -/
def RdS (w : World) (l : List (List UInt8)) (a : Option Addr) : Prop := ∀ j x, l[j]? = some x → ∃ b off, a = some ⟨b, off, none⟩ ∧ w.cell? ⟨b, off + j, none⟩ = some (.string (str x))
theorem RdS.next {w0 w : World} {C : List Chunk} {l : List (List UInt8)} {a : Option Addr} (h : RdS w0 l a) (hS : St w0 [] C w) : RdS w l a := fun j x hx => by
 obtain ⟨b, off, ha, hc⟩ := h j x hx
 exact ⟨b, off, ha, hS.oldc hc (by simp)⟩
def strs (l : List (List UInt8)) : List Value := l.map (fun s => Value.string (str s))
theorem RdS.of_row {w : World} {l : List (List UInt8)} {a : Option Addr} {n cap : Nat} (hn : n = l.length) (h : (rowc (.slice a n cap) n 9 1 (strs l)).ok w) : RdS w l a := fun j x hx => by
 have hlt := (List.getElem?_eq_some_iff.1 hx).1
 obtain ⟨g, hg, _, _⟩ := rowc_addr h (by omega)
 subst hg
 exact ⟨g, 0, rfl, by rw [Nat.zero_add]; exact rowc_cell h (by simp [strs, hx])⟩

end Go.Proofs.YtkgllhkhdjodeaaGreatDoor

namespace Go.Proofs
open Go.Shelf
def Tryz.laysC172_ren : Go.Shelf.Ren := ⟨fun | 172 => 62 | 244 => 78 | 245 => 79 | 247 => 94 | 279 => 95 | 280 => 96 | 281 => 97 | 282 => 98 | 287 => 107 | 316 => 108 | 171 => 27 | 205 => 109 | 321 => 113 | 322 => 114 | 243 => 49 | 246 => 69 | 283 => 82 | 284 => 83 | 285 => 84 | 286 => 85 | 129 => 100 | 317 => 99 | 318 => 101 | 319 => 102 | 320 => 103 | 337 => 110 | 338 => 111 | n => n, fun | 9 => 9 | 3 => 3 | 75 => 62 | 76 => 63 | 4 => 4 | 5 => 5 | 167 => 126 | 37 => 58 | 0 => 0 | 85 => 127 | 2 => 2 | 168 => 129 | 53 => 116 | 175 => 144 | 46 => 125 | 210 => 148 | 127 => 91 | 145 => 154 | 143 => 152 | 21 => 21 | 171 => 115 | 173 => 119 | 212 => 133 | 51 => 41 | 20 => 20 | 213 => 134 | 232 => 155 | 233 => 156 | 80 => 66 | n => n, fun | 15 => 4 | 16 => 5 | 17 => 1 | 18 => 6 | 19 => 7 | n => n⟩
theorem Tryz.laysC172 : Go.Proofs.LaysC.n172 Tryz.prog Tryz.laysC172_ren := {
 mixed := by kernel_rfl
 f129 := Tryz.func100.trans (congrArg some (by kernel_rfl))
 f171 := Tryz.func27.trans (congrArg some (by kernel_rfl))
 f172 := Tryz.func62.trans (congrArg some (by kernel_rfl))
 f205 := Tryz.func109.trans (congrArg some (by kernel_rfl))
 f243 := Tryz.func49.trans (congrArg some (by kernel_rfl))
 f244 := Tryz.func78.trans (congrArg some (by kernel_rfl))
 f245 := Tryz.func79.trans (congrArg some (by kernel_rfl))
 f246 := Tryz.func69.trans (congrArg some (by kernel_rfl))
 f247 := Tryz.func94.trans (congrArg some (by kernel_rfl))
 f279 := Tryz.func95.trans (congrArg some (by kernel_rfl))
 f280 := Tryz.func96.trans (congrArg some (by kernel_rfl))
 f281 := Tryz.func97.trans (congrArg some (by kernel_rfl))
 f282 := Tryz.func98.trans (congrArg some (by kernel_rfl))
 f283 := Tryz.func82.trans (congrArg some (by kernel_rfl))
 f284 := Tryz.func83.trans (congrArg some (by kernel_rfl))
 f285 := Tryz.func84.trans (congrArg some (by kernel_rfl))
 f286 := Tryz.func85.trans (congrArg some (by kernel_rfl))
 f287 := Tryz.func107.trans (congrArg some (by kernel_rfl))
 f316 := Tryz.func108.trans (congrArg some (by kernel_rfl))
 f317 := Tryz.func99.trans (congrArg some (by kernel_rfl))
 f318 := Tryz.func101.trans (congrArg some (by kernel_rfl))
 f319 := Tryz.func102.trans (congrArg some (by kernel_rfl))
 f320 := Tryz.func103.trans (congrArg some (by kernel_rfl))
 f321 := Tryz.func113.trans (congrArg some (by kernel_rfl))
 f322 := Tryz.func114.trans (congrArg some (by kernel_rfl))
 f337 := Tryz.func110.trans (congrArg some (by kernel_rfl))
 f338 := Tryz.func111.trans (congrArg some (by kernel_rfl))
 t0 := Tryz.underlying0
 a0 := Tryz.isAgg0
 z0 := Tryz.sizeOf0
 v0 := Tryz.zeroValue0
 t2 := Tryz.underlying2
 a2 := Tryz.isAgg2
 z2 := Tryz.sizeOf2
 v2 := Tryz.zeroValue2
 t3 := Tryz.underlying3
 a3 := Tryz.isAgg3
 z3 := Tryz.sizeOf3
 v3 := Tryz.zeroValue3
 t4 := Tryz.underlying4
 a4 := Tryz.isAgg4
 z4 := Tryz.sizeOf4
 v4 := Tryz.zeroValue4
 t5 := Tryz.underlying5
 a5 := Tryz.isAgg5
 z5 := Tryz.sizeOf5
 v5 := Tryz.zeroValue5
 t9 := Tryz.underlying9
 a9 := Tryz.isAgg9
 z9 := Tryz.sizeOf9
 v9 := Tryz.zeroValue9
 t20 := Tryz.underlying20
 a20 := Tryz.isAgg20
 z20 := Tryz.sizeOf20
 v20 := Tryz.zeroValue20
 t21 := Tryz.underlying21
 a21 := Tryz.isAgg21
 z21 := Tryz.sizeOf21
 v21 := Tryz.zeroValue21
 t37 := Tryz.underlying58
 a37 := Tryz.isAgg58
 z37 := Tryz.sizeOf58
 v37 := Tryz.zeroValue58
 t46 := Tryz.underlying125
 a46 := Tryz.isAgg125
 z46 := Tryz.sizeOf125
 v46 := Tryz.zeroValue125
 t51 := Tryz.underlying41
 a51 := Tryz.isAgg41
 z51 := Tryz.sizeOf41
 v51 := Tryz.zeroValue41
 t53 := Tryz.underlying116
 a53 := Tryz.isAgg116
 z53 := Tryz.sizeOf116
 v53 := Tryz.zeroValue116
 t75 := Tryz.underlying62
 a75 := Tryz.isAgg62
 z75 := Tryz.sizeOf62
 v75 := Tryz.zeroValue62
 t76 := Tryz.underlying63
 a76 := Tryz.isAgg63
 z76 := Tryz.sizeOf63
 v76 := Tryz.zeroValue63
 t85 := Tryz.underlying127
 a85 := Tryz.isAgg127
 z85 := Tryz.sizeOf127
 v85 := Tryz.zeroValue127
 t127 := Tryz.underlying91
 a127 := Tryz.isAgg91
 z127 := Tryz.sizeOf91
 v127 := Tryz.zeroValue91
 t143 := Tryz.underlying152
 a143 := Tryz.isAgg152
 z143 := Tryz.sizeOf152
 v143 := Tryz.zeroValue152
 t145 := Tryz.underlying154
 a145 := Tryz.isAgg154
 z145 := Tryz.sizeOf154
 v145 := Tryz.zeroValue154
 t167 := Tryz.underlying126
 a167 := Tryz.isAgg126
 z167 := Tryz.sizeOf126
 v167 := Tryz.zeroValue126
 t168 := Tryz.underlying129
 a168 := Tryz.isAgg129
 z168 := Tryz.sizeOf129
 v168 := Tryz.zeroValue129
 t171 := Tryz.underlying115
 a171 := Tryz.isAgg115
 z171 := Tryz.sizeOf115
 v171 := Tryz.zeroValue115
 t173 := Tryz.underlying119
 a173 := Tryz.isAgg119
 z173 := Tryz.sizeOf119
 v173 := Tryz.zeroValue119
 t175 := Tryz.underlying144
 a175 := Tryz.isAgg144
 z175 := Tryz.sizeOf144
 v175 := Tryz.zeroValue144
 t210 := Tryz.underlying148
 a210 := Tryz.isAgg148
 z210 := Tryz.sizeOf148
 v210 := Tryz.zeroValue148
 t212 := Tryz.underlying133
 a212 := Tryz.isAgg133
 z212 := Tryz.sizeOf133
 v212 := Tryz.zeroValue133
 t213 := Tryz.underlying134
 a213 := Tryz.isAgg134
 z213 := Tryz.sizeOf134
 t232 := Tryz.underlying155
 a232 := Tryz.isAgg155
 z232 := Tryz.sizeOf155
 v232 := Tryz.zeroValue155
 t233 := Tryz.underlying156
 a233 := Tryz.isAgg156
 z233 := Tryz.sizeOf156
 v233 := Tryz.zeroValue156
 g15 := by kernel_rfl
 g16 := by kernel_rfl
 g17 := by kernel_rfl
 g18 := by kernel_rfl
 g19 := by kernel_rfl
 t80 := Tryz.underlying66
 a80 := Tryz.isAgg66
 z80 := Tryz.sizeOf66
 v80 := Tryz.zeroValue66
 i0 := by kernel_rfl
 i2 := by kernel_rfl
 i3 := by kernel_rfl
 i4 := by kernel_rfl
 i5 := by kernel_rfl
 i9 := by kernel_rfl
 i20 := by kernel_rfl
 i21 := by kernel_rfl
 i37 := by kernel_rfl
 i46 := by kernel_rfl
 i51 := by kernel_rfl
 i53 := by kernel_rfl
 i75 := by kernel_rfl
 i76 := by kernel_rfl
 i80 := by kernel_rfl
 i85 := by kernel_rfl
 i127 := by kernel_rfl
 i143 := by kernel_rfl
 i145 := by kernel_rfl
 i167 := by kernel_rfl
 i168 := by kernel_rfl
 i171 := by kernel_rfl
 i173 := by kernel_rfl
 i175 := by kernel_rfl
 i210 := by kernel_rfl
 i212 := by kernel_rfl
 i232 := by kernel_rfl
 i233 := by kernel_rfl
 m15 := by kernel_rfl
 m16 := by kernel_rfl
 m17 := by kernel_rfl
 m18 := by kernel_rfl
 m19 := by kernel_rfl
 c0 := by kernel_rfl
 c2 := by kernel_rfl
 c3 := by kernel_rfl
 c4 := by kernel_rfl
 c5 := by kernel_rfl
 c9 := by kernel_rfl
 c20 := by kernel_rfl
 c21 := by kernel_rfl
 c37 := by kernel_rfl
 c46 := by kernel_rfl
 c51 := by kernel_rfl
 c53 := by kernel_rfl
 c75 := by kernel_rfl
 c76 := by kernel_rfl
 c80 := by kernel_rfl
 c85 := by kernel_rfl
 c127 := by kernel_rfl
 c143 := by kernel_rfl
 c145 := by kernel_rfl
 c167 := by kernel_rfl
 c168 := by kernel_rfl
 c171 := by kernel_rfl
 c173 := by kernel_rfl
 c175 := by kernel_rfl
 c210 := by kernel_rfl
 c212 := by kernel_rfl
 c213 := by kernel_rfl
 c232 := by kernel_rfl
 c233 := by kernel_rfl }
open Go.RowKit in
theorem Tryz.strconv_Atoi_ok (s : ByteArray) (hmax : s.size ≤ 9223372036854775806) (v : Int) (h : Lib.atoiAll s.data.toList = .ok v) (w : World) :
  Calls Tryz.prog 62 #[.string s] w fun e w' => e = .returned (.tuple #[.int .i64 v, .nilIface]) ∧ (w' = w ∨ ∃ t, w' = Lib.bytesWorld w 5 t) := Any.strconv_Atoi_ok Tryz.laysC172 s hmax v h w
open Go.RowKit in
theorem Tryz.strconv_Atoi_syntax (s : ByteArray) (hlim : s.size ≤ 281474976710656) (h : Lib.atoiAll s.data.toList = Lib.NumEnd.syntax) (ev : Value) (w : World) (hv : w.cell? ⟨4, 0, none⟩ = some ev) (hev : ev = .nilIface ∨ ∃ te pe, ev = .iface te pe) :
  Calls Tryz.prog 62 #[.string s] w fun e w' => ∃ N, e = .returned (.tuple #[.int .i64 (0), .iface 129 (.pointer (some ⟨N, 0, none⟩))]) ∧ w.heap.size ≤ N ∧ w'.heap[N]? = some (.cells #[.string ⟨#[65, 116, 111, 105]⟩, .string s, ev] 148 (0, 0)) ∧ Below w.heap.size w w' := Any.strconv_Atoi_syntax Tryz.laysC172 s hlim h ev w hv hev
open Go.RowKit in
theorem Tryz.strconv_Atoi_range (s : ByteArray) (hlim : s.size ≤ 281474976710656) (h : Lib.atoiAll s.data.toList = .range) (ev : Value) (w : World) (hv : w.cell? ⟨5, 0, none⟩ = some ev) (hev : ev = .nilIface ∨ ∃ te pe, ev = .iface te pe) :
  Calls Tryz.prog 62 #[.string s] w fun e w' => ∃ N, e = .returned (.tuple #[.int .i64 (Lib.atoiSat s.data.toList), .iface 129 (.pointer (some ⟨N, 0, none⟩))]) ∧ w.heap.size ≤ N ∧ w'.heap[N]? = some (.cells #[.string ⟨#[65, 116, 111, 105]⟩, .string s, ev] 148 (0, 0)) ∧ Below w.heap.size w w' := Any.strconv_Atoi_range Tryz.laysC172 s hlim h ev w hv hev
def Tryz.lays101_ren : Go.Shelf.Ren := ⟨fun | 101 => 63 | 208 => 80 | 206 => 43 | n => n, fun | 9 => 9 | 4 => 4 | 3 => 3 | n => n, fun | n => n⟩
theorem Tryz.lays101 : Go.Proofs.Lays.n101 Tryz.prog Tryz.lays101_ren := {
 mixed := by kernel_rfl
 f101 := Tryz.func63.trans (congrArg some (by kernel_rfl))
 f206 := Tryz.func43.trans (congrArg some (by kernel_rfl))
 f208 := Tryz.func80.trans (congrArg some (by kernel_rfl))
 t3 := Tryz.underlying3
 a3 := Tryz.isAgg3
 z3 := Tryz.sizeOf3
 v3 := Tryz.zeroValue3
 t4 := Tryz.underlying4
 a4 := Tryz.isAgg4
 z4 := Tryz.sizeOf4
 v4 := Tryz.zeroValue4
 t9 := Tryz.underlying9
 a9 := Tryz.isAgg9
 z9 := Tryz.sizeOf9
 v9 := Tryz.zeroValue9 }
open Go.RowKit Go.Lib in
theorem Tryz.strings_TrimPrefix (s p : ByteArray) (w : World) :
  Calls Tryz.prog 63 #[.string s, .string p] w fun e w' => e = .returned (.string ⟨(Lib.trimPrefix s.data.toList p.data.toList).toArray⟩) ∧ w' = w := Any.strings_TrimPrefix Tryz.lays101 s p w
def Tryz.lays146_ren : Go.Shelf.Ren := ⟨fun | 146 => 16 | 221 => 42 | 268 => 59 | 138 => 60 | 143 => 61 | 195 => 74 | 197 => 75 | 218 => 76 | 219 => 77 | 260 => 89 | 217 => 90 | 225 => 91 | 224 => 92 | 267 => 93 | 266 => 105 | 314 => 106 | n => n, fun | 9 => 9 | 31 => 47 | 3 => 3 | 4 => 4 | 0 => 0 | 105 => 110 | 21 => 21 | 5 => 5 | 46 => 125 | 119 => 138 | 139 => 141 | 138 => 140 | 146 => 142 | 51 => 41 | n => n, fun | 1 => 0 | 3 => 2 | 4 => 3 | n => n⟩
theorem Tryz.lays146 : Go.Proofs.Lays.n146 Tryz.prog Tryz.lays146_ren := {
 mixed := by kernel_rfl
 f138 := Tryz.func60.trans (congrArg some (by kernel_rfl))
 f143 := Tryz.func61.trans (congrArg some (by kernel_rfl))
 f146 := Tryz.func16.trans (congrArg some (by kernel_rfl))
 f195 := Tryz.func74.trans (congrArg some (by kernel_rfl))
 f197 := Tryz.func75.trans (congrArg some (by kernel_rfl))
 f217 := Tryz.func90.trans (congrArg some (by kernel_rfl))
 f218 := Tryz.func76.trans (congrArg some (by kernel_rfl))
 f219 := Tryz.func77.trans (congrArg some (by kernel_rfl))
 f221 := Tryz.func42.trans (congrArg some (by kernel_rfl))
 f224 := Tryz.func92.trans (congrArg some (by kernel_rfl))
 f225 := Tryz.func91.trans (congrArg some (by kernel_rfl))
 f260 := Tryz.func89.trans (congrArg some (by kernel_rfl))
 f266 := Tryz.func105.trans (congrArg some (by kernel_rfl))
 f267 := Tryz.func93.trans (congrArg some (by kernel_rfl))
 f268 := Tryz.func59.trans (congrArg some (by kernel_rfl))
 f314 := Tryz.func106.trans (congrArg some (by kernel_rfl))
 t0 := Tryz.underlying0
 a0 := Tryz.isAgg0
 z0 := Tryz.sizeOf0
 v0 := Tryz.zeroValue0
 t3 := Tryz.underlying3
 a3 := Tryz.isAgg3
 z3 := Tryz.sizeOf3
 v3 := Tryz.zeroValue3
 t4 := Tryz.underlying4
 a4 := Tryz.isAgg4
 z4 := Tryz.sizeOf4
 v4 := Tryz.zeroValue4
 t5 := Tryz.underlying5
 a5 := Tryz.isAgg5
 z5 := Tryz.sizeOf5
 v5 := Tryz.zeroValue5
 t9 := Tryz.underlying9
 a9 := Tryz.isAgg9
 z9 := Tryz.sizeOf9
 v9 := Tryz.zeroValue9
 t21 := Tryz.underlying21
 a21 := Tryz.isAgg21
 z21 := Tryz.sizeOf21
 v21 := Tryz.zeroValue21
 t31 := Tryz.underlying47
 a31 := Tryz.isAgg47
 z31 := Tryz.sizeOf47
 v31 := Tryz.zeroValue47
 t46 := Tryz.underlying125
 a46 := Tryz.isAgg125
 z46 := Tryz.sizeOf125
 v46 := Tryz.zeroValue125
 t51 := Tryz.underlying41
 a51 := Tryz.isAgg41
 z51 := Tryz.sizeOf41
 v51 := Tryz.zeroValue41
 t105 := Tryz.underlying110
 a105 := Tryz.isAgg110
 z105 := Tryz.sizeOf110
 v105 := Tryz.zeroValue110
 t119 := Tryz.underlying138
 a119 := Tryz.isAgg138
 z119 := Tryz.sizeOf138
 t138 := Tryz.underlying140
 a138 := Tryz.isAgg140
 z138 := Tryz.sizeOf140
 v138 := Tryz.zeroValue140
 t139 := Tryz.underlying141
 a139 := Tryz.isAgg141
 z139 := Tryz.sizeOf141
 v139 := Tryz.zeroValue141
 t146 := Tryz.underlying142
 a146 := Tryz.isAgg142
 z146 := Tryz.sizeOf142
 v146 := Tryz.zeroValue142
 g1 := by kernel_rfl
 g3 := by kernel_rfl
 g4 := by kernel_rfl }
open Go.RowKit Go.Lib in
theorem Tryz.strings_Split (s sep : ByteArray) (m : Int) (w : World) (hs : s.size < 4294967281) (hm : w.cell? ⟨0, 0, none⟩ = some (.int .i64 m)) (h1 : 1 ≤ sep.size) :
  Calls Tryz.prog 16 #[.string s, .string sep] w fun e w' =>
   e = .returned (.slice (some ⟨w.heap.size, 0, none⟩) (Lib.countB s sep + 1) (Lib.countB s sep + 1)) ∧ w' = w.alloc (.cells ((Lib.splitB sep 0 (Lib.countB s sep) s).map Value.string).toArray 9) := Any.strings_Split Tryz.lays146 (by kernel_rfl) s sep m w hs hm h1
end Go.Proofs
namespace Go.Proofs.YtkgllhkhdjodeaaGreatDoor
open Go Go.Eng Go.Proofs Go.RowKit Fm
/-- What the library's variables hold. -/
structure LibW (w : World) : Prop where
 tab : Tab w
 ml : ∃ m, w.cell? ⟨0, 0, none⟩ = some (.int .i64 m)
 es : ∃ ev, w.cell? ⟨4, 0, none⟩ = some ev ∧ (ev = .nilIface ∨ ∃ te pe, ev = .iface te pe)
 er : ∃ ev, w.cell? ⟨5, 0, none⟩ = some ev ∧ (ev = .nilIface ∨ ∃ te pe, ev = .iface te pe)
theorem LibW.next {w0 w : World} {C : List Chunk} (h : LibW w0) (hS : St w0 [] C w) : LibW w := by
 obtain ⟨m, hm⟩ := h.ml
 obtain ⟨e1, h1, h1'⟩ := h.es
 obtain ⟨e2, h2, h2'⟩ := h.er
 exact ⟨h.tab.next hS, ⟨m, hS.oldc hm (by simp)⟩, ⟨e1, hS.oldc h1 (by simp), h1'⟩, ⟨e2, hS.oldc h2 (by simp), h2'⟩⟩
theorem St.of_below {w w' : World} (h : Below w.heap.size w w') : St w [] [] w' :=
 ⟨h.os, h.tape, h.output, h.size, fun k hk _ => h.block k hk, by simp, by simp, .nil⟩
theorem Split_c (s : List UInt8) (c : UInt8) (hs : s.length ≤ 1000000000) (w : World) (hl : LibW w) :
  Calls Tryz.prog 16 [.string (str s), .string (str [c])].toArray w fun e w' => ∃ b : Nat, e = .returned (.slice (some ⟨b, 0, none⟩) (splitC c s).length (splitC c s).length) ∧
   St w [] [rowc (.slice (some ⟨b, 0, none⟩) (splitC c s).length (splitC c s).length) (splitC c s).length 9 1 (strs (splitC c s))] w' := by
 obtain ⟨m, hm⟩ := hl.ml
 have hlen := Lib.splitB_all (str [c]) (by rw [str_size]; exact Nat.le_refl 1) 0 _ (str s) rfl
 have hd := Lib.splitB_data (str [c]) 0 (Lib.countB (str s) (str [c])) (str s)
 have hk : Lib.splitK [c] 0 (Lib.count s [c]) s = splitC c s := split_c c s
 have e1 : (str s).data.toList = s := by simp [str]
 have e2 : (str [c]).data.toList = [c] := by simp [str]
 have e3 : Lib.countB (str s) (str [c]) = Lib.count s [c] := by unfold Lib.countB; rw [e1, e2]
 rw [e1, e2, e3, hk] at hd
 have hcl : (Lib.splitB (str [c]) 0 (Lib.countB (str s) (str [c])) (str s)).map Value.string = strs (splitC c s) := by
  rw [e3, ← hd]
  unfold strs
  rw [List.map_map]
  refine List.map_congr_left fun x _ => ?_
  show Value.string x = Value.string (str x.data.toList)
  congr 1
 have hn : Lib.countB (str s) (str [c]) + 1 = (splitC c s).length := by
  rw [← hlen, e3]
  have := congrArg List.length hd
  rw [List.length_map] at this
  exact this
 refine (Tryz.strings_Split (str s) (str [c]) m w (by rw [str_size]; omega) hm (by rw [str_size]; exact Nat.le_refl 1)).mono ?_
 rintro e w' ⟨he, hw⟩
 refine ⟨w.heap.size, by rw [he, hn], ?_⟩
 rw [hw, hcl]
 have h1 := (St.init w).alloc (strs (splitC c s)) 9
 refine h1.rowOf (by simp [strs]) ?_
 have := splitC_len c s
 exact Nat.le_trans (m := 1000000001) (by omega) (by decide)
def AtoiIs (s : List UInt8) (v : Int) (er : Value) : Prop := (er = .nilIface ∧ Lib.atoiAll s = .ok v) ∨ ((∃ t p, er = .iface t p) ∧ ∀ x, Lib.atoiAll s ≠ .ok x)
theorem Atoi_c (s : List UInt8) (hs : s.length ≤ 1000000000) (w : World) (hl : LibW w) :
  Calls Tryz.prog 62 [.string (str s)].toArray w fun e w' => ∃ x : { x : Int × Value // AtoiIs s x.1 x.2 }, e = .returned (.tuple #[.int .i64 x.1.1, x.1.2]) ∧ St w [] [] w' := by
 have e1 : (str s).data.toList = s := by simp [str]
 have hsz : (str s).size = s.length := str_size s
 rcases h : Lib.atoiAll s with v | _ | _
 ·refine (Tryz.strconv_Atoi_ok (str s) (by rw [hsz]; omega) v (by rw [e1]; exact h) w).mono ?_
  rintro e w' ⟨rfl, hw⟩
  refine ⟨⟨(v, .nilIface), .inl ⟨rfl, h⟩⟩, rfl, ?_⟩
  rcases hw with rfl | ⟨t, rfl⟩
  ·exact St.init _
  ·exact St.of_below (Lib.bytesWorld_below _ _ _)
 ·obtain ⟨ev, h1, h2⟩ := hl.es
  refine (Tryz.strconv_Atoi_syntax (str s) (by rw [hsz]; omega) (by rw [e1]; exact h) ev w h1 h2).mono ?_
  rintro e w' ⟨N, rfl, _, _, hb⟩
  exact ⟨⟨(0, _), .inr ⟨⟨_, _, rfl⟩, fun x hx => by rw [h] at hx; cases hx⟩⟩, rfl, St.of_below hb⟩
 ·obtain ⟨ev, h1, h2⟩ := hl.er
  refine (Tryz.strconv_Atoi_range (str s) (by rw [hsz]; omega) (by rw [e1]; exact h) ev w h1 h2).mono ?_
  rintro e w' ⟨N, rfl, _, _, hb⟩
  exact ⟨⟨(_, _), .inr ⟨⟨_, _, rfl⟩, fun x hx => by rw [h] at hx; cases hx⟩⟩, rfl, St.of_below hb⟩
theorem Trim_c (s : List UInt8) (w : World) : Pure Tryz.prog 63 [.string (str s), .string (str [45])] w (.string (str (unsign s))) := by
 refine (Tryz.strings_TrimPrefix (str s) (str [45]) w).mono ?_
 rintro e w' ⟨rfl, rfl⟩
 refine ⟨?_, St.init _⟩
 have e1 : (str s).data.toList = s := by simp [str]
 have e2 : (str [45]).data.toList = [45] := by simp [str]
 rw [e1, e2, trim_unsign]
 rfl
abbrev NumX (s : List UInt8) : Type := { v : Int // isNum s = true → valD s = v }

theorem number_c (s : List UInt8) (hs : s.length ≤ 1000000000) (w : World) (hl : LibW w) :
  Calls Tryz.prog 44 [.string (str s)].toArray w fun e w' => ∃ x : NumX s, e = .returned (.tuple #[.int .i64 x.1, .bool (isNum s)]) ∧ St w [] [] w' := by
 refine enter Tryz.func44 rfl Tryz.ntmps44 rfl (St.init _) ?_
 refine jN 13 ?_
 refine jC (β := { x : Int × Value // AtoiIs s x.1 x.2 }) (res := fun x => .tuple #[.int .i64 x.1.1, x.1.2]) (cs := fun _ => []) F.fun62 rfl (fun w hS _ => Atoi_c s hs w (hl.next hS)) (fun x8 => ?_)
 obtain ⟨⟨v, er⟩, hx8⟩ := x8
 dsimp only at hx8 ⊢
 refine jN 13 ?_
 rcases hx8 with ⟨rfl, hok⟩ | ⟨⟨t, q, rfl⟩, hno⟩
 ·obtain ⟨hb1, hb2⟩ := num_ok hok
  have hbd := atoiAll_bd hok
  refine jN 6 ?_
  refine WL.bin rfl rfl rfl (v := .bool true) (fun w => by kernel_rfl) ?_
  refine jN 2 ?_
  refine WA.splitB (i := 14) rfl (fun g14 => ?_) (fun g14 => ?_)
  ·refine jN 5 ?_
   refine WL.callV F.fun63 rfl rfl (fun w hS => Trim_c s w) ?_
   refine jN 10 ?_
   refine WA.splitB (i := 20) rfl (fun g20 => ?_) (fun g20 => ?_)
   ·have g9 : (unsign s).length ≤ 9 := by simp at g20; omega
    refine jN 5 ?_
    refine WL.callV F.fun27 rfl rfl (fun w hS => Itoa_c v hbd.1 hbd.2 w (hl.next hS).tab) ?_
    refine jN 15 ?_
    exact WQ.ret (rs := [.tmp 2, .tmp 3]) rfl (.tmp rfl (.tmp rfl .nil)) (fun w hS => ⟨⟨v, hb2⟩, congrArg (fun z => Ending.returned (Value.tuple #[.int .i64 v, .bool z])) (show _ = isNum s from by rw [hb1, decide_eq_true g9, Bool.true_and, Bool.eq_iff_iff]; simp), hS⟩)
   ·have g9 : ¬ (unsign s).length ≤ 9 := by simp at g20; omega
    refine jN 17 ?_
    exact WQ.ret (rs := [.tmp 2, .tmp 3]) rfl (.tmp rfl (.tmp rfl .nil)) (fun w hS => ⟨⟨v, hb2⟩, congrArg (fun z => Ending.returned (Value.tuple #[.int .i64 v, .bool z])) (show _ = isNum s from by rw [hb1, decide_eq_false g9, Bool.false_and]), hS⟩)
  ·exfalso; cases g14
 ·have hb1 := num_no hno
  refine jN 6 ?_
  refine WL.bin rfl rfl rfl (v := .bool false) (fun w => by kernel_rfl) ?_
  refine jN 2 ?_
  refine WA.splitB (i := 14) rfl (fun g14 => ?_) (fun g14 => ?_)
  ·exfalso; cases g14
  ·refine jN 29 ?_
   exact WQ.ret (rs := [.tmp 2, .tmp 3]) rfl (.tmp rfl (.tmp rfl .nil)) (fun w hS => ⟨⟨v, fun e => by rw [hb1] at e; cases e⟩, congrArg (fun z => Ending.returned (Value.tuple #[.int .i64 v, .bool z])) (show _ = isNum s from by rw [hb1]), hS⟩)

end Go.Proofs.YtkgllhkhdjodeaaGreatDoor

namespace Go.Proofs.YtkgllhkhdjodeaaGreatDoor
open Go Go.Eng Go.Proofs
open Go.RowKit Fm
structure SpG where
 i : Nat
 f : Nat
 l : List (List UInt8)
 a : Option Addr
 c : Nat
def SpI (ch : UInt8) (s : List UInt8) (g : SpG) : Prop := g.f ≤ g.i ∧ g.i ≤ s.length ∧ g.l ++ splitOn ch ((s.drop g.f).take (g.i - g.f)) (s.drop g.i) = splitC ch s
theorem strs_at {l : List (List UInt8)} {i : Nat} {s : List UInt8} (h : l[i]? = some s) : (strs l)[i]? = some (.string (str s)) := by
 unfold strs; rw [List.getElem?_map, h]; rfl

end Go.Proofs.YtkgllhkhdjodeaaGreatDoor

/-
 Maps from strings to 'true' in memory.
-/
namespace Go.Eng
open Go Go.RowKit
def mpc (b : Nat) (ks : List (List UInt8)) : Chunk where
 fp k := k = b
 ok w := ∃ (es : Array MapEntry) (clock : Nat), w.heap[b]? = some (.map es clock) ∧ es.toList.map (fun e => (e.key, e.val)) = ks.map (fun s => (Value.string (str s), Value.bool true))
 loc w w' h := fun ⟨es, c, h1, h2⟩ => ⟨es, c, (h b rfl).trans h1, h2⟩
section
variable {P : Program} {w0 : World} {O : List Nat} {ops : Array Oper} {Q : Exit → Act → World → Prop} {N : Nat} {D : List Deferred} {L : FL} {C : List Chunk} {K : Act → World → Prop}
variable {d : Nat} {ty : TypeId} {pos : String} {af : Array Edge}
end
end Go.Eng

/-
 Maps in memory, as functions from keys.
-/
namespace Go.Eng
open Go Go.RowKit
def kidx {κ : Type} [DecidableEq κ] : List (κ × Value) → κ → Nat → Option (Nat × Value)
 | [], _, _ => none
 | p :: r, k, i => if p.1 = k then some (i, p.2) else kidx r k (i + 1)
def kfind {κ : Type} [DecidableEq κ] : List (κ × Value) → κ → Option Value
 | [], _ => none
 | p :: r, k => if p.1 = k then some p.2 else kfind r k
/-- Keys of a type, as values of κ. -/
structure KeyT (P : Program) (kt : TypeId) {κ : Type} [DecidableEq κ] (enc : κ → Value) : Prop where
 check : ∀ e w k, (Instr.checkKey e 10000 kt (enc k)).run P w = .ok () w
 find : ∀ w k (es : List MapEntry) (kvs : List (κ × Value)), es.map (fun e => (e.key, e.val)) = kvs.map (fun p => (enc p.1, p.2)) → (Instr.findKey kt (enc k) es).run P w = .ok (kidx kvs k 0) w
 stays : ∀ w k, (Instr.keyThatStays (enc k) (enc k)).run P w = .ok (enc k) w
def mpg {κ : Type} [DecidableEq κ] (enc : κ → Value) (b : Nat) (f : κ → Option Value) : Chunk where
 fp k := k = b
 ok w := ∃ (es : Array MapEntry) (clock : Nat) (kvs : List (κ × Value)), w.heap[b]? = some (.map es clock) ∧ es.toList.map (fun e => (e.key, e.val)) = kvs.map (fun p => (enc p.1, p.2)) ∧ ∀ k, f k = kfind kvs k
 loc w w' h := fun ⟨es, c, kvs, h1, h2⟩ => ⟨es, c, kvs, (h b rfl).trans h1, h2⟩
section
variable {P : Program} {w0 : World} {O : List Nat} {ops : Array Oper} {Q : Exit → Act → World → Prop} {N : Nat} {D : List Deferred} {L : FL} {C : List Chunk} {K : Act → World → Prop}
variable {d : Nat} {ty : TypeId} {pos : String} {af : Array Edge}
variable {κ : Type} [DecidableEq κ] {enc : κ → Value} {kt : TypeId}
end
/-! ### keys: numbers, pairs and triples of numbers -/
def encI (n : Nat) : Value := .int .i64 (n : Int)
def enc2 (p : Nat × Nat) : Value := .agg #[.int .i64 (p.1 : Int), .int .i64 (p.2 : Int)]
def enc3 (p : Nat × Nat × Nat) : Value := .agg #[.int .i64 (p.1 : Int), .int .i64 (p.2.1 : Int), .int .i64 (p.2.2 : Int)]
section
variable {P : Program} {kt : TypeId} {κ : Type} [DecidableEq κ] {enc : κ → Value}
theorem findAsking_kidx {w : World} (hs : ∀ a b : κ, (Op.equal kt (enc a) (enc b)).run P w = .ok (decide (b = a)) w) (k : κ) : ∀ (es : List MapEntry) (kvs : List (κ × Value)) (i : Nat), es.map (fun e => (e.key, e.val)) = kvs.map (fun p => (enc p.1, p.2)) → (Instr.findAsking kt (enc k) es i).run P w = .ok (kidx kvs k i) w
 | [], [], _, _ => by simp [Instr.findAsking, kidx]
 | [], p :: r, _, h => by simp at h
 | e :: es, [], _, h => by simp at h
 | e :: es, p :: r, i, h => by
  simp only [List.map_cons, List.cons.injEq, Prod.mk.injEq] at h
  obtain ⟨⟨h1, h2⟩, h3⟩ := h
  unfold Instr.findAsking kidx
  simp only [Sem.run_bind, h1, hs k p.1, Result.andThen_ok, h2]
  by_cases hp : p.1 = k
  ·simp [hp]
  ·simp only [hp, decide_false, if_false, Bool.false_eq_true]
   exact findAsking_kidx hs k es r (i + 1) h3
end
end Go.Eng

namespace Go.Eng
open Go Go.RowKit
section
variable {P : Program} {w0 : World} {O : List Nat} {Q : Exit → Act → World → Prop} {N : Nat} {D : List Deferred} {L : FL} {C : List Chunk}
end
section
variable {ops : Array Oper} {Fs : List (List Nat × (World → Prop))}
/-- Which operations wait, at once or at length, for the i-th: in one pass. -/
def fwd (i : Nat) : List Oper → List Bool → List Bool
 | [], acc => acc
 | o :: os, acc => fwd i os (acc ++ [o.after.any fun e => Region.binds .any e && (e.on == i || acc.getD e.on false)])
def allIn (l : List Bool) (ds : List Nat) : Bool := ds.all fun j => l.getD j false
end
end Go.Eng

/-
 Bundles of chunks; map look-ups in regions that draw.
-/
namespace Go.Eng
open Go Go.RowKit Go.Proofs.YtkgllhkhdjodeaaGreatDoor
/-- Chunks as one, some of whose parameters are forgotten. -/
def bun (F : List Nat) {α : Type} (Cs : α → List Chunk) (φ : α → Prop) : Chunk where
 fp k := k ∈ F
 ok w := ∃ x, φ x ∧ (∀ c ∈ Cs x, c.ok w) ∧ (Cs x).Pairwise (fun (c d : Chunk) => ∀ k : Nat, c.fp k → ¬ d.fp k) ∧ (∀ c ∈ Cs x, ∀ k, c.fp k → k ∈ F) ∧ ∀ k ∈ F, ∃ c ∈ Cs x, c.fp k
 loc w w' h := fun ⟨x, h1, h2, h3, h4, h5⟩ => ⟨x, h1, fun c hc => c.loc w w' (fun k hk => h k (h4 c hc k hk)) (h2 c hc), h3, h4, h5⟩
section
variable {P : Program} {w0 : World} {O : List Nat} {ops : Array Oper} {Q : Exit → Act → World → Prop} {N : Nat} {D : List Deferred} {L : FL} {C : List Chunk} {K : Act → World → Prop}
variable {d : Nat} {ty : TypeId} {pos : String} {af : Array Edge}
/-- A footprint as a list. -/
def FpIs (c : Chunk) (F : List Nat) : Prop := ∀ k, c.fp k ↔ k ∈ F
theorem FpIs.pt {b : Nat} {cs : List Value} {e : TypeId} : FpIs (pt b cs e) [b] := fun k => by
 show k = b ↔ _
 simp
theorem FpIs.mpg {κ : Type} [DecidableEq κ] {enc : κ → Value} {b : Nat} {f : κ → Option Value} : FpIs (mpg enc b f) [b] := fun k => by
 show k = b ↔ _
 simp
theorem FpIs.rowc {v : Value} {n : Nat} {e : TypeId} {sz : Nat} {xs : List Value} : FpIs (rowc v n e sz xs) (ob v) := fun k => by
 rw [mem_ob]; rfl
theorem FpIs.bun {F : List Nat} {α : Type} {Cs : α → List Chunk} {φ : α → Prop} : FpIs (bun F Cs φ) F := fun k => Iff.rfl
inductive FpL : List Chunk → List Nat → Prop
 | nil : FpL [] []
 | cons {c F Cs Fs} : FpIs c F → FpL Cs Fs → FpL (c :: Cs) (F ++ Fs)
theorem FpL.one {Cs : List Chunk} {F : List Nat} (h : FpL Cs F) : ∀ c ∈ Cs, ∀ k, c.fp k → k ∈ F := by
 induction h with
 | nil => intro c hc; cases hc
 | cons h1 h2 ih =>
  intro c hc k hk
  rcases List.mem_cons.1 hc with rfl | hc
  ·exact List.mem_append_left _ ((h1 k).1 hk)
  ·exact List.mem_append_right _ (ih c hc k hk)
theorem FpL.two {Cs : List Chunk} {F : List Nat} (h : FpL Cs F) : ∀ k ∈ F, ∃ c ∈ Cs, c.fp k := by
 induction h with
 | nil => intro k hk; cases hk
 | cons h1 h2 ih =>
  intro k hk
  rcases List.mem_append.1 hk with hk | hk
  ·exact ⟨_, List.mem_cons_self .., (h1 k).2 hk⟩
  ·obtain ⟨c, hc, hk⟩ := ih k hk
   exact ⟨c, List.mem_cons_of_mem _ hc, hk⟩
/-- The blocks of chunks lie where the caller may turn them: other old blocks stay. -/
theorem St.apart {w : World} {C1 : List Chunk} {F : List Nat} (h : St w0 O (C ++ C1) w) (h2 : ∀ k ∈ F, ∃ c ∈ C, c.fp k) {z : Nat} (hz : z < w0.heap.size) (hO : z ∉ O) : z ∉ F := fun hk => by
 obtain ⟨c, hc, hf⟩ := h2 z hk
 exact hO ((h.bnd c (List.mem_append_left _ hc) z hf).2 hz)
/-! ### look-ups that only read -/
variable {κ : Type} [DecidableEq κ] {enc : κ → Value} {kt : TypeId}
theorem LoadOk.map {b : Nat} {f : κ → Option Value} (hm : mpg enc b f ∈ C) : LoadOk w0 O L C (fun w => (mpg enc b f).ok w) := fun w hS => hS.ok _ hm
end
/-! ### keys that are structs or arrays of numbers -/
section
variable {P : Program} {kt : TypeId}
structure IntF (P : Program) (f : Field) (off : Nat) : Prop where
 name : f.name ≠ "_"
 offset : f.offset = off
 plain : P.plainKey f.type = true
 int : P.underlying f.type = some (.int .i64)
def intFB (P : Program) (f : Field) (off : Nat) : Bool := f.name != "_" && f.offset == off && P.plainKey f.type && (match P.underlying f.type with | some (.int .i64) => true | _ => false)
theorem IntF.of {f : Field} {off : Nat} (h : intFB P f off = true) : IntF P f off := by
 unfold intFB at h
 simp only [Bool.and_eq_true, bne_iff_ne, beq_iff_eq] at h
 refine ⟨h.1.1.1, h.1.1.2, h.1.2, ?_⟩
 have h2 := h.2
 split at h2
 ·assumption
 ·cases h2
theorem run_equal_int {t : TypeId} (hu : P.underlying t = some (.int .i64)) (d : Nat) (a b : Int) (w : World) : (Op.equalIn (d + 1) t (.int .i64 a) (.int .i64 b)).run P w = .ok (a == b) w := by
 simp [Op.equalIn, run_underlying hu]
def threeB (P : Program) (kt : TypeId) : Bool := match P.underlying kt with
 | some (.struct fs) => (match fs with
  | ⟨[f0, f1, f2]⟩ => intFB P f0 0 && intFB P f1 1 && intFB P f2 2 && !P.stoodInHeld kt
  | _ => false)
 | _ => false
theorem KeyT.two {e : TypeId} {i : TypeInfo} (hu : P.underlying kt = some (.array 2 e)) (he : P.underlying e = some (.int .i64)) (hp : P.plainKey e = true) (hi : P.info? e = some i) (hc : P.cellsOf e = 1) : KeyT P kt enc2 where
 check em w k := by
  unfold enc2
  show (Instr.checkKey em (9998 + 1 + 1) kt _).run P w = _
  rw [Instr.checkKey]
  have p0 := run_part_plain w hp (xs := #[.int .i64 (k.1 : Int), .int .i64 (k.2 : Int)]) (off := 0) (v := .int .i64 (k.1 : Int)) rfl
  have p1 := run_part_plain w hp (xs := #[.int .i64 (k.1 : Int), .int .i64 (k.2 : Int)]) (off := 1) (v := .int .i64 (k.2 : Int)) rfl
  simp only [Sem.run_bind, run_underlying hu, Result.andThen_ok]
  have hsz := Go.run_sizeOf w hi
  rw [hc] at hsz
  simp only [Std.Legacy.Range.forIn_eq_forIn_range', Std.Legacy.Range.size, Nat.sub_zero, Nat.add_one_sub_one, Nat.div_one]
  rw [show List.range' 0 2 = [0, 1] from rfl]
  have c0 := MapKept.run_checkKey (w := w) he (k := .int .i64 (k.1 : Int)) (by simp [MapKept.IsKey]) em 9998
  have c1 := MapKept.run_checkKey (w := w) he (k := .int .i64 (k.2 : Int)) (by simp [MapKept.IsKey]) em 9998
  simp only [List.forIn_cons, List.forIn_nil, Sem.run_bind, hsz, Result.andThen_ok, Nat.zero_mul, Nat.one_mul, p0, p1, c0, c1, Sem.run_pure]
 find w k es kvs h := by
  rw [run_findKey_eq w (by rw [hu])]
  refine findAsking_kidx (fun a b => ?_) k es kvs 0 h
  obtain ⟨a1, a2⟩ := a
  obtain ⟨b1, b2⟩ := b
  unfold enc2
  simp only
  show (Op.equalIn (9998 + 1 + 1) kt _ _).run P w = _
  have p0 := run_part_plain w hp (xs := #[.int .i64 (a1 : Int), .int .i64 (a2 : Int)]) (off := 0) (v := .int .i64 (a1 : Int)) rfl
  have p1 := run_part_plain w hp (xs := #[.int .i64 (a1 : Int), .int .i64 (a2 : Int)]) (off := 1) (v := .int .i64 (a2 : Int)) rfl
  have q0 := run_part_plain w hp (xs := #[.int .i64 (b1 : Int), .int .i64 (b2 : Int)]) (off := 0) (v := .int .i64 (b1 : Int)) rfl
  have q1 := run_part_plain w hp (xs := #[.int .i64 (b1 : Int), .int .i64 (b2 : Int)]) (off := 1) (v := .int .i64 (b2 : Int)) rfl
  have e0 := run_equal_int he 9998 (a1 : Int) (b1 : Int) w
  have e1 := run_equal_int he 9998 (a2 : Int) (b2 : Int) w
  rw [run_equalIn_array w _ _ _ hu hi, hc]
  show (Op.eqItems _ _ _ _ _ [0, 1]).run P w = _
  simp only [Op.eqItems, Sem.run_bind, Nat.zero_mul, Nat.one_mul, p0, p1, q0, q1, e0, e1, Result.andThen_ok]
  cases c0 : ((a1 : Int) == (b1 : Int)) with
  | false =>
   have : ¬ ((b1, b2) = (a1, a2)) := by
    simp only [beq_eq_false_iff_ne, ne_eq] at c0
    simp only [Prod.mk.injEq]; omega
   simp [this]
  | true =>
   simp only [Bool.not_true, Bool.false_eq_true, if_false, Sem.run_bind, Sem.run_pure, Result.andThen_ok, p1, q1, e1]
   cases c1 : ((a2 : Int) == (b2 : Int)) with
   | false =>
    have : ¬ ((b1, b2) = (a1, a2)) := by
     simp only [beq_eq_false_iff_ne, ne_eq] at c1
     simp only [Prod.mk.injEq]; omega
    simp [this]
   | true =>
    have : (b1, b2) = (a1, a2) := by
     simp only [beq_iff_eq] at c0 c1
     simp only [Prod.mk.injEq]; omega
    simp [this]
 stays w k := by
  have : Instr.sameBits 10000 (enc2 k) (enc2 k) = true := by
   unfold enc2
   show Instr.sameBits (9999 + 1) _ _ = true
   simp [Instr.sameBits]
  simp [Instr.keyThatStays, this]
def twoB (P : Program) (kt : TypeId) : Bool := match P.underlying kt with
 | some (.array 2 e) => P.plainKey e && P.cellsOf e == 1 && (match P.underlying e with | some (.int .i64) => true | _ => false) && (P.info? e).isSome
 | _ => false
end
end Go.Eng

/-
 Stores into a row of the holder's own.
-/
namespace Go.Eng
open Go Go.RowKit
theorem SetN.append {cs cs' vs : List Value} {off : Nat} (ys : List Value) (h : SetN cs off vs cs') : SetN (cs ++ ys) off vs (cs' ++ ys) := by
 induction h with
 | nil => exact .done
 | done => exact .done
 | put _ ih => exact .put ih
 | skip _ ih => exact .skip ih
theorem SetN.len {cs cs' vs : List Value} {off : Nat} (h : SetN cs off vs cs') : cs'.length = cs.length := by
 obtain ⟨h1, h2⟩ := h.eq
 rw [← h1]; simp; omega
section
variable {P : Program} {w0 : World} {O : List Nat} {ops : Array Oper} {Q : Exit → Act → World → Prop} {N : Nat} {D : List Deferred} {L : FL} {C : List Chunk} {K : Act → World → Prop}
variable {d : Nat} {ty : TypeId} {pos : String} {af : Array Edge}
end
end Go.Eng

/-
 A tree that is partly the entry world's: read it again in any world that keeps the fresh blocks and the old ones.
-/
namespace Go.Eng
open Go Go.RowKit
def Keeps (wb w : World) (F : List Nat) (w' : World) : Prop := (∀ k ∈ F, w'.heap[k]? = w.heap[k]?) ∧ ∀ k, k < wb.heap.size → w'.heap[k]? = wb.heap[k]?
def shr (wb : World) (F : List Nat) (t : Tree) (v : Value) : Chunk where
 fp k := k ∈ F
 ok w := ∃ G, ∀ w', Keeps wb w F w' → rdT w' t G v
 loc w w' h := fun ⟨G, hG⟩ => ⟨G, fun w2 hk => hG w2 ⟨fun k hkF => (hk.1 k hkF).trans (h k hkF), hk.2⟩⟩
def shrL (wb : World) (F : List Nat) (ts : List Tree) (vs : List Value) : Chunk where
 fp k := k ∈ F
 ok w := ∃ G, ∀ w', Keeps wb w F w' → rdL w' ts G vs
 loc w w' h := fun ⟨G, hG⟩ => ⟨G, fun w2 hk => hG w2 ⟨fun k hkF => (hk.1 k hkF).trans (h k hkF), hk.2⟩⟩
section
variable {w0 : World} {O : List Nat} {C : List Chunk}
end
end Go.Eng

namespace Go.Eng
open Go Go.RowKit
section
variable {P : Program} {w0 : World} {O : List Nat} {ops : Array Oper} {Q : Exit → Act → World → Prop} {N : Nat} {D : List Deferred} {L : FL} {C : List Chunk} {K : Act → World → Prop}
variable {Fs : List (List Nat × (World → Prop))}
end
end Go.Eng

/-
 More operations: a map's literal, min, xor.
-/
namespace Go.Eng
open Go Go.RowKit
section
variable {P : Program} {w0 : World} {O : List Nat} {ops : Array Oper} {Q : Exit → Act → World → Prop} {N : Nat} {D : List Deferred} {L : FL} {C : List Chunk} {K : Act → World → Prop}
variable {d : Nat} {ty : TypeId} {pos : String} {af : Array Edge}
variable {κ : Type} [DecidableEq κ] {enc : κ → Value} {kt : TypeId}
theorem WC.cutQ {c : Code} (M : FL) (C' : List Chunk) (hq : NoLook Q) (hx : ∀ Q', NoLook Q' → WQ w0 O Q' .normal N D M C' → WC P w0 O c Q' N D L C) (hy : WQ w0 O Q .normal N D M C') : WC P w0 O c Q N D L C := hx Q hq hy
end
end Go.Eng

namespace Go.Proofs.YtkgllhkhdjodeaaGreatDoor
open Go Go.Eng Go.Proofs
open Go.RowKit Fm
def digB (u : List UInt8) (i : Nat) : Prop := ∀ j c, j < i → u[j]? = some c → 48 ≤ c.toNat ∧ c.toNat ≤ 57
/-- What Number has to show at its end. -/
def NumE (s u : List UInt8) (sg : Int) : Prop := unsign s = u ∧ (sg = 1 ∨ sg = -1) ∧ valD s = sg * (digV u : Int)
theorem NumE.bad {s u : List UInt8} {sg : Int} (h : NumE s u sg) {c : UInt8} {i : Nat} (hc : u[i]? = some c) (hb : ¬ (48 ≤ c.toNat ∧ c.toNat ≤ 57)) : isNum s = false := by
 cases hn : isNum s with
 | false => rfl
 | true =>
  have := (isNum_shape hn).2.2
  rw [h.1] at this
  exact absurd (this c (List.mem_of_getElem? hc)) hb
def sgn (s : List UInt8) : Int := if s.head? = some 45 then -1 else 1
end Go.Proofs.YtkgllhkhdjodeaaGreatDoor

namespace Go.Proofs.YtkgllhkhdjodeaaGreatDoor
open Go Go.Eng Go.Proofs
open Go.RowKit Fm
theorem getLast_at {l : List (List UInt8)} (h : 1 ≤ l.length) : ∃ y, l[l.length - 1]? = some y ∧ (l.getLast? = some [] ↔ y = []) := by
 refine ⟨l[l.length - 1], List.getElem?_eq_getElem (by omega), ?_⟩
 rw [List.getLast?_eq_getElem?, List.getElem?_eq_getElem (by omega)]
 simp
theorem lines_T {s : List UInt8} {y : List UInt8} (h : (splitC 10 s).getLast? = some [] ↔ y = []) (hy : y = []) : linesL s = (splitC 10 s).dropLast := by
 unfold linesL
 simp only
 rw [if_pos (h.2 hy)]
theorem lines_F {s : List UInt8} {y : List UInt8} (h : (splitC 10 s).getLast? = some [] ↔ y = []) (hy : y ≠ []) : linesL s = splitC 10 s := by
 unfold linesL
 simp only
 rw [if_neg fun e => hy (h.1 e)]
theorem strs_take (l : List (List UInt8)) (k : Nat) : (strs l).take k = strs (l.take k) := by simp [strs, List.map_take]
theorem linesL_len (s : List UInt8) : (linesL s).length ≤ s.length + 1 := by
 have h := splitC_len 10 s
 unfold linesL
 dsimp only
 split
 ·rw [List.length_dropLast]; omega
 ·exact h
theorem linesL_mem (s : List UInt8) : ∀ w ∈ linesL s, w.length ≤ s.length := by
 intro w hw
 unfold linesL at hw
 dsimp only at hw
 split at hw
 ·exact splitC_mem 10 s w ((List.dropLast_sublist _).subset hw)
 ·exact splitC_mem 10 s w hw
theorem head_len {s : List UInt8} (h : (splitC 32 s).length ≠ 4) : headE s = (0, 0, 4) := by
 unfold headE
 dsimp only
 rw [if_pos (.inl h)]
theorem head_w {s y0 y1 y2 y3 : List UInt8} (h : splitC 32 s = [y0, y1, y2, y3]) : headE s = if y0 ≠ [112] ∨ y1 ≠ [99, 110, 102] then (0, 0, 4) else if isNum y2 = false ∨ isNum y3 = false ∨ valD y2 < 0 ∨ valD y3 < 0 then (0, 0, 4)
  else if 24 < valD y2 then (0, 0, 3) else if 4096 < valD y3 then (0, 0, 5) else (valD y2, valD y3, 0) := by
 unfold headE
 rw [h]
 simp
theorem four {l : List (List UInt8)} (h : l.length = 4) : ∃ y0 y1 y2 y3, l = [y0, y1, y2, y3] := by
 match l, h with
 | [a, b, c, d], _ => exact ⟨a, b, c, d, rfl⟩

theorem run_pred {n : Nat} (h : 1 ≤ n) (h2 : n < 9223372036854775808) (t : TypeId) (x y : Operand) (w : World) :
  (do eqGuard .sub t x y (.int .i64 (n : Int)) (.int .i64 1); binOp .sub t (.int .i64 (n : Int)) (.int .i64 1) : Sem Value).run Tryz.prog w = .ok (.int .i64 ((n - 1 : Nat) : Int)) w := by
 have h2 : IntKind.i64.wrap ((n : Int) - 1) = ((n - 1 : Nat) : Int) := by
  unfold IntKind.wrap
  simp [IntKind.signed, IntKind.bits]
  omega
 simp [eqGuard, binOp, Op.intArith, h2]

set_option maxRecDepth 100000 in
theorem head_c (s : List UInt8) (hs : s.length ≤ 1000000000) (w : World) (hl : LibW w) : Pure Tryz.prog 18 [.string (str s)] w (.tuple #[.int .i64 (headE s).1, .int .i64 (headE s).2.1, .int .i64 (headE s).2.2]) := by
 refine enter Tryz.func18 rfl Tryz.ntmps18 rfl (St.init _) ?_
 refine jN 15 ?_
 refine jC (β := Nat) (res := fun x => .slice (some ⟨x, 0, none⟩) (splitC 32 s).length (splitC 32 s).length) (cs := fun x => [rowc (.slice (some ⟨x, 0, none⟩) (splitC 32 s).length (splitC 32 s).length) (splitC 32 s).length 9 1 (strs (splitC 32 s))]) F.fun16 rfl (fun w hS _ => Split_c s 32 (by omega) w (hl.next hS)) (fun b2 => ?_)
 refine jN 15 ?_
 refine WA.splitB (i := 13) rfl (fun g15 => ?_) (fun g15 => ?_)
 ·have hlen4 : (splitC 32 s).length ≠ 4 := by simp at g15; omega
  refine jN 37 ?_
  have hh := head_len hlen4
  exact WQ.ret (rs := [.tmp 2, .tmp 3, .tmp 4]) rfl (.tmp rfl (.tmp rfl (.tmp rfl .nil))) (fun w hS => ⟨by rw [hh]; rfl, hS.sublist (List.nil_sublist _)⟩)
 ·have hlen4 : (splitC 32 s).length = 4 := by simp at g15; omega
  obtain ⟨y0, y1, y2, y3, hw⟩ := four hlen4
  have hlm : ∀ y ∈ [y0, y1, y2, y3], y.length ≤ 1000000000 := fun y hy => Nat.le_trans (splitC_mem 32 s y (by rw [hw]; exact hy)) hs
  refine jN 5 ?_
  refine WL.indexAddr (i := 0) F.sl47 rfl rfl rfl (by rw [hw]; simp) ?_
  refine jN 2 ?_
  refine WL.load1 F.one9 rfl rfl (v := .string (str y0)) (fun w hS => by rw [Nat.zero_add, Nat.mul_one]; exact rowc_cell (hS.ok (rowc (.slice (some ⟨b2, 0, none⟩) (splitC 32 s).length (splitC 32 s).length) (splitC 32 s).length 9 1 (strs (splitC 32 s))) jM) (strs_at (show (splitC 32 s)[0]? = some y0 by rw [hw]; rfl))) ?_
  refine jN 7 ?_
  refine WA.splitB (i := 19) rfl (fun g21 => ?_) (fun g21 => ?_)
  ·have hy0 : y0 ≠ [112] := by simpa using g21
   refine jN 25 ?_
   have hh := (show headE s = (0, 0, 4) by rw [head_w hw, if_pos (.inl hy0)])
   exact WQ.ret (rs := [.tmp 2, .tmp 3, .tmp 4]) rfl (.tmp rfl (.tmp rfl (.tmp rfl .nil))) (fun w hS => ⟨by rw [hh]; rfl, hS.sublist (List.nil_sublist _)⟩)
  ·have hy0 : y0 = [112] := by simpa using g21
   refine jN 5 ?_
   refine WL.indexAddr (i := 1) F.sl47 rfl rfl rfl (by rw [hw]; simp) ?_
   refine jN 2 ?_
   refine WL.load1 F.one9 rfl rfl (v := .string (str y1)) (fun w hS => by rw [Nat.zero_add, Nat.mul_one]; exact rowc_cell (hS.ok (rowc (.slice (some ⟨b2, 0, none⟩) (splitC 32 s).length (splitC 32 s).length) (splitC 32 s).length 9 1 (strs (splitC 32 s))) jM) (strs_at (show (splitC 32 s)[1]? = some y1 by rw [hw]; rfl))) ?_
   refine jN 7 ?_
   refine WC.cond rfl (fun h26 => ?_) (fun h26 => ?_)
   ·have hy1 : y1 ≠ [99, 110, 102] := by simpa using h26
    refine jN 12 ?_
    have hh := (show headE s = (0, 0, 4) by rw [head_w hw, if_pos (.inr hy1)])
    exact WQ.ret (rs := [.tmp 2, .tmp 3, .tmp 4]) rfl (.tmp rfl (.tmp rfl (.tmp rfl .nil))) (fun w hS => ⟨by rw [hh]; rfl, hS.sublist (List.nil_sublist _)⟩)
   ·have hy1 : y1 = [99, 110, 102] := by simpa using h26
    refine jN 7 ?_
    refine WL.indexAddr (i := 2) F.sl47 rfl rfl rfl (by rw [hw]; simp) ?_
    refine jN 1 ?_
    refine WL.load1 F.one9 rfl rfl (v := .string (str y2)) (fun w hS => by rw [Nat.zero_add, Nat.mul_one]; exact rowc_cell (hS.ok (rowc (.slice (some ⟨b2, 0, none⟩) (splitC 32 s).length (splitC 32 s).length) (splitC 32 s).length 9 1 (strs (splitC 32 s))) jM) (strs_at (show (splitC 32 s)[2]? = some y2 by rw [hw]; rfl))) ?_
    refine jN 1 ?_
    refine jC (β := NumX y2) (res := fun x => .tuple #[.int .i64 x.1, .bool (isNum y2)]) (cs := fun _ => []) F.fun44 rfl (fun w hS _ => number_c y2 (hlm y2 (by simp)) w (hl.next hS)) (fun ⟨v2, hx2⟩ => ?_)
    refine jN 17 ?_
    refine WL.indexAddr (i := 3) F.sl47 rfl rfl rfl (by rw [hw]; simp) ?_
    refine jN 1 ?_
    refine WL.load1 F.one9 rfl rfl (v := .string (str y3)) (fun w hS => by rw [Nat.zero_add, Nat.mul_one]; exact rowc_cell (hS.ok (rowc (.slice (some ⟨b2, 0, none⟩) (splitC 32 s).length (splitC 32 s).length) (splitC 32 s).length 9 1 (strs (splitC 32 s))) jM) (strs_at (show (splitC 32 s)[3]? = some y3 by rw [hw]; rfl))) ?_
    refine jN 1 ?_
    refine jC (β := NumX y3) (res := fun x => .tuple #[.int .i64 x.1, .bool (isNum y3)]) (cs := fun _ => []) F.fun44 rfl (fun w hS _ => number_c y3 (hlm y3 (by simp)) w (hl.next hS)) (fun ⟨v3, hx3⟩ => ?_)
    refine jN 22 ?_
    refine WA.splitB (i := 42) rfl (fun gn2 => ?_) (fun gn2 => ?_)
    ·have hn2 : isNum y2 = false := by simpa using gn2
     refine jN 40 ?_
     have hh := (show headE s = (0, 0, 4) by rw [head_w hw, if_neg (show ¬ (y0 ≠ [112] ∨ y1 ≠ [99, 110, 102]) from fun e => e.elim (fun e => e hy0) fun e => e hy1), if_pos (show (isNum y2 = false ∨ isNum y3 = false ∨ valD y2 < 0 ∨ valD y3 < 0) from .inl hn2)])
     exact WQ.ret (rs := [.tmp 2, .tmp 3, .tmp 4]) rfl (.tmp rfl (.tmp rfl (.tmp rfl .nil))) (fun w hS => ⟨by rw [hh]; rfl, hS.sublist (List.nil_sublist _)⟩)
    ·have hn2 : isNum y2 = true := by simpa using gn2
     have hv2 := hx2 hn2
     refine jN 10 ?_
     refine WA.splitB (i := 46) rfl (fun gn3 => ?_) (fun gn3 => ?_)
     ·have hn3 : isNum y3 = false := by simpa using gn3
      refine jN 32 ?_
      have hh := (show headE s = (0, 0, 4) by rw [head_w hw, if_neg (show ¬ (y0 ≠ [112] ∨ y1 ≠ [99, 110, 102]) from fun e => e.elim (fun e => e hy0) fun e => e hy1), if_pos (show (isNum y2 = false ∨ isNum y3 = false ∨ valD y2 < 0 ∨ valD y3 < 0) from .inr (.inl hn3))])
      exact WQ.ret (rs := [.tmp 2, .tmp 3, .tmp 4]) rfl (.tmp rfl (.tmp rfl (.tmp rfl .nil))) (fun w hS => ⟨by rw [hh]; rfl, hS.sublist (List.nil_sublist _)⟩)
     ·have hn3 : isNum y3 = true := by simpa using gn3
      have hv3 := hx3 hn3
      refine jN 10 ?_
      refine WA.splitB (i := 50) rfl (fun gl2 => ?_) (fun gl2 => ?_)
      ·have hl2 : valD y2 < 0 := by rw [hv2]; simpa using gl2
       refine jN 24 ?_
       have hh := (show headE s = (0, 0, 4) by rw [head_w hw, if_neg (show ¬ (y0 ≠ [112] ∨ y1 ≠ [99, 110, 102]) from fun e => e.elim (fun e => e hy0) fun e => e hy1), if_pos (show (isNum y2 = false ∨ isNum y3 = false ∨ valD y2 < 0 ∨ valD y3 < 0) from .inr (.inr (.inl hl2)))])
       exact WQ.ret (rs := [.tmp 2, .tmp 3, .tmp 4]) rfl (.tmp rfl (.tmp rfl (.tmp rfl .nil))) (fun w hS => ⟨by rw [hh]; rfl, hS.sublist (List.nil_sublist _)⟩)
      ·have hl2 : 0 ≤ valD y2 := by rw [hv2]; simpa using gl2
       refine jN 12 ?_
       refine WC.cond rfl (fun hl => ?_) (fun hl => ?_)
       ·have hl3 : valD y3 < 0 := by rw [hv3]; simpa using hl
        refine jN 13 ?_
        have hh := (show headE s = (0, 0, 4) by rw [head_w hw, if_neg (show ¬ (y0 ≠ [112] ∨ y1 ≠ [99, 110, 102]) from fun e => e.elim (fun e => e hy0) fun e => e hy1), if_pos (show (isNum y2 = false ∨ isNum y3 = false ∨ valD y2 < 0 ∨ valD y3 < 0) from .inr (.inr (.inr hl3)))])
        exact WQ.ret (rs := [.tmp 2, .tmp 3, .tmp 4]) rfl (.tmp rfl (.tmp rfl (.tmp rfl .nil))) (fun w hS => ⟨by rw [hh]; rfl, hS.sublist (List.nil_sublist _)⟩)
       ·have hl3 : 0 ≤ valD y3 := by rw [hv3]; simpa using hl
        refine jN 10 ?_
        refine WC.cond rfl (fun hr => ?_) (fun hr => ?_)
        ·have hr2 : 24 < valD y2 := by rw [hv2]; simpa using hr
         refine jN 13 ?_
         have hh := (show headE s = (0, 0, 3) by rw [head_w hw, if_neg (show ¬ (y0 ≠ [112] ∨ y1 ≠ [99, 110, 102]) from fun e => e.elim (fun e => e hy0) fun e => e hy1), if_neg (show ¬ (isNum y2 = false ∨ isNum y3 = false ∨ valD y2 < 0 ∨ valD y3 < 0) from by rw [hn2, hn3]; simp; omega), if_pos hr2])
         exact WQ.ret (rs := [.tmp 2, .tmp 3, .tmp 4]) rfl (.tmp rfl (.tmp rfl (.tmp rfl .nil))) (fun w hS => ⟨by rw [hh]; rfl, hS.sublist (List.nil_sublist _)⟩)
        ·have hr2 : ¬ 24 < valD y2 := by rw [hv2]; simpa using hr
         refine jN 10 ?_
         refine WC.cond rfl (fun hm => ?_) (fun hm => ?_)
         ·have hr3 : 4096 < valD y3 := by rw [hv3]; simpa using hm
          refine jN 13 ?_
          have hh := (show headE s = (0, 0, 5) by rw [head_w hw, if_neg (show ¬ (y0 ≠ [112] ∨ y1 ≠ [99, 110, 102]) from fun e => e.elim (fun e => e hy0) fun e => e hy1), if_neg (show ¬ (isNum y2 = false ∨ isNum y3 = false ∨ valD y2 < 0 ∨ valD y3 < 0) from by rw [hn2, hn3]; simp; omega), if_neg hr2, if_pos hr3])
          exact WQ.ret (rs := [.tmp 2, .tmp 3, .tmp 4]) rfl (.tmp rfl (.tmp rfl (.tmp rfl .nil))) (fun w hS => ⟨by rw [hh]; rfl, hS.sublist (List.nil_sublist _)⟩)
         ·have hr3 : ¬ 4096 < valD y3 := by rw [hv3]; simpa using hm
          subst hv2
          subst hv3
          refine jN 18 ?_
          have hh := (show headE s = (valD y2, valD y3, 0) by rw [head_w hw, if_neg (show ¬ (y0 ≠ [112] ∨ y1 ≠ [99, 110, 102]) from fun e => e.elim (fun e => e hy0) fun e => e hy1), if_neg (show ¬ (isNum y2 = false ∨ isNum y3 = false ∨ valD y2 < 0 ∨ valD y3 < 0) from by rw [hn2, hn3]; simp; omega), if_neg hr2, if_neg hr3])
          exact WQ.ret (rs := [.tmp 2, .tmp 3, .tmp 4]) rfl (.tmp rfl (.tmp rfl (.tmp rfl .nil))) (fun w hS => ⟨by rw [hh]; rfl, hS.sublist (List.nil_sublist _)⟩)

end Go.Proofs.YtkgllhkhdjodeaaGreatDoor

namespace Go.Proofs.YtkgllhkhdjodeaaGreatDoor
open Go Go.Eng Go.Proofs
open Go.RowKit Fm
abbrev ints (l : List Int) : List Value := l.map (Value.int .i64)
theorem row_bad {n : Int} {s : List UInt8} {i : Nat} (h : okAt (splitC 32 s) i = false) (hi : i < (splitC 32 s).length) : rowE n s = ([], 4) := by
 unfold rowE
 dsimp only
 rw [if_pos (goodW_at h hi)]
theorem row_good {n : Int} {s : List UInt8} (h : goodW (splitC 32 s) (splitC 32 s).length = true) : rowE n s = if 64 < (splitC 32 s).length - 1 then ([], 5) else if fitsB n (valsW (splitC 32 s) ((splitC 32 s).length - 1)) = false then ([], 3) else (valsW (splitC 32 s) ((splitC 32 s).length - 1), 0) := by
 unfold rowE
 dsimp only
 rw [if_neg (by rw [h]; simp)]
theorem okAt_y {w : List (List UInt8)} {i : Nat} {y : List UInt8} (h : w[i]? = some y) : okAt w i = (isNum y && (decide (valD y = 0) == decide (i + 1 = w.length))) := by
 unfold okAt
 rw [h]
 rfl
theorem goodW_zero (w : List (List UInt8)) : goodW w 0 = true := rfl
theorem valsW_take (w : List (List UInt8)) {k : Nat} (h : k ≤ w.length) : (valsW w w.length).take k = valsW w k := by
 unfold valsW
 rw [← List.map_take, List.take_take, Nat.min_eq_left h]
def nv (w : List (List UInt8)) (i : Nat) : Nat := min i (w.length - 1)
structure ClG where
 i : Nat
 a : Option Addr
 c : Nat
theorem run_neB {a b : Bool} (x y : Operand) (w : World) : (do eqGuard .neq 4 x y (.bool a) (.bool b); binOp .neq 4 (.bool a) (.bool b) : Sem Value).run Tryz.prog w = .ok (.bool (a != b)) w := by
 cases a <;> cases b <;> kernel_rfl

set_option maxRecDepth 100000 in
theorem clrow_c (n : Int) (s : List UInt8) (hn : -1000 ≤ n ∧ n ≤ 1000) (hs : s.length ≤ 1000000000) (w : World) (hl : LibW w) : Calls Tryz.prog 19 [.int .i64 n, .string (str s)].toArray w fun e w' => ∃ x : Option Addr × Nat, e = .returned (.tuple #[.slice x.1 (rowE n s).1.length x.2, .int .i64 (rowE n s).2]) ∧ St w [] [rowc (.slice x.1 ((rowE n s).1).length x.2) ((rowE n s).1).length 3 1 (ints ((rowE n s).1))] w' := by
 refine enter Tryz.func19 rfl Tryz.ntmps19 rfl (St.init _) ?_
 refine jN 19 ?_
 refine jC (β := Nat) (res := fun x => .slice (some ⟨x, 0, none⟩) (splitC 32 s).length (splitC 32 s).length) (cs := fun x => [rowc (.slice (some ⟨x, 0, none⟩) (splitC 32 s).length (splitC 32 s).length) (splitC 32 s).length 9 1 (strs (splitC 32 s))]) F.fun16 rfl (fun w hS _ => Split_c s 32 (by omega) w (hl.next hS)) (fun b2 => ?_)
 refine jN 16 ?_
 have hpos := splitC_pos 32 s
 have hlen := splitC_len 32 s
 refine WC.chunks (C' := [rowc (.slice (some ⟨b2, 0, none⟩) (splitC 32 s).length (splitC 32 s).length) (splitC 32 s).length 9 1 (strs (splitC 32 s)), rowc (.slice none 0 0) 0 3 1 []]) (fun w hS => (jK (hS.rowNil 3 1))) ?_
 refine WC.loop (α := ClG) (fun g => g.i ≤ (splitC 32 s).length ∧ goodW (splitC 32 s) g.i = true) (fun g => [(0, .int .i64 n), (7, .slice (some ⟨b2, 0, none⟩) (splitC 32 s).length (splitC 32 s).length), (14, .slice (some ⟨b2, 0, none⟩) (splitC 32 s).length (splitC 32 s).length), (15, .int .i64 ((splitC 32 s).length : Int)), (16, .int .i64 (g.i : Int)), (6, .slice g.a (valsW (splitC 32 s) g.i).length g.c)]) (fun g => [rowc (.slice (some ⟨b2, 0, none⟩) (splitC 32 s).length (splitC 32 s).length) (splitC 32 s).length 9 1 (strs (splitC 32 s)), rowc (.slice g.a (valsW (splitC 32 s) g.i).length g.c) (valsW (splitC 32 s) g.i).length 3 1 (ints (valsW (splitC 32 s) g.i))]) (fun g => (splitC 32 s).length - g.i) (⟨0, none, 0⟩) ?_ ?_ ?_ ?_
 ·exact ⟨Nat.zero_le _, goodW_zero _⟩
 ·exact ⟨rfl, rfl, rfl, rfl, rfl, rfl, trivial⟩
 ·rfl
 rintro ⟨i, a, c⟩ ⟨hi, hgo⟩
 dsimp only at hi hgo
 have hvl : (valsW (splitC 32 s) i).length = i := valsW_len hi
 show WC _ _ _ _ _ _ _ [(0, .int .i64 n), (7, .slice (some ⟨b2, 0, none⟩) (splitC 32 s).length (splitC 32 s).length), (14, .slice (some ⟨b2, 0, none⟩) (splitC 32 s).length (splitC 32 s).length), (15, .int .i64 ((splitC 32 s).length : Int)), (16, .int .i64 (i : Int)), (6, .slice a (valsW (splitC 32 s) i).length c)] [rowc (.slice (some ⟨b2, 0, none⟩) (splitC 32 s).length (splitC 32 s).length) (splitC 32 s).length 9 1 (strs (splitC 32 s)), rowc (.slice a (valsW (splitC 32 s) i).length c) (valsW (splitC 32 s) i).length 3 1 (ints (valsW (splitC 32 s) i))]
 refine jN 7 ?_
 refine WC.cond rfl (fun hc16 => ?_) (fun hc16 => ?_)
 ·have hlt : i < (splitC 32 s).length := by simpa using hc16
  obtain ⟨y, hy⟩ : ∃ z, (splitC 32 s)[i]? = some z := ⟨_, List.getElem?_eq_getElem hlt⟩
  have hyl : y.length ≤ 1000000000 := Nat.le_trans (splitC_mem 32 s y (List.mem_of_getElem? hy)) hs
  refine jN 9 ?_
  refine WL.indexAddr F.sl47 rfl rfl rfl hlt ?_
  refine jN 1 ?_
  refine WL.load1 F.one9 rfl rfl (v := .string (str y)) (fun w hS => by rw [Nat.zero_add, Nat.mul_one]; exact rowc_cell (hS.ok (rowc (.slice (some ⟨b2, 0, none⟩) (splitC 32 s).length (splitC 32 s).length) (splitC 32 s).length 9 1 (strs (splitC 32 s))) jM) (strs_at hy)) ?_
  refine jN 11 ?_
  refine jC (β := NumX y) (res := fun x => .tuple #[.int .i64 x.1, .bool (isNum y)]) (cs := fun _ => []) F.fun44 rfl (fun w hS _ => number_c y hyl w (hl.next hS)) (fun ⟨x, hx⟩ => ?_)
  refine jN 21 ?_
  refine WA.splitB (i := 28) rfl (fun g28 => ?_) (fun g28 => ?_)
  ·have hnn : isNum y = false := by simpa using g28
   have hre : rowE n s = ([], 4) := row_bad (by rw [okAt_y hy]; rw [hnn]; rfl) hlt
   refine jN 36 ?_
   rw [hre]
   exact WQ.ret (rs := [.tmp 4, .tmp 5]) rfl (.tmp rfl (.tmp rfl .nil)) (fun w hS => ⟨(none, 0), rfl, (hS.rowNil 3 1).sublist (List.Sublist.cons_cons _ (List.nil_sublist _))⟩)
  ·have hnn : isNum y = true := by simpa using g28
   have hvx : valD y = x := hx hnn
   refine jN 17 ?_
   refine WL.bin (v := .int .i64 (((splitC 32 s).length - 1 : Nat) : Int)) rfl rfl rfl (fun w => run_pred hpos (by omega) _ _ _ w) ?_
   refine jN 5 ?_
   refine WL.bin (v := .bool (decide (x = 0) != decide ((i : Int) = (((splitC 32 s).length - 1 : Nat) : Int)))) rfl rfl rfl (fun w => run_neB _ _ w) ?_
   refine jN 4 ?_
   refine WC.cond rfl (fun h37 => ?_) (fun h37 => ?_)
   ·have hre : rowE n s = ([], 4) := row_bad (by rw [okAt_y hy]; rw [hnn, hvx]; (have e9 : decide ((i : Int) = (((splitC 32 s).length - 1 : Nat) : Int)) = decide (i + 1 = (splitC 32 s).length) := by rw [Bool.eq_iff_iff, decide_eq_true_eq, decide_eq_true_eq]; omega); rw [e9] at h37; (cases h1 : decide (x = 0) <;> cases h2 : decide (i + 1 = (splitC 32 s).length) <;> rw [h1, h2] at h37 <;> first | rfl | cases h37)) hlt
    refine jN 15 ?_
    rw [hre]
    exact WQ.ret (rs := [.tmp 4, .tmp 5]) rfl (.tmp rfl (.tmp rfl .nil)) (fun w hS => ⟨(none, 0), rfl, (hS.rowNil 3 1).sublist (List.Sublist.cons_cons _ (List.nil_sublist _))⟩)
   ·have hok : okAt (splitC 32 s) i = true := by (rw [okAt_y hy, hnn, hvx]; (have e9 : decide ((i : Int) = (((splitC 32 s).length - 1 : Nat) : Int)) = decide (i + 1 = (splitC 32 s).length) := by rw [Bool.eq_iff_iff, decide_eq_true_eq, decide_eq_true_eq]; omega); rw [e9] at h37; (cases h1 : decide (x = 0) <;> cases h2 : decide (i + 1 = (splitC 32 s).length) <;> rw [h1, h2] at h37 <;> first | rfl | cases h37))
    refine jN 8 ?_
    refine WL.buildSlice F.sl46 F.ez46 rfl rfl rfl rfl jB rfl (fun b40 => ?_)
    refine jN 1 ?_
    refine WL.appendE (news := [.int .i64 x]) F.el46 rfl rfl rfl jR (fun w hS jj u hu => by rw [Nat.zero_add]; exact hS.cell (cs := [.int .i64 x]) jM hu) (by simp [ints]) jO (Nat.le_trans (m := 1000000002) (by omega) (by decide)) (by omega) (fun a2 c2 => ?_)
    refine jN 11 ?_
    have hvs : valsW (splitC 32 s) (i + 1) = valsW (splitC 32 s) i ++ [x] := by rw [valsW_succ hy, hvx]
    refine WQ.chunks (C' := [rowc (.slice (some ⟨b2, 0, none⟩) (splitC 32 s).length (splitC 32 s).length) (splitC 32 s).length 9 1 (strs (splitC 32 s)), rowc (.slice a2 ((valsW (splitC 32 s) i).length + 1) c2) ((valsW (splitC 32 s) i).length + 1) 3 1 (ints (valsW (splitC 32 s) i) ++ [.int .i64 x])]) (fun w hS => (jK hS)) ?_
    refine WQ.back ⟨i + 1, a2, c2⟩ ⟨hlt, by show goodW (splitC 32 s) (i + 1) = true; rw [goodW_succ, hgo, hok]; rfl⟩ (by show (splitC 32 s).length - (i + 1) < (splitC 32 s).length - i; omega) ?_ ?_
    ·simp only [hvs, List.length_append, List.length_singleton]; exact ⟨rfl, rfl, rfl, rfl, rfl, rfl, trivial⟩
    ·simp only [hvs, List.length_append, List.length_singleton, ints, List.map_append, List.map_cons, List.map_nil]
 ·have hie : i = (splitC 32 s).length := by simp at hc16; omega
  subst hie
  have hrg := row_good (n := n) hgo
  have hvl2 := valsW_len (w := (splitC 32 s)) (i := (splitC 32 s).length - 1) (by omega)
  refine WC.know (φ := ∃ g, a = some ⟨g, 0, none⟩ ∧ (valsW (splitC 32 s) (splitC 32 s).length).length = (valsW (splitC 32 s) (splitC 32 s).length).length ∧ (valsW (splitC 32 s) (splitC 32 s).length).length ≤ c) (fun w hS => rowc_addr (hS.ok (rowc (.slice a (valsW (splitC 32 s) (splitC 32 s).length).length c) (valsW (splitC 32 s) (splitC 32 s).length).length 3 1 (ints (valsW (splitC 32 s) (splitC 32 s).length))) jM) (by omega)) (fun ⟨g6, hg6, _, hcp⟩ => ?_)
  refine jN 14 ?_
  refine WL.bin (v := .int .i64 (((splitC 32 s).length - 1 : Nat) : Int)) rfl rfl rfl (fun w => by rw [hvl]; exact run_pred hpos (by omega) _ _ _ w) ?_
  refine jN 1 ?_
  refine WL.y (F := fun _ => True) (Yl.sliceSlTo (n := (splitC 32 s).length - 1) F.sl46 rfl rfl (by omega)) rfl (fun _ _ => trivial) ?_
  refine jN 8 ?_
  have htk : ints (valsW (splitC 32 s) ((splitC 32 s).length - 1)) = (ints (valsW (splitC 32 s) (splitC 32 s).length)).take ((splitC 32 s).length - 1) := by (unfold ints; rw [← List.map_take, valsW_take _ (by omega)])
  refine WA.chunks (C' := [rowc (.slice a (valsW (splitC 32 s) ((splitC 32 s).length - 1)).length c) (valsW (splitC 32 s) ((splitC 32 s).length - 1)).length 3 1 (ints (valsW (splitC 32 s) ((splitC 32 s).length - 1)))]) (fun w hS => ?_) ?_
  ·have h9 := ((St.pick hS (c := rowc (.slice a (valsW (splitC 32 s) (splitC 32 s).length).length c) (valsW (splitC 32 s) (splitC 32 s).length).length 3 1 (ints (valsW (splitC 32 s) (splitC 32 s).length))) jR)).rowTake (k := (splitC 32 s).length - 1) (by omega) (by omega)
   rw [hvl2, htk]
   exact (jK h9)
  refine jN 10 ?_
  refine WC.cond rfl (fun h59 => ?_) (fun h59 => ?_)
  ·have hre : rowE n s = ([], 5) := by (rw [hrg, if_pos]; simp at h59; omega)
   refine jN 11 ?_
   rw [hre]
   exact WQ.ret (rs := [.tmp 4, .tmp 5]) rfl (.tmp rfl (.tmp rfl .nil)) (fun w hS => ⟨(none, 0), rfl, (hS.rowNil 3 1).sublist (List.Sublist.cons_cons _ (List.nil_sublist _))⟩)
  ·have h64 : ¬ 64 < (splitC 32 s).length - 1 := by (simp at h59; omega)
   rw [if_neg h64] at hrg
   refine jN 7 ?_
   refine WL.callV F.fun45 rfl rfl (fun w hS => (by have h9 := fits_c n hn (valsW (splitC 32 s) ((splitC 32 s).length - 1)) a c w (RdC.of_row rfl (hS.ok (rowc (.slice a (valsW (splitC 32 s) ((splitC 32 s).length - 1)).length c) (valsW (splitC 32 s) ((splitC 32 s).length - 1)).length 3 1 (ints (valsW (splitC 32 s) ((splitC 32 s).length - 1)))) jM)); rw [hvl2] at h9; exact h9)) ?_
   refine jN 6 ?_
   refine WC.cond rfl (fun h63 => ?_) (fun h63 => ?_)
   ·have hre : rowE n s = ([], 3) := by (rw [hrg, if_pos]; simpa using h63)
    refine jN 11 ?_
    rw [hre]
    exact WQ.ret (rs := [.tmp 4, .tmp 5]) rfl (.tmp rfl (.tmp rfl .nil)) (fun w hS => ⟨(none, 0), rfl, (hS.rowNil 3 1).sublist (List.Sublist.cons_cons _ (List.nil_sublist _))⟩)
   ·have hre : rowE n s = (valsW (splitC 32 s) ((splitC 32 s).length - 1), 0) := by (rw [hrg, if_neg]; simpa using h63)
    refine jN 14 ?_
    rw [hre]
    exact WQ.ret (rs := [.tmp 4, .tmp 5]) rfl (.tmp rfl (.tmp rfl .nil)) (fun w hS => ⟨(a, c), by rw [hvl2]; rfl, (jK hS)⟩)

end Go.Proofs.YtkgllhkhdjodeaaGreatDoor

namespace Go.Proofs.YtkgllhkhdjodeaaGreatDoor
open Go Go.Eng Go.Proofs
open Go.RowKit Fm
theorem head_bd {s : List UInt8} (h : (headE s).2.2 = 0) : (0 ≤ (headE s).1 ∧ (headE s).1 ≤ 24) ∧ (0 ≤ (headE s).2.1 ∧ (headE s).2.1 ≤ 4096) := by
 unfold headE at h ⊢
 dsimp only at h ⊢
 split at h
 ·cases h
 ·rename_i h1
  split at h
  ·cases h
  ·rename_i h2
   split at h
   ·cases h
   ·rename_i h3
    split at h
    ·cases h
    ·rename_i h4
     rw [if_neg h1, if_neg h2, if_neg h3, if_neg h4]
     simp only [not_or] at h2
     dsimp only
     omega
theorem rf_c {ls : List (List UInt8)} {i : Nat} {y : List UInt8} {n m : Int} {o : List (List Int)} (h : ls[i]? = some y) (hc : y.head? = some 99) : readF (ls.drop i) i n m o = readF (ls.drop (i + 1)) (i + 1) n m o := by
 obtain ⟨hlt, he⟩ := List.getElem?_eq_some_iff.1 h
 rw [List.drop_eq_getElem_cons hlt, he, readF, if_pos hc]
theorem rf_h {ls : List (List UInt8)} {i : Nat} {y : List UInt8} {n m : Int} {o : List (List Int)} (h : ls[i]? = some y) (hc : y.head? ≠ some 99) (hm : m < 0) (he0 : (headE y).2.2 = 0) : readF (ls.drop i) i n m o = readF (ls.drop (i + 1)) (i + 1) (headE y).1 (headE y).2.1 o := by
 obtain ⟨hlt, he⟩ := List.getElem?_eq_some_iff.1 h
 rw [List.drop_eq_getElem_cons hlt, he, readF, if_neg hc, if_pos hm, if_pos he0]
theorem rf_he {ls : List (List UInt8)} {i : Nat} {y : List UInt8} {n m : Int} {o : List (List Int)} (h : ls[i]? = some y) (hc : y.head? ≠ some 99) (hm : m < 0) (he0 : (headE y).2.2 ≠ 0) : readF (ls.drop i) i n m o = (0, [], (i : Int) + 1, (headE y).2.2) := by
 obtain ⟨hlt, he⟩ := List.getElem?_eq_some_iff.1 h
 rw [List.drop_eq_getElem_cons hlt, he, readF, if_neg hc, if_pos hm, if_neg he0]
theorem rf_f {ls : List (List UInt8)} {i : Nat} {y : List UInt8} {n m : Int} {o : List (List Int)} (h : ls[i]? = some y) (hc : y.head? ≠ some 99) (hm : ¬ m < 0) (hf : (o.length : Int) = m) : readF (ls.drop i) i n m o = (0, [], (i : Int) + 1, 4) := by
 obtain ⟨hlt, he⟩ := List.getElem?_eq_some_iff.1 h
 rw [List.drop_eq_getElem_cons hlt, he, readF, if_neg hc, if_neg hm, if_pos hf]
theorem rf_r {ls : List (List UInt8)} {i : Nat} {y : List UInt8} {n m : Int} {o : List (List Int)} (h : ls[i]? = some y) (hc : y.head? ≠ some 99) (hm : ¬ m < 0) (hf : (o.length : Int) ≠ m) (he0 : (rowE n y).2 = 0) : readF (ls.drop i) i n m o = readF (ls.drop (i + 1)) (i + 1) n m (o ++ [(rowE n y).1]) := by
 obtain ⟨hlt, he⟩ := List.getElem?_eq_some_iff.1 h
 rw [List.drop_eq_getElem_cons hlt, he, readF, if_neg hc, if_neg hm, if_neg hf, if_pos he0]
theorem rf_re {ls : List (List UInt8)} {i : Nat} {y : List UInt8} {n m : Int} {o : List (List Int)} (h : ls[i]? = some y) (hc : y.head? ≠ some 99) (hm : ¬ m < 0) (hf : (o.length : Int) ≠ m) (he0 : (rowE n y).2 ≠ 0) : readF (ls.drop i) i n m o = (0, [], (i : Int) + 1, (rowE n y).2) := by
 obtain ⟨hlt, he⟩ := List.getElem?_eq_some_iff.1 h
 rw [List.drop_eq_getElem_cons hlt, he, readF, if_neg hc, if_neg hm, if_neg hf, if_neg he0]
theorem rf_end {ls : List (List UInt8)} {n m : Int} {o : List (List Int)} : readF (ls.drop ls.length) ls.length n m o = if (o.length : Int) = m then (n, o, 0, 0) else (0, [], (ls.length : Int) + 1, 4) := by
 rw [List.drop_length, readF]
structure RdG where
 i : Nat
 n : Int
 m : Int
 o : List (List Int)
 G : List Nat
 vs : List Value
 aa : Option Addr
 ca : Nat
structure RdI (s : List UInt8) (g : RdG) : Prop where
 le : g.i ≤ (linesL s).length
 eq : readF ((linesL s).drop g.i) g.i g.n g.m g.o = readS s
 sh : Shaped g.aa
 nb : -1000 ≤ g.n ∧ g.n ≤ 1000
 mb : -1 ≤ g.m ∧ g.m ≤ 4096
 ob : g.o.length ≤ g.i
def RdX (w : World) (s : List UInt8) (e : Ending) (w' : World) : Prop := ∃ x : RowsX, e = .returned (.tuple #[.int .i64 (readS s).1, .slice x.1.2.1 (readS s).2.1.length x.1.2.2, .int .i64 (readS s).2.2.1, .int .i64 (readS s).2.2.2]) ∧ St w [] (rowsC x (readS s).2.1) w'

theorem pre_c {y : List UInt8} : pre y [99] = true ↔ y.head? = some 99 := by
 unfold pre
 cases y with
 | nil => simp
 | cons c r => simp

set_option maxRecDepth 100000 in
theorem Read_c (s : List UInt8) (hs : s.length ≤ 1000000000) (w : World) (hl : LibW w) : Calls Tryz.prog 6 [.string (str s)].toArray w (RdX w s) := by
 refine enter Tryz.func6 rfl Tryz.ntmps6 rfl (St.init _) ?_
 refine jN 17 ?_
 refine jC (β := Nat) (res := fun x => .slice (some ⟨x, 0, none⟩) (splitC 10 s).length (splitC 10 s).length) (cs := fun x => [rowc (.slice (some ⟨x, 0, none⟩) (splitC 10 s).length (splitC 10 s).length) (splitC 10 s).length 9 1 (strs (splitC 10 s))]) F.fun16 rfl (fun w hS _ => Split_c s 10 (by omega) w (hl.next hS)) (fun b2 => ?_)
 refine jN 7 ?_
 have hpos := splitC_pos 10 s
 have hlen := splitC_len 10 s
 obtain ⟨y0, hy0, hyl0⟩ := getLast_at hpos
 refine jN 7 ?_
 refine WL.bin (v := .int .i64 (((splitC 10 s).length - 1 : Nat) : Int)) rfl rfl rfl (fun w => run_pred hpos (by omega) _ _ _ w) ?_
 refine jN 1 ?_
 refine WL.indexAddr (i := (splitC 10 s).length - 1) F.sl47 rfl rfl rfl (by omega) ?_
 refine jN 1 ?_
 refine WL.load1 F.one9 rfl rfl (v := .string (str y0)) (fun w hS => by rw [Nat.zero_add, Nat.mul_one]; exact rowc_cell (hS.ok (rowc (.slice (some ⟨b2, 0, none⟩) (splitC 10 s).length (splitC 10 s).length) (splitC 10 s).length 9 1 (strs (splitC 10 s))) jM) (strs_at hy0)) ?_
 refine jN 4 ?_
 refine WC.cutQ ([(0, .string (str s)), (2, .int .i64 0), (3, .slice none 0 0), (6, .slice (some ⟨b2, 0, none⟩) (linesL s).length (splitC 10 s).length)]) ([rowc (.slice (some ⟨b2, 0, none⟩) (linesL s).length (splitC 10 s).length) (linesL s).length 9 1 (strs (linesL s))]) (fun c a d v w h => by cases d <;> exact h) (fun Q' hP hQ => ?_) ?_
 ·refine WC.cond rfl (fun h20 => ?_) (fun h20 => ?_)
  ·have hyz : y0 = [] := by simpa using h20
   have hln := lines_T hyl0 hyz
   refine jN 8 ?_
   refine WL.bin (v := .int .i64 (((splitC 10 s).length - 1 : Nat) : Int)) rfl rfl rfl (fun w => run_pred hpos (by omega) _ _ _ w) ?_
   refine jN 1 ?_
   refine WL.y (F := fun _ => True) (Yl.sliceSlTo (n := (splitC 10 s).length - 1) F.sl47 rfl rfl (by omega)) rfl (fun _ _ => trivial) ?_
   refine jN 3 ?_
   refine WQ.chunks (C' := [rowc (.slice (some ⟨b2, 0, none⟩) (linesL s).length (splitC 10 s).length) (linesL s).length 9 1 (strs (linesL s))]) (fun w hS => ?_) (WQ.byCut hQ ⟨rfl, rfl, rfl, ?_, trivial⟩)
   ·first
    | (have hdl : (splitC 10 s).length - 1 = (linesL s).length := (by rw [hln, List.length_dropLast]); have hst : strs ((splitC 10 s).take ((splitC 10 s).length - 1)) = strs (linesL s) := (by rw [hln, List.dropLast_eq_take]); have h9 := ((St.pick hS (c := rowc (.slice (some ⟨b2, 0, none⟩) (splitC 10 s).length (splitC 10 s).length) (splitC 10 s).length 9 1 (strs (splitC 10 s))) jR)).rowTake (k := (splitC 10 s).length - 1) (by omega) (by omega); rw [strs_take, hst, hdl] at h9; exact (jK h9))
    | (rw [hln]; exact (jK hS))
   ·first
    | (rw [show (linesL s).length = (splitC 10 s).length - 1 from by rw [hln, List.length_dropLast]]; rfl)
    | (rw [hln]; rfl)
  ·have hyz : y0 ≠ [] := by simpa using h20
   have hln := lines_F hyl0 hyz
   refine jN 1 ?_
   refine WQ.chunks (C' := [rowc (.slice (some ⟨b2, 0, none⟩) (linesL s).length (splitC 10 s).length) (linesL s).length 9 1 (strs (linesL s))]) (fun w hS => ?_) (WQ.byCut hQ ⟨rfl, rfl, rfl, ?_, trivial⟩)
   ·first
    | (have hdl : (splitC 10 s).length - 1 = (linesL s).length := (by rw [hln, List.length_dropLast]); have hst : strs ((splitC 10 s).take ((splitC 10 s).length - 1)) = strs (linesL s) := (by rw [hln, List.dropLast_eq_take]); have h9 := ((St.pick hS (c := rowc (.slice (some ⟨b2, 0, none⟩) (splitC 10 s).length (splitC 10 s).length) (splitC 10 s).length 9 1 (strs (splitC 10 s))) jR)).rowTake (k := (splitC 10 s).length - 1) (by omega) (by omega); rw [strs_take, hst, hdl] at h9; exact (jK h9))
    | (rw [hln]; exact (jK hS))
   ·first
    | (rw [show (linesL s).length = (splitC 10 s).length - 1 from by rw [hln, List.length_dropLast]]; rfl)
    | (rw [hln]; rfl)
 refine jN 19 ?_
 have hll := linesL_len s
 refine WC.chunks (C' := [rowc (.slice (some ⟨b2, 0, none⟩) (linesL s).length (splitC 10 s).length) (linesL s).length 9 1 (strs (linesL s)), rowc (.slice none 0 0) 0 46 1 [], stepsC [] [] []]) (fun w hS => (jK (hS.stepsNil.rowNil 46 1))) ?_
 refine WC.loop (α := RdG) (RdI s) (fun g => [(0, .string (str s)), (2, .int .i64 g.n), (3, .slice g.aa g.o.length g.ca), (6, .slice (some ⟨b2, 0, none⟩) (linesL s).length (splitC 10 s).length), (7, .int .i64 g.m), (26, .slice (some ⟨b2, 0, none⟩) (linesL s).length (splitC 10 s).length), (27, .int .i64 ((linesL s).length : Int)), (28, .int .i64 (g.i : Int))]) (fun g => [rowc (.slice (some ⟨b2, 0, none⟩) (linesL s).length (splitC 10 s).length) (linesL s).length 9 1 (strs (linesL s)), rowc (.slice g.aa g.o.length g.ca) g.o.length 46 1 g.vs, stepsC g.G g.vs g.o]) (fun g => (linesL s).length - g.i) (⟨0, 0, -1, [], [], [], none, 0⟩) ?_ ?_ ?_ ?_
 ·exact ⟨Nat.zero_le _, rfl, .inl rfl, by decide, by decide, Nat.le_refl _⟩
 ·exact ⟨rfl, rfl, rfl, rfl, rfl, rfl, rfl, rfl, trivial⟩
 ·rfl
 rintro ⟨i, n, m, o, G, vs, aa, ca⟩ ⟨hi, hie0, hsh, hnb, hmb, hob⟩
 dsimp only at hi hie0 hsh hnb hmb hob
 show WC _ _ _ _ _ _ _ [(0, .string (str s)), (2, .int .i64 n), (3, .slice aa o.length ca), (6, .slice (some ⟨b2, 0, none⟩) (linesL s).length (splitC 10 s).length), (7, .int .i64 m), (26, .slice (some ⟨b2, 0, none⟩) (linesL s).length (splitC 10 s).length), (27, .int .i64 ((linesL s).length : Int)), (28, .int .i64 (i : Int))] [rowc (.slice (some ⟨b2, 0, none⟩) (linesL s).length (splitC 10 s).length) (linesL s).length 9 1 (strs (linesL s)), rowc (.slice aa o.length ca) o.length 46 1 vs, stepsC G vs o]
 refine jN 7 ?_
 refine WC.cond rfl (fun hlc => ?_) (fun hlc => ?_)
 ·have hlt : i < (linesL s).length := by simpa using hlc
  obtain ⟨y, hy⟩ : ∃ z, (linesL s)[i]? = some z := ⟨_, List.getElem?_eq_getElem hlt⟩
  have hyl : y.length ≤ 1000000000 := Nat.le_trans (linesL_mem s y (List.mem_of_getElem? hy)) hs
  refine jN 9 ?_
  refine WL.indexAddr F.sl47 rfl rfl rfl hlt ?_
  refine jN 1 ?_
  refine WL.load1 F.one9 rfl rfl (v := .string (str y)) (fun w hS => by rw [Nat.zero_add, Nat.mul_one]; exact rowc_cell (hS.ok (rowc (.slice (some ⟨b2, 0, none⟩) (linesL s).length (splitC 10 s).length) (linesL s).length 9 1 (strs (linesL s))) jM) (strs_at hy)) ?_
  refine jN 25 ?_
  refine WL.callV F.fun17 rfl rfl (fun w hS => hasPrefix_c y [99] w) ?_
  refine jN 4 ?_
  refine WC.cond rfl (fun h43 => ?_) (fun h43 => ?_)
  ·have hcc : y.head? = some 99 := pre_c.1 h43
   refine jN 11 ?_
   refine WQ.back (⟨i + 1, n, m, o, G, vs, aa, ca⟩) ?_ ?_ ?_ ?_
   ·exact ⟨hlt, (rf_c hy hcc).symm.trans hie0, hsh, hnb, hmb, by show o.length ≤ i + 1; omega⟩
   ·show (linesL s).length - (i + 1) < (linesL s).length - i; omega
   ·exact ⟨rfl, rfl, rfl, rfl, rfl, rfl, rfl, rfl, trivial⟩
   ·rfl
  ·have hcc : y.head? ≠ some 99 := fun e => by (rw [pre_c.2 e] at h43; cases h43)
   refine jN 10 ?_
   refine WC.cond rfl (fun h38 => ?_) (fun h38 => ?_)
   ·have hm0 : m < 0 := by simpa using h38
    refine jN 4 ?_
    refine WL.callV F.fun18 rfl rfl (fun w hS => head_c y hyl w (hl.next hS)) ?_
    refine jN 25 ?_
    refine WC.cond rfl (fun h61 => ?_) (fun h61 => ?_)
    ·have he0 : (headE y).2.2 ≠ 0 := by simpa using h61
     refine jN 24 ?_
     have hres : readS s = _ := hie0.symm.trans (rf_he hy hcc hm0 he0)
     refine WQ.ret (rs := [.tmp 2, .tmp 3, .tmp 4, .tmp 5]) rfl (.tmp rfl (.tmp rfl (.tmp rfl (.tmp rfl .nil)))) (fun w hS => ?_)
     unfold RdX
     rw [hres]
     exact ⟨⟨(([], []), none, 0), .inl rfl⟩, rfl, (hS.stepsNil.rowNil 46 1).sublist (List.Sublist.cons_cons _ (List.Sublist.cons_cons _ (List.nil_sublist _)))⟩
    ·have he0 : (headE y).2.2 = 0 := by simpa using h61
     refine jN 9 ?_
     have hhb := head_bd he0
     refine WQ.back (⟨i + 1, (headE y).1, (headE y).2.1, o, G, vs, aa, ca⟩) ?_ ?_ ?_ ?_
     ·exact ⟨hlt, (rf_h hy hcc hm0 he0).symm.trans hie0, hsh, by (show -1000 ≤ (headE y).1 ∧ (headE y).1 ≤ 1000); omega, by (show -1 ≤ (headE y).2.1 ∧ (headE y).2.1 ≤ 4096); omega, by show o.length ≤ i + 1; omega⟩
     ·show (linesL s).length - (i + 1) < (linesL s).length - i; omega
     ·exact ⟨rfl, rfl, rfl, rfl, rfl, rfl, rfl, rfl, trivial⟩
     ·rfl
   ·have hm0 : ¬ m < 0 := by simpa using h38
    refine jN 14 ?_
    refine WC.cond rfl (fun h58 => ?_) (fun h58 => ?_)
    ·have hof : (o.length : Int) = m := by simpa using h58
     refine jN 14 ?_
     refine WC.cond rfl (fun h61 => ?_) (fun h61 => ?_)
     ·refine jN 24 ?_
      have hres : readS s = _ := hie0.symm.trans (rf_f hy hcc hm0 hof)
      refine WQ.ret (rs := [.tmp 2, .tmp 3, .tmp 4, .tmp 5]) rfl (.tmp rfl (.tmp rfl (.tmp rfl (.tmp rfl .nil)))) (fun w hS => ?_)
      unfold RdX
      rw [hres]
      exact ⟨⟨(([], []), none, 0), .inl rfl⟩, rfl, (hS.stepsNil.rowNil 46 1).sublist (List.Sublist.cons_cons _ (List.Sublist.cons_cons _ (List.nil_sublist _)))⟩
     ·exfalso; simp at h61
    ·have hof : (o.length : Int) ≠ m := by simpa using h58
     refine jN 7 ?_
     refine jC (β := Option Addr × Nat) (res := fun x => .tuple #[.slice x.1 (rowE n y).1.length x.2, .int .i64 (rowE n y).2]) (cs := fun x => [rowc (.slice x.1 ((rowE n y).1).length x.2) ((rowE n y).1).length 3 1 (ints ((rowE n y).1))]) F.fun19 rfl (fun w hS _ => clrow_c n y hnb hyl w (hl.next hS)) (fun ⟨ad, ac⟩ => ?_)
     refine jN 18 ?_
     refine WL.buildSlice F.sl23 F.ez23 rfl rfl rfl rfl jB rfl (fun b41 => ?_)
     refine jN 1 ?_
     refine WL.appendE (news := [.slice ad ((rowE n y).1).length ac]) F.el23 rfl rfl rfl jR (fun w hS j u hu => by rw [Nat.zero_add]; exact hS.cell (cs := [.slice ad ((rowE n y).1).length ac]) jM hu) rfl jO (Nat.le_trans (m := 1099511627776) (by omega) (by decide)) (by omega) (fun a4 c4 => ?_)
     refine WA.know (φ := ∃ g, a4 = some ⟨g, 0, none⟩ ∧ o.length + 1 = o.length + 1 ∧ o.length + 1 ≤ c4) (fun w hS => rowc_addr (hS.ok (rowc (.slice a4 (o.length + 1) c4) (o.length + 1) 46 1 (vs ++ [.slice ad ((rowE n y).1).length ac])) jM) (by omega)) (fun ⟨g9, hta, _, _⟩ => ?_)
     refine jN 13 ?_
     refine WC.cond rfl (fun h61 => ?_) (fun h61 => ?_)
     ·have he0 : (rowE n y).2 ≠ 0 := by simpa using h61
      refine jN 24 ?_
      have hres : readS s = _ := hie0.symm.trans (rf_re hy hcc hm0 hof he0)
      refine WQ.ret (rs := [.tmp 2, .tmp 3, .tmp 4, .tmp 5]) rfl (.tmp rfl (.tmp rfl (.tmp rfl (.tmp rfl .nil)))) (fun w hS => ?_)
      unfold RdX
      rw [hres]
      exact ⟨⟨(([], []), none, 0), .inl rfl⟩, rfl, (hS.stepsNil.rowNil 46 1).sublist (List.Sublist.cons_cons _ (List.Sublist.cons_cons _ (List.nil_sublist _)))⟩
     ·have he0 : (rowE n y).2 = 0 := by simpa using h61
      refine jN 9 ?_
      refine WQ.chunksE (C' := fun G2 : List Nat => [rowc (.slice (some ⟨b2, 0, none⟩) (linesL s).length (splitC 10 s).length) (linesL s).length 9 1 (strs (linesL s)), rowc (.slice a4 (o.length + 1) c4) (o.length + 1) 46 1 (vs ++ [.slice ad ((rowE n y).1).length ac]), stepsC G2 (vs ++ [.slice ad ((rowE n y).1).length ac]) (o ++ [(rowE n y).1])]) (fun w hS => ?_) (fun G2 => ?_)
      ·obtain ⟨G2, h9⟩ := St.stepsSnocR rfl ((St.pick (St.pick hS (c := rowc (.slice ad ((rowE n y).1).length ac) ((rowE n y).1).length 3 1 (ints ((rowE n y).1))) jR) (c := stepsC G vs o) jR))
       exact ⟨G2, (jK h9)⟩
      refine WQ.back ⟨i + 1, n, m, o ++ [(rowE n y).1], G2, vs ++ [.slice ad ((rowE n y).1).length ac], a4, c4⟩ ?_ ?_ ?_ ?_
      ·exact ⟨hlt, (rf_r hy hcc hm0 hof he0).symm.trans hie0, .inr ⟨g9, 0, hta⟩, hnb, hmb, by (show (o ++ [_]).length ≤ i + 1); rw [List.length_append, List.length_singleton]; omega⟩
      ·show (linesL s).length - (i + 1) < (linesL s).length - i; omega
      ·simp only [List.length_append, List.length_singleton]; exact ⟨rfl, rfl, rfl, rfl, rfl, rfl, rfl, rfl, trivial⟩
      ·simp only [List.length_append, List.length_singleton]
 ·have hie : i = (linesL s).length := by simp at hlc; omega
  subst hie
  refine jN 18 ?_
  refine WC.cond rfl (fun h82 => ?_) (fun h82 => ?_)
  ·have hom : ¬ (o.length : Int) = m := fun e => by simp [e] at h82
   refine jN 20 ?_
   have hres : readS s = _ := hie0.symm.trans (by rw [rf_end, if_neg hom])
   refine WQ.ret (rs := [.tmp 2, .tmp 3, .tmp 4, .tmp 5]) rfl (.tmp rfl (.tmp rfl (.tmp rfl (.tmp rfl .nil)))) (fun w hS => ?_)
   unfold RdX
   rw [hres]
   exact ⟨⟨(([], []), none, 0), .inl rfl⟩, rfl, (hS.stepsNil.rowNil 46 1).sublist (List.Sublist.cons_cons _ (List.Sublist.cons_cons _ (List.nil_sublist _)))⟩
  ·have hom : (o.length : Int) = m := by first | (simpa using h82) | (simp at h82; omega)
   refine jN 19 ?_
   have hres : readS s = (n, o, 0, 0) := by rw [← hie0, rf_end, if_pos hom]
   refine WQ.ret (rs := [.tmp 2, .tmp 3, .tmp 4, .tmp 5]) rfl (.tmp rfl (.tmp rfl (.tmp rfl (.tmp rfl .nil)))) (fun w hS => ?_)
   unfold RdX
   rw [hres]
   exact ⟨⟨((G, vs), aa, ca), hsh⟩, rfl, (jK hS)⟩

end Go.Proofs.YtkgllhkhdjodeaaGreatDoor

/-! What is written is read. -/
namespace Fm
open Go Go.Proofs.YtkgllhkhdjodeaaGreatDoor
theorem itoa_no {x : Int} {c : UInt8} (h : c.toNat < 45) : c ∉ Lib.itoa x := fun hc => by
 rcases itoa_cases x with ⟨_, e⟩ | ⟨_, e⟩
 ·rw [e] at hc
  rcases List.mem_cons.1 hc with rfl | hc
  ·exact absurd h (by decide)
  ·have := (dec_dig _ c hc).1; omega
 ·rw [e] at hc
  have := (dec_dig _ c hc).1; omega
theorem itoa_head {x : Int} : (Lib.itoa x).head? ≠ some 99 := fun hc => by
 have hm := List.mem_of_mem_head? hc
 rcases itoa_cases x with ⟨_, e⟩ | ⟨_, e⟩
 ·rw [e] at hm
  rcases List.mem_cons.1 hm with h | h
  ·cases h
  ·have := (dec_dig _ 99 h).2; exact absurd this (by decide)
 ·rw [e] at hm
  have := (dec_dig _ 99 hm).2; exact absurd this (by decide)
theorem itoa_nil (x : Int) : Lib.itoa x ≠ [] := by
 rcases itoa_cases x with ⟨_, e⟩ | ⟨_, e⟩ <;> rw [e]
 ·simp
 ·exact dec_ne _
/-- A clause's line without its end. -/
def lineS (c : List Int) : List UInt8 := litsS c ++ [48]
theorem rowS_eq (c : List Int) : rowS c = lineS c ++ [10] := by simp [rowS, lineS]
theorem lits_no (c : List Int) : (10 : UInt8) ∉ litsS c := by
 unfold litsS
 intro h
 obtain ⟨x, _, h⟩ := List.mem_flatMap.1 h
 rcases List.mem_append.1 h with h | h
 ·exact itoa_no (by decide) h
 ·simp at h
theorem line_no (c : List Int) : (10 : UInt8) ∉ lineS c := by
 unfold lineS
 intro h
 rcases List.mem_append.1 h with h | h
 ·exact lits_no c h
 ·simp at h
theorem split_rows : ∀ ls : List (List Int), splitC 10 (ls.flatMap rowS) = ls.map lineS ++ [[]]
 | [] => rfl
 | c :: ls => by
  rw [List.flatMap_cons, rowS_eq, List.append_assoc, List.singleton_append, splitC_hit (line_no c), split_rows ls]
  rfl
def headL (n : Int) (k : Nat) : List UInt8 := [112, 32, 99, 110, 102, 32] ++ Lib.itoa n ++ [32] ++ Lib.itoa (k : Int)
theorem headS_eq (n : Int) (k : Nat) : headS n k = headL n k ++ [10] := rfl
theorem headL_no (n : Int) (k : Nat) : (10 : UInt8) ∉ headL n k := by
 unfold headL
 intro h
 simp only [List.mem_append] at h
 rcases h with ((h | h) | h) | h
 ·revert h; decide
 ·exact itoa_no (by decide) h
 ·revert h; decide
 ·exact itoa_no (by decide) h
theorem lines_text (n : Int) (ls : List (List Int)) : linesL (textS n ls) = headL n ls.length :: ls.map lineS := by
 have h : splitC 10 (textS n ls) = headL n ls.length :: (ls.map lineS ++ [[]]) := by
  unfold textS
  rw [headS_eq, List.append_assoc, List.singleton_append, splitC_hit (headL_no n _), split_rows]
 unfold linesL
 dsimp only
 rw [h, if_pos (by rw [← List.cons_append, List.getLast?_append]; simp), ← List.cons_append, List.dropLast_concat]
theorem isNum_small {x : Int} (h : -1000000 ≤ x ∧ x ≤ 1000000) : isNum (Lib.itoa x) = true := isNum_iff.2 ⟨x, rfl, by omega⟩
theorem head_text {n : Int} {k : Nat} (hn : 0 ≤ n ∧ n ≤ 24) (hk : k ≤ 4096) : headE (headL n k) = (n, (k : Int), 0) := by
 have h : splitC 32 (headL n k) = [[112], [99, 110, 102], Lib.itoa n, Lib.itoa (k : Int)] := by
  have e : headL n k = [112] ++ 32 :: ([99, 110, 102] ++ 32 :: (Lib.itoa n ++ 32 :: Lib.itoa (k : Int))) := by simp [headL]
  rw [e, splitC_hit (by decide), splitC_hit (by decide), splitC_hit (itoa_no (by decide)), splitC_miss (itoa_no (by decide))]
 unfold headE
 rw [h]
 simp only [List.length_cons, List.length_nil, List.getElem?_cons_zero, List.getElem?_cons_succ, Option.getD_some, ne_eq, not_true, or_self, if_false, isNum_small (x := n) (by omega), isNum_small (x := (k : Int)) (by omega), valD_itoa]
 rw [if_neg (by simp; omega), if_neg (by omega), if_neg (by omega)]
theorem split_line (c : List Int) : splitC 32 (lineS c) = c.map Lib.itoa ++ [[48]] := by
 unfold lineS litsS
 induction c with
 | nil => rfl
 | cons x c ih =>
  rw [List.flatMap_cons, List.append_assoc, List.append_assoc, List.singleton_append, splitC_hit (itoa_no (by decide)), ih]
  rfl
theorem zero_itoa : ([48] : List UInt8) = Lib.itoa 0 := by
 rw [show (0 : Int) = ((0 : Nat) : Int) from rfl, Lib.itoa_nonneg, Lib.decDigits_one (by decide)]
 rfl
theorem row_text {n : Int} {c : List Int} (hl : c.length ≤ 64) (hf : fitsB n c = true) (hx : ∀ x ∈ c, x ≠ 0 ∧ -1000 ≤ x ∧ x ≤ 1000) : rowE n (lineS c) = (c, 0) := by
 have hs := split_line c
 have hlen : (splitC 32 (lineS c)).length = c.length + 1 := by rw [hs]; simp
 have hv : valsW (splitC 32 (lineS c)) ((splitC 32 (lineS c)).length - 1) = c := by
  unfold valsW
  rw [hlen, hs, show c.length + 1 - 1 = (c.map Lib.itoa).length by simp, List.take_left, List.map_map]
  conv => rhs; rw [← List.map_id c]
  exact List.map_congr_left fun x _ => valD_itoa x
 have hg : goodW (splitC 32 (lineS c)) (splitC 32 (lineS c)).length = true := by
  unfold goodW
  rw [List.all_eq_true]
  intro i hi
  have hi' : i < c.length + 1 := by have := List.mem_range.1 hi; rw [hlen] at this; exact this
  unfold okAt
  rw [hlen, hs]
  by_cases hic : i < c.length
  ·have hxi := hx c[i] (List.getElem_mem hic)
   have e : (c.map Lib.itoa ++ [[48]])[i]? = some (Lib.itoa c[i]) := by
    rw [List.getElem?_append_left (by simpa using hic), List.getElem?_map, List.getElem?_eq_getElem hic]; rfl
   rw [e, Option.getD_some, isNum_small (by omega), valD_itoa, decide_eq_false hxi.1, decide_eq_false (by omega)]
   rfl
  ·have hie : i = c.length := by omega
   have e : (c.map Lib.itoa ++ [[48]])[i]? = some [48] := by
    rw [List.getElem?_append_right (by simp; omega)]
    simp [hie]
   rw [e, Option.getD_some, zero_itoa, isNum_small (by omega), valD_itoa, decide_eq_true (rfl : (0 : Int) = 0), decide_eq_true (by omega)]
   rfl
 unfold rowE
 dsimp only
 rw [if_neg (by rw [hg]; simp), if_neg (by omega), hv, if_neg (by rw [hf]; simp)]
theorem line_head (c : List Int) : (lineS c).head? ≠ some 99 := by
 unfold lineS litsS
 cases c with
 | nil => decide
 | cons x c =>
  rw [List.flatMap_cons]
  cases h : Lib.itoa x with
  | nil => exact absurd h (itoa_nil x)
  | cons y r =>
   have := itoa_head (x := x)
   rw [h] at this
   simpa using this
theorem read_rows {n : Int} {m : Int} : ∀ (ls : List (List Int)) (i : Nat) (o : List (List Int)), (∀ c ∈ ls, c.length ≤ 64 ∧ fitsB n c = true ∧ ∀ x ∈ c, x ≠ 0 ∧ -1000 ≤ x ∧ x ≤ 1000) → 0 ≤ m → (o.length : Int) + ls.length = m → readF (ls.map lineS) i n m o = (n, o ++ ls, 0, 0)
 | [], i, o, _, _, hm => by
  rw [List.map_nil, readF, if_pos (by simpa using hm), List.append_nil]
 | c :: ls, i, o, h, h0, hm => by
  obtain ⟨h1, h2, h3⟩ := h c (by simp)
  have hr := row_text h1 h2 h3
  simp only [List.length_cons] at hm
  rw [List.map_cons, readF, if_neg (line_head c), if_neg (by omega), if_neg (by omega), hr, if_pos rfl, read_rows ls (i + 1) (o ++ [c]) (fun d hd => h d (by simp [hd])) h0 (by simp; omega)]
  simp
theorem read_text {n : Int} {ls : List (List Int)} (hn : 0 ≤ n ∧ n ≤ 24) (hk : ls.length ≤ 4096) (h : ∀ c ∈ ls, c.length ≤ 64 ∧ fitsB n c = true ∧ ∀ x ∈ c, x ≠ 0 ∧ -1000 ≤ x ∧ x ≤ 1000) : readS (textS n ls) = (n, ls, 0, 0) := by
 have hh := head_text (n := n) (k := ls.length) hn hk
 unfold readS
 rw [lines_text, readF, if_neg (by simp [headL]), if_pos (by decide), hh, if_pos rfl]
 have := read_rows (n := n) (m := (ls.length : Int)) ls 1 [] h (by omega) (by simp)
 simpa using this
end Fm

namespace Go.Proofs.YtkgllhkhdjodeaaGreatDoor
open Go Go.Eng Go.Proofs
open Go.RowKit Fm
theorem Write0_c (n : Int) (ls : List (List Int)) (a : Option Addr) (cap : Nat) (us : List Value) (hme : Fm.mayE n ls = 0) (w : World) (ht : Tab w) (hr : RdLL w ls a us) :
  Pure Tryz.prog 11 [.int .i64 n, .slice a ls.length cap] w (.tuple #[.string (str (textS n ls)), .int .i64 0]) := by
 have h := Write_c n ls a cap us w ht hr
 rw [if_pos hme, hme] at h
 exact h
theorem Kept_c {n : Int} {ls : List (List Int)} (hn : 0 ≤ n ∧ n ≤ 24) (hk : ls.length ≤ 4096) (h : ∀ c ∈ ls, c.length ≤ 64 ∧ fitsB n c = true ∧ ∀ x ∈ c, x ≠ 0 ∧ -1000 ≤ x ∧ x ≤ 1000) (hs : (textS n ls).length ≤ 1000000000) (w : World) (hl : LibW w) :
  Calls Tryz.prog 6 [.string (str (textS n ls))].toArray w fun e w' => ∃ x : RowsX, e = .returned (.tuple #[.int .i64 n, .slice x.1.2.1 ls.length x.1.2.2, .int .i64 0, .int .i64 0]) ∧ St w [] (rowsC x ls) w' := by
 refine (Read_c (textS n ls) hs w hl).mono ?_
 rintro e w' ⟨x, he, hS⟩
 rw [read_text hn hk h] at he hS
 exact ⟨x, he, hS⟩
theorem text_len {n : Int} {ls : List (List Int)} (h : ClsOk n ls) : (textS n ls).length ≤ 6000000 := by
 rw [← accT_all]; exact h.acc _

set_option maxRecDepth 100000 in
theorem FormulaKept_c (n : Int) (ls : List (List Int)) (a : Option Addr) (cap : Nat) (us : List Value) (w : World) (hl : LibW w) (_hn : -9223372036854775808 ≤ n ∧ n < 9223372036854775808) (hr : RdLL w ls a us) :
  Pure Tryz.prog 4 [.int .i64 n, .slice a ls.length cap] w (.bool true) := by
 refine enter Tryz.func4 rfl Tryz.ntmps4 rfl (St.init _) ?_
 refine jN 12 ?_
 refine WL.callV F.fun9 rfl rfl (fun w hS => Large_c ls a cap us w (hr.next hS)) ?_
 refine jN 2 ?_
 refine WA.splitB (i := 13) rfl (fun g13 => ?_) (fun g13 => ?_)
 ·refine jN 16 ?_
  refine WL.callV F.fun5 rfl rfl (fun w _ => wakes_c w) ?_
  refine jN 6 ?_
  exact WQ.ret (rs := [.tmp 4]) rfl (.tmp rfl .nil) (fun w hS => ⟨by first | rfl | simp [tup], hS.sublist (List.nil_sublist _)⟩)
 ·obtain ⟨hl40, hc80⟩ := large_no g13
  have hk1 : ∀ c ∈ ls, c.length ≤ 1000 := fun c hc => by have := hc80 c hc; omega
  refine jN 8 ?_
  refine WL.callV F.fun10 rfl rfl (fun w hS => rclauses_c n ls a cap us (by omega) (fun c hc => by have := hk1 c hc; omega) w (hr.next hS)) ?_
  refine jN 7 ?_
  refine WC.cond rfl (fun h18 => ?_) (fun h18 => ?_)
  ·refine jN 3 ?_
   refine WL.callV F.fun5 rfl rfl (fun w _ => wakes_c w) ?_
   refine jN 6 ?_
   exact WQ.ret (rs := [.tmp 4]) rfl (.tmp rfl .nil) (fun w hS => ⟨by first | rfl | simp [tup], hS.sublist (List.nil_sublist _)⟩)
  ·have hme : Fm.mayE n ls = 0 := by simpa using h18
   obtain ⟨hm0, hcount, hall⟩ := may_zero hme
   have hlit : (∀ c ∈ ls, ∀ x ∈ c, Lit x) ∧ (∀ c ∈ ls, c.length ≤ 64) := by
    obtain ⟨m, rfl⟩ : ∃ m : Nat, n = (m : Int) := ⟨n.toNat, by omega⟩
    exact may_lit (by omega) hall
   have hok : ClsOk n ls := ⟨by omega, hcount, fun c hc => ⟨hlit.2 c hc, fun x hx => by have := hlit.1 c hc x hx; exact ⟨by omega, by omega⟩⟩⟩
   have htl := text_len hok
   have hcl : ∀ c ∈ ls, c.length ≤ 64 ∧ fitsB n c = true ∧ ∀ x ∈ c, x ≠ 0 ∧ -1000 ≤ x ∧ x ≤ 1000 := fun c hc => ⟨hlit.2 c hc, (List.all_eq_true.1 hall) c hc, fun x hx => by have := hlit.1 c hc x hx; exact ⟨this.1, by omega, by omega⟩⟩
   refine jN 9 ?_
   refine WL.callV F.fun11 rfl rfl (fun w hS => Write0_c n ls a cap us hme w (hl.next hS).tab (hr.next hS)) ?_
   refine jN 17 ?_
   refine jC (β := RowsX) (res := fun x => .tuple #[.int .i64 n, .slice x.1.2.1 ls.length x.1.2.2, .int .i64 0, .int .i64 0]) (cs := fun x => [rowc (.slice x.1.2.1 ls.length x.1.2.2) ls.length 46 1 x.1.1.2, stepsC x.1.1.1 x.1.1.2 ls]) F.fun6 rfl (fun w hS _ => Kept_c (by omega) hcount hcl (by omega) w (hl.next hS)) (fun x28 => ?_)
   refine jN 28 ?_
   refine WA.splitB (i := 35) rfl (fun g35 => ?_) (fun g35 => ?_)
   ·refine jN 10 ?_
    refine WA.splitB (i := 39) rfl (fun g39 => ?_) (fun g39 => ?_)
    ·refine jN 13 ?_
     refine WA.splitB (i := 44) rfl (fun g44 => ?_) (fun g44 => ?_)
     ·refine jN 10 ?_
      refine WA.splitB (i := 48) rfl (fun g48 => ?_) (fun g48 => ?_)
      ·refine jN 8 ?_
       refine WL.callV F.fun8 rfl rfl (fun w hS => lsame_c ls x28.1.2.1 a x28.1.2.2 cap x28.1.1.2 us (by omega) hk1 w (RdLL.made rfl (hS.ok (rowc (.slice x28.1.2.1 ls.length x28.1.2.2) ls.length 46 1 x28.1.1.2) jM) (hS.ok (stepsC x28.1.1.1 x28.1.1.2 ls) jM)) (hr.next hS)) ?_
       refine jN 4 ?_
       refine WA.splitB (i := 53) rfl (fun g53 => ?_) (fun g53 => ?_)
       ·refine jN 2 ?_
        refine WL.callV F.fun5 rfl rfl (fun w _ => wakes_c w) ?_
        refine jN 7 ?_
        exact WQ.ret (rs := [.tmp 4]) rfl (.tmp rfl .nil) (fun w hS => ⟨by first | rfl | simp [tup], hS.sublist (List.nil_sublist _)⟩)
       ·exfalso; first | cases g53 | simp at g53
      ·exfalso; first | cases g48 | simp at g48
     ·exfalso; first | cases g44 | simp at g44
    ·exfalso; first | cases g39 | simp at g39
   ·exfalso; first | cases g35 | simp at g35

end Go.Proofs.YtkgllhkhdjodeaaGreatDoor
