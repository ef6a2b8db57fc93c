/- Parts of the walk, put together by a program. By an AI agent. -/
import Derived.Test.YtndpdhamadiopaaGreatDoorPaSourceTells3
import Derived.Lib.Split
import Derived.Lib.AtoiAll
import Derived.Lib.ItoaNum
import Derived.Lib.ItoaMem
import Derived.Shelf.LaysM
import Derived.Shelf.Strconv.Itoa3
import Derived.Shelf.Strconv.AtoiAll
import Derived.Lib.ItoaLen
import Derived.Lib.AtoiErrMem
set_option linter.unusedSimpArgs false
set_option linter.unusedVariables false
namespace Go.Proofs.YtndpdhamadiopaaGreatDoor
open Go Go.Eng Go.Proofs Dg
def sameB (t s : BT) : Bool := decide (canon t = canon s)
theorem sameB_no {t s : BT} (h : canon t ≠ canon s) : sameB t s = false := decide_eq_false h
theorem sameB_iff {t s : BT} : sameB t s = true ↔ t = s := ⟨fun h => canon_inj (of_decide_eq_true h), fun h => by rw [h]; exact decide_eq_true rfl⟩
theorem eq_step {α : Type} {l m : List α} {i : Nat} {x y : α} (hx : l[i]? = some x) (hy : m[i]? = some y) (h : l.take i = m.take i) (e : x = y) : l.take (i + 1) = m.take (i + 1) := by
 rw [List.take_add_one, List.take_add_one, hx, hy, h, e]
theorem ne_at {α : Type} {l m : List α} {i : Nat} {x y : α} (hx : l[i]? = some x) (hy : m[i]? = some y) (e : x ≠ y) : l ≠ m := by
 rintro rfl
 rw [hx] at hy
 exact e (Option.some.inj hy)
theorem eq_all {α : Type} {l m : List α} {i : Nat} (hi : i = l.length) (hl : l.length = m.length) (h : l.take i = m.take i) : l = m := by
 subst hi
 rw [List.take_length, hl, List.take_length] at h
 exact h
theorem EqD2_c (l l2 : List Dec) (a a2 : Option Addr) (c c2 : Nat) (hll : l.length ≤ 1099511627776) (w : World) (hr : RdDec w l a) (hr2 : RdDec w l2 a2) : Pure Tryz.prog 95 [.slice a l.length c, .slice a2 l2.length c2] w (.bool (decide (l = l2))) := by
 refine enter Tryz.func95 rfl Tryz.ntmps95 rfl (St.init _) ?_
 refine jN 21 ?_
 refine WC.cond rfl (fun h10 => ?_) (fun h10 => ?_)
 ·have hne : l ≠ l2 := by rintro rfl; simp at h10
  refine jN 8 ?_
  exact WQ.ret (rs := [.tmp 4]) rfl (.tmp rfl .nil) (fun w hS => ⟨by rw [decide_eq_false hne]; rfl, hS.sublist (List.nil_sublist _)⟩)
 ·have hll2 : l.length = l2.length := by simp at h10; omega
  refine jN 14 ?_
  refine WC.loop (α := Nat) (fun i => i ≤ l.length ∧ l.take i = l2.take i) (fun i => [(0, .slice a l.length c), (1, .slice a2 l2.length c2), (12, .int .i64 (l.length : Int)), (13, .int .i64 (i : Int))]) (fun _ => []) (fun i => l.length - i) (0) ?_ ?_ ?_ ?_
  ·exact ⟨Nat.zero_le _, rfl⟩
  ·exact ⟨rfl, rfl, rfl, rfl, trivial⟩
  ·rfl
  rintro i ⟨hi, hti⟩
  refine jN 7 ?_
  refine WC.cond rfl (fun h14 => ?_) (fun h14 => ?_)
  ·have hlt : i < l.length := by simpa using h14
   have hlt2 : i < l2.length := by omega
   obtain ⟨x, hx⟩ : ∃ y, l[i]? = some y := ⟨_, List.getElem?_eq_getElem hlt⟩
   obtain ⟨y, hy⟩ : ∃ y, l2[i]? = some y := ⟨_, List.getElem?_eq_getElem hlt2⟩
   obtain ⟨b, off, rfl, hcell⟩ := hr.at hx
   obtain ⟨b2, off2, rfl, hcell2⟩ := hr2.at hy
   refine jN 13 ?_
   refine WC.drawsL (by kernel_rfl) (FactsOk.cons (ds := []) (LoadOk.by (Y := fun w => ∀ j v, [Value.int .i64 (x.1 : Int), .int .i64 (x.2.1 : Int), .int .i64 (x.2.2 : Int)][j]? = some v → w.cell? ⟨b, off + i * 3 + j, none⟩ = some v) (fun w hS => fun j v hv => hS.oldc (hcell j v hv) (by simp))) (FactsOk.cons (ds := []) (LoadOk.by (Y := fun w => ∀ j v, [Value.int .i64 (y.1 : Int), .int .i64 (y.2.1 : Int), .int .i64 (y.2.2 : Int)][j]? = some v → w.cell? ⟨b2, off2 + i * 3 + j, none⟩ = some v) (fun w hS => fun j v hv => hS.oldc (hcell2 j v hv) (by simp))) (FactsOk.nil))) ?_
   refine jT 0 rfl (Yl.move rfl) ?_
   refine jT 1 rfl (Yl.move rfl) ?_
   refine jT 2 rfl (Yl.indexAddr F.sl48 rfl rfl hlt) ?_
   refine jF 3 0 rfl rfl (Yl.loadN F.agg186 rfl rfl) ?_
   refine jT 4 rfl (Yl.move rfl) ?_
   refine jT 5 rfl (Yl.move rfl) ?_
   refine jT 6 rfl (Yl.indexAddr F.sl48 rfl rfl hlt2) ?_
   refine jF 7 1 rfl rfl (Yl.loadN F.agg186 rfl rfl) ?_
   refine jT 8 rfl (Yl.bin rfl rfl (fun w => run_neq3 (by kernel_rfl) (by kernel_rfl) x y _ _ w)) ?_
   refine jD ?_
   refine jN 1 ?_
   refine WC.cond rfl (fun h24 => ?_) (fun h24 => ?_)
   ·have hxy : x ≠ y := by rintro rfl; simp at h24
    have hne := ne_at hx hy hxy
    refine jN 12 ?_
    exact WQ.ret (rs := [.tmp 4]) rfl (.tmp rfl .nil) (fun w hS => ⟨by rw [decide_eq_false hne]; rfl, hS.sublist (List.nil_sublist _)⟩)
   ·have hxy : x = y := by simp at h24; exact h24.symm
    refine jN 9 ?_
    refine WQ.back (i + 1) ?_ ?_ ?_ ?_
    ·exact ⟨by omega, eq_step hx hy hti hxy⟩
    ·omega
    ·exact ⟨rfl, rfl, rfl, rfl, trivial⟩
    ·rfl
  ·have hie : i = l.length := by simp at h14; omega
   have heq : l = l2 := eq_all hie hll2 hti
   refine jN 12 ?_
   exact WQ.ret (rs := [.tmp 4]) rfl (.tmp rfl .nil) (fun w hS => ⟨by rw [decide_eq_true heq]; rfl, hS.sublist (List.nil_sublist _)⟩)
theorem SameD_c (t s : BT) (a a2 : Option Addr) (c c2 : Nat) (w : World) (ht : RdD w t a) (hs : RdD w s a2) : Pure Tryz.prog 42 [dval t a c, dval s a2 c2] w (.bool (sameB t s)) := by
 have hcl := Nat.le_of_lt (canon_len ht.1)
 refine enter Tryz.func42 rfl Tryz.ntmps42 rfl (St.init _) ?_
 refine jN 3 ?_
 refine WL.boxN rfl rfl (fun b2 => ?_)
 refine jN 1 ?_
 refine WL.boxN rfl rfl (fun b3 => ?_)
 refine jN 18 ?_
 refine WA.splitB (i := 10) rfl (fun g10 => ?_) (fun g10 => ?_)
 ·have hrt : (canon t).2 = (canon s).2 := by have := beq_iff_eq.1 g10; omega
  refine jN 14 ?_
  refine WL.callV F.fun95 rfl rfl (fun w hS => EqD2_c _ _ a a2 c c2 (Nat.le_trans hcl (by decide)) w (ht.next0 hS).2 (hs.next0 hS).2) ?_
  refine jN 7 ?_
  exact WQ.ret (rs := [.tmp 4]) rfl (.tmp rfl .nil) (fun w hS => ⟨by rw [show sameB t s = decide ((canon t).1 = (canon s).1) from decide_eq_decide.2 ⟨fun h => by rw [h], fun h => Prod.ext h hrt⟩]; rfl, hS.sublist (List.nil_sublist _)⟩)
 ·have hts : canon t ≠ canon s := by intro h; rw [h] at g10; simp at g10
  refine jN 17 ?_
  exact WQ.ret (rs := [.tmp 4]) rfl (.tmp rfl .nil) (fun w hS => ⟨by rw [sameB_no hts]; rfl, hS.sublist (List.nil_sublist _)⟩)
theorem configs_c (l l2 : List Nat) (a a2 : Option Addr) (c c2 : Nat) (hll : l.length ≤ 1000000000000000) (w : World) (hr : RdN w l a) (hr2 : RdN w l2 a2) : Pure Tryz.prog 29 [.slice a l.length c, .slice a2 l2.length c2] w (.bool (decide (l = l2))) := by
 refine enter Tryz.func29 rfl Tryz.ntmps29 rfl (St.init _) ?_
 refine jN 21 ?_
 refine WC.cond rfl (fun h10 => ?_) (fun h10 => ?_)
 ·have hne : l ≠ l2 := by rintro rfl; simp at h10
  refine jN 8 ?_
  exact WQ.ret (rs := [.tmp 4]) rfl (.tmp rfl .nil) (fun w hS => ⟨by rw [decide_eq_false hne]; rfl, hS.sublist (List.nil_sublist _)⟩)
 ·have hll2 : l.length = l2.length := by simp at h10; omega
  refine jN 10 ?_
  refine WC.loop (α := Nat) (fun i => i ≤ l.length ∧ l.take i = l2.take i) (fun i => [(0, .slice a l.length c), (1, .slice a2 l2.length c2), (5, .int .i64 (i : Int))]) (fun _ => []) (fun i => l.length - i) (0) ?_ ?_ ?_ ?_
  ·exact ⟨Nat.zero_le _, rfl⟩
  ·exact ⟨rfl, rfl, rfl, trivial⟩
  ·rfl
  rintro i ⟨hi, hti⟩
  refine jN 13 ?_
  refine WC.cond rfl (fun h14 => ?_) (fun h14 => ?_)
  ·have hlt : i < l.length := by simpa using h14
   have hlt2 : i < l2.length := by omega
   obtain ⟨x, hx⟩ : ∃ y, l[i]? = some y := ⟨_, List.getElem?_eq_getElem hlt⟩
   obtain ⟨y, hy⟩ : ∃ y, l2[i]? = some y := ⟨_, List.getElem?_eq_getElem hlt2⟩
   obtain ⟨b, off, rfl, hcell⟩ := hr i x hx
   obtain ⟨b2, off2, rfl, hcell2⟩ := hr2 i y hy
   refine jN 5 ?_
   refine WC.draws [([], fun w => w.cell? ⟨b, off + i * 1, none⟩ = some (.int .u32 (x : Int))), ([], fun w => w.cell? ⟨b2, off2 + i * 1, none⟩ = some (.int .u32 (y : Int)))] (by kernel_rfl) (fun w hS => facts_cons (hS.oldc (hcell 0 _ rfl) (by simp)) (facts_cons (hS.oldc (hcell2 0 _ rfl) (by simp)) (facts_nil))) ?_
   refine jT 0 rfl (Yl.move rfl) ?_
   refine jT 1 rfl (Yl.move rfl) ?_
   refine jT 2 rfl (Yl.indexAddr F.sl53 rfl rfl hlt) ?_
   refine jF 3 0 rfl rfl (Yl.load1 F.one24 rfl) ?_
   refine jT 4 rfl (Yl.move rfl) ?_
   refine jT 5 rfl (Yl.move rfl) ?_
   refine jT 6 rfl (Yl.indexAddr F.sl53 rfl rfl hlt2) ?_
   refine jF 7 1 rfl rfl (Yl.load1 F.one24 rfl) ?_
   refine jT 8 rfl (Yl.neI rfl rfl) ?_
   refine jD ?_
   refine jN 1 ?_
   refine WC.cond rfl (fun h25 => ?_) (fun h25 => ?_)
   ·have hxy : x ≠ y := by rintro rfl; simp at h25
    have hne := ne_at hx hy hxy
    refine jN 12 ?_
    exact WQ.ret (rs := [.tmp 4]) rfl (.tmp rfl .nil) (fun w hS => ⟨by rw [decide_eq_false hne]; rfl, hS.sublist (List.nil_sublist _)⟩)
   ·have hxy : x = y := by simp at h25; omega
    refine jN 11 ?_
    refine WQ.back (i + 1) ?_ ?_ ?_ ?_
    ·exact ⟨by omega, eq_step hx hy hti hxy⟩
    ·omega
    ·exact ⟨rfl, rfl, rfl, trivial⟩
    ·rfl
  ·have hie : i = l.length := by simp at h14; omega
   have heq : l = l2 := eq_all hie hll2 hti
   refine jN 12 ?_
   exact WQ.ret (rs := [.tmp 4]) rfl (.tmp rfl .nil) (fun w hS => ⟨by rw [decide_eq_true heq]; rfl, hS.sublist (List.nil_sublist _)⟩)
def onLn (f l : Int) (y : ItV) : Bool := decide (y.f = f) && decide (y.l = l)
def findK (its : List ItV) (f l : Int) : Nat → List Int
 | 0 => []
 | k + 1 => if (its[k]?).any (onLn f l) then findK its f l k ++ [(k : Int)] else findK its f l k
theorem findK_len (its : List ItV) (f l : Int) : ∀ k, (findK its f l k).length ≤ k
 | 0 => Nat.le_refl _
 | k + 1 => by
  have ih := findK_len its f l k
  unfold findK
  split
  ·rw [List.length_append, List.length_singleton]; omega
  ·omega
theorem findK_T {its : List ItV} {f l : Int} {i : Nat} {y : ItV} (h : its[i]? = some y) (hon : onLn f l y = true) : findK its f l (i + 1) = findK its f l i ++ [(i : Int)] := by
 rw [findK, h]
 exact if_pos hon
theorem findK_F {its : List ItV} {f l : Int} {i : Nat} {y : ItV} (h : its[i]? = some y) (hon : onLn f l y = false) : findK its f l (i + 1) = findK its f l i := by
 rw [findK, h]
 exact if_neg (by simp [hon])
structure FiG where
 i : Nat
 a : Option Addr
 c : Nat
theorem Find_c (ts : List TkV) (its : List ItV) (hx : ts.map (·.x) = its) (hts : ts.length ≤ 1000) (ta : Option Addr) (tc : Nat) (gv : Value) (hgv : gv.oneCell' = true) (f ln : Int) (w : World) (hr : RdSl tkC 7 w ts ta) :
  Calls Tryz.prog 32 [.agg [.slice ta ts.length tc, gv].toArray, .int .i64 f, .int .i64 ln].toArray w fun e w' => ∃ x : Option Addr × Nat, e = .returned (.slice x.1 (findK its f ln its.length).length x.2) ∧ St w [] [rowc (.slice x.1 (findK its f ln its.length).length x.2) (findK its f ln its.length).length 3 1 ((findK its f ln its.length).map (Value.int .i64))] w' := by
 have hn : its.length = ts.length := by rw [← hx, List.length_map]
 refine enter Tryz.func32 rfl Tryz.ntmps32 rfl (St.init _) ?_
 refine jN 3 ?_
 refine WL.boxN rfl rfl (fun b3 => ?_)
 refine jN 24 ?_
 refine WC.chunks (C' := [rowc (.slice none 0 0) 0 3 1 []]) (fun w hS => (jK (hS.rowNil 3 1))) ?_
 refine WC.loop (α := FiG) (fun g => g.i ≤ ts.length) (fun g => [(1, .int .i64 f), (2, .int .i64 ln), (7, .slice g.a (findK its f ln g.i).length g.c), (11, .slice ta ts.length tc), (12, .int .i64 (ts.length : Int)), (13, .int .i64 (g.i : Int))]) (fun g => [rowc (.slice g.a (findK its f ln g.i).length g.c) (findK its f ln g.i).length 3 1 ((findK its f ln g.i).map (Value.int .i64))]) (fun g => ts.length - g.i) (⟨0, none, 0⟩) ?_ ?_ ?_ ?_
 ·exact Nat.zero_le _
 ·exact ⟨rfl, rfl, rfl, rfl, rfl, rfl, trivial⟩
 ·rfl
 rintro ⟨i, a, c⟩ hi
 dsimp only at hi
 show WC _ _ _ _ _ _ _ [(1, .int .i64 f), (2, .int .i64 ln), (7, .slice a (findK its f ln i).length c), (11, .slice ta ts.length tc), (12, .int .i64 (ts.length : Int)), (13, .int .i64 (i : Int))] [rowc (.slice a (findK its f ln i).length c) (findK its f ln i).length 3 1 ((findK its f ln i).map (Value.int .i64))]
 refine jN 7 ?_
 refine WC.cond rfl (fun h14 => ?_) (fun h14 => ?_)
 ·have hlt : i < ts.length := by simpa using h14
  obtain ⟨y, hy⟩ : ∃ y, ts[i]? = some y := ⟨_, List.getElem?_eq_getElem hlt⟩
  obtain ⟨b, o, rfl, hcy⟩ := hr i y hy
  have hyi : its[i]? = some y.x := by rw [← hx, List.getElem?_map, hy]; rfl
  have hfl := findK_len its f ln i
  refine jN 9 ?_
  refine WL.indexAddr F.sl30 rfl rfl rfl hlt ?_
  refine jN 1 ?_
  refine WL.loadN F.agg105 rfl rfl (vs := tkC y) rfl (fun w hS j v hv => hS.oldc (hcy j v hv) (by simp)) ?_
  refine jN 1 ?_
  refine WL.alloc F.zero105 rfl (fun b9 => ?_)
  refine jN 18 ?_
  refine WA.splitB (i := 22) rfl (fun g22 => ?_) (fun g22 => ?_)
  ·refine jN 16 ?_
   refine WC.cond rfl (fun h27 => ?_) (fun h27 => ?_)
   ·have hon : onLn f ln y.x = true := by unfold onLn; rw [decide_eq_true (by simpa using g22), decide_eq_true (by simpa using h27)]; rfl
    refine jN 6 ?_
    refine WL.buildSlice F.sl70 F.ez70 rfl rfl rfl rfl jB rfl (fun b30 => ?_)
    refine jN 1 ?_
    refine WL.appendE (news := [.int .i64 (i : Int)]) F.el70 rfl rfl rfl jR (fun w hS jj u hu => by rw [Nat.zero_add]; exact hS.cell (cs := [.int .i64 (i : Int)]) jM hu) rfl jO (Nat.le_trans (m := 2000) (by omega) (by decide)) (by omega) (fun a9 c9 => ?_)
    refine jN 11 ?_
    refine WQ.chunks (C' := [rowc (.slice a9 ((findK its f ln i).length + 1) c9) ((findK its f ln i).length + 1) 3 1 ((findK its f ln i).map (Value.int .i64) ++ [.int .i64 (i : Int)])]) (fun w hS => (jK hS)) ?_
    have hs : findK its f ln (i + 1) = findK its f ln i ++ [(i : Int)] := findK_T hyi hon
    refine WQ.back (⟨i + 1, a9, c9⟩) ?_ ?_ ?_ ?_
    ·show i + 1 ≤ ts.length; omega
    ·show ts.length - (i + 1) < ts.length - i; omega
    ·simp only [hs, List.length_append, List.length_cons, List.length_nil]; exact ⟨rfl, rfl, rfl, rfl, rfl, rfl, trivial⟩
    ·simp only [hs, List.length_append, List.length_cons, List.length_nil, List.map_append]; rfl
   ·have hon : onLn f ln y.x = false := by unfold onLn; rw [decide_eq_false (p := y.x.l = ln) (by intro e; rw [e] at h27; simp at h27)]; simp
    refine jN 9 ?_
    refine WQ.chunks (C' := [rowc (.slice a (findK its f ln i).length c) (findK its f ln i).length 3 1 ((findK its f ln i).map (Value.int .i64))]) (fun w hS => (jK hS)) ?_
    have hs : findK its f ln (i + 1) = findK its f ln i := findK_F hyi hon
    refine WQ.back (⟨i + 1, a, c⟩) ?_ ?_ ?_ ?_
    ·show i + 1 ≤ ts.length; omega
    ·show ts.length - (i + 1) < ts.length - i; omega
    ·simp only [hs]; exact ⟨rfl, rfl, rfl, rfl, rfl, rfl, trivial⟩
    ·simp only [hs]
  ·have hon : onLn f ln y.x = false := by unfold onLn; rw [decide_eq_false (by intro e; rw [e] at g22; simp at g22)]; rfl
   refine jN 22 ?_
   refine WQ.chunks (C' := [rowc (.slice a (findK its f ln i).length c) (findK its f ln i).length 3 1 ((findK its f ln i).map (Value.int .i64))]) (fun w hS => (jK hS)) ?_
   have hs : findK its f ln (i + 1) = findK its f ln i := findK_F hyi hon
   refine WQ.back (⟨i + 1, a, c⟩) ?_ ?_ ?_ ?_
   ·show i + 1 ≤ ts.length; omega
   ·show ts.length - (i + 1) < ts.length - i; omega
   ·simp only [hs]; exact ⟨rfl, rfl, rfl, rfl, rfl, rfl, trivial⟩
   ·simp only [hs]
 ·have hie : i = ts.length := by simp at h14; omega
  subst hie
  refine jN 14 ?_
  exact WQ.ret (rs := [.tmp 6]) rfl (.tmp rfl .nil) (fun w hS => ⟨(a, c), by rw [hn]; rfl, by rw [hn]; exact (jK hS)⟩)
def cmpP : List Int → List Int → Int
 | a :: r, b :: s => if a = b then cmpP r s else if a < b then -1 else 1
 | l, m => (l.length : Int) - m.length
theorem cmpP_at {l m : List Int} {i : Nat} {x y : Int} (hx : l[i]? = some x) (hy : m[i]? = some y) (h : cmpP l m = cmpP (l.drop i) (m.drop i)) : cmpP l m = if x = y then cmpP (l.drop (i + 1)) (m.drop (i + 1)) else if x < y then -1 else 1 := by
 have e : ∀ {l : List Int} {x : Int}, l[i]? = some x → l.drop i = x :: l.drop (i + 1) := fun {l x} h => by
  rw [List.drop_eq_getElem_cons (List.getElem?_eq_some_iff.1 h).1]
  congr 1
  exact (List.getElem?_eq_some_iff.1 h).2
 rw [h, e hx, e hy, cmpP]
theorem cmpP_end {l m : List Int} {i : Nat} (hi : i ≤ l.length) (hj : i ≤ m.length) (he : ¬ (i < l.length ∧ i < m.length)) (h : cmpP l m = cmpP (l.drop i) (m.drop i)) : cmpP l m = (l.length : Int) - m.length := by
 rw [h]
 have e : cmpP (l.drop i) (m.drop i) = ((l.drop i).length : Int) - (m.drop i).length := by
  by_cases h1 : i < l.length
  ·have : m.drop i = [] := List.drop_eq_nil_of_le (by omega)
   rw [this]
   cases l.drop i <;> rfl
  ·have : l.drop i = [] := List.drop_eq_nil_of_le (by omega)
   rw [this]
   cases m.drop i <;> rfl
 rw [e, List.length_drop, List.length_drop]
 omega
theorem cmpP_self : ∀ l : List Int, cmpP l l = 0
 | [] => by simp [cmpP]
 | a :: r => by rw [cmpP, if_pos rfl]; exact cmpP_self r
theorem run_subL {m n : Nat} (hm : m ≤ 1000000000) (hn : n ≤ 1000000000) (t : TypeId) (x y : Operand) (w : World) :
  (do eqGuard .sub t x y (.int .i64 (m : Int)) (.int .i64 (n : Int)); binOp .sub t (.int .i64 (m : Int)) (.int .i64 (n : Int)) : Sem Value).run Tryz.prog w = .ok (.int .i64 ((m : Int) - n)) w := by
 have h2 : IntKind.i64.wrap ((m : Int) - (n : Int)) = (m : Int) - (n : Int) := by
  unfold IntKind.wrap
  simp [IntKind.signed, IntKind.bits]
  omega
 simp [eqGuard, binOp, Op.intArith, h2]
theorem rPaths_c (l m : List Int) (a a2 : Option Addr) (c c2 : Nat) (hll : l.length ≤ 1000000000) (hml : m.length ≤ 1000000000) (w : World) (h1 : RdC w l a) (h2 : RdC w m a2) :
  Pure Tryz.prog 83 [.slice a l.length c, .slice a2 m.length c2] w (.int .i64 (cmpP l m)) := by
 refine enter Tryz.func83 rfl Tryz.ntmps83 rfl (St.init _) ?_
 refine jN 14 ?_
 refine WC.loop (α := Nat) (fun i => i ≤ l.length ∧ i ≤ m.length ∧ cmpP l m = cmpP (l.drop i) (m.drop i)) (fun i => [(0, .slice a l.length c), (1, .slice a2 m.length c2), (5, .int .i64 (i : Int))]) (fun _ => []) (fun i => l.length - i) (0) ?_ ?_ ?_ ?_
 ·exact ⟨Nat.zero_le _, Nat.zero_le _, by simp⟩
 ·exact ⟨rfl, rfl, rfl, trivial⟩
 ·rfl
 rintro i ⟨hi, hj, hcm⟩
 refine jN 2 ?_
 refine WC.cutF [(15, .bool (decide (i < l.length) && decide (i < m.length))), (0, .slice a l.length c), (1, .slice a2 m.length c2), (5, .int .i64 (i : Int))] (fun Q' hQ => ?_) ?_
 ·refine jN 11 ?_
  refine WA.splitB (i := 10) rfl (fun g10 => ?_) (fun g10 => ?_)
  ·refine jN 15 ?_
   refine WQ.byCut hQ (subF_bool ?_ ⟨rfl, rfl, rfl, trivial⟩ rfl)
   first | (rw [show decide (i < l.length) = true from decide_eq_true (by simp at g10; omega), Bool.true_and]; exact decide_eq_decide.2 (by omega)) | (rw [show decide (i < l.length) = false from decide_eq_false (by simp at g10; omega)]; rfl)
  ·refine jN 11 ?_
   refine WQ.byCut hQ (subF_bool ?_ ⟨rfl, rfl, rfl, trivial⟩ rfl)
   first | (rw [show decide (i < l.length) = true from decide_eq_true (by simp at g10; omega), Bool.true_and]; exact decide_eq_decide.2 (by omega)) | (rw [show decide (i < l.length) = false from decide_eq_false (by simp at g10; omega)]; rfl)
 refine jN 1 ?_
 refine WC.cond rfl (fun h15 => ?_) (fun h15 => ?_)
 ·have hlt : i < l.length ∧ i < m.length := by simpa using h15
  obtain ⟨x, hx⟩ : ∃ x, l[i]? = some x := ⟨_, List.getElem?_eq_getElem hlt.1⟩
  obtain ⟨y, hy⟩ : ∃ x, m[i]? = some x := ⟨_, List.getElem?_eq_getElem hlt.2⟩
  obtain ⟨b, o, rfl, hcx⟩ := h1 i x hx
  obtain ⟨b2, o2, rfl, hcy⟩ := h2 i y hy
  refine jN 5 ?_
  refine WC.draws [([], fun w => w.cell? ⟨b, o + i * 1, none⟩ = some (.int .i64 x)), ([], fun w => w.cell? ⟨b2, o2 + i * 1, none⟩ = some (.int .i64 y))] (by kernel_rfl) (fun w hS => facts_cons ((by rw [Nat.mul_one]; exact hS.oldc hcx (by simp))) (facts_cons ((by rw [Nat.mul_one]; exact hS.oldc hcy (by simp))) (facts_nil))) ?_
  refine jT 0 rfl (Yl.move rfl) ?_
  refine jT 1 rfl (Yl.move rfl) ?_
  refine jT 2 rfl (Yl.indexAddr F.sl70 rfl rfl hlt.1) ?_
  refine jF 3 0 rfl rfl (Yl.load1 F.one3 rfl) ?_
  refine jT 4 rfl (Yl.move rfl) ?_
  refine jT 5 rfl (Yl.move rfl) ?_
  refine jT 6 rfl (Yl.indexAddr F.sl70 rfl rfl hlt.2) ?_
  refine jF 7 1 rfl rfl (Yl.load1 F.one3 rfl) ?_
  refine jT 8 rfl (Yl.neI rfl rfl) ?_
  refine jD ?_
  refine jN 1 ?_
  refine WC.cond rfl (fun h26 => ?_) (fun h26 => ?_)
  ·have hxy : x ≠ y := by simpa using h26
   have hc9 := cmpP_at hx hy hcm
   rw [if_neg hxy] at hc9
   refine jN 2 ?_
   refine WC.draws [([], fun w => w.cell? ⟨b, o + i * 1, none⟩ = some (.int .i64 x)), ([], fun w => w.cell? ⟨b2, o2 + i * 1, none⟩ = some (.int .i64 y))] (by kernel_rfl) (fun w hS => facts_cons ((by rw [Nat.mul_one]; exact hS.oldc hcx (by simp))) (facts_cons ((by rw [Nat.mul_one]; exact hS.oldc hcy (by simp))) (facts_nil))) ?_
   refine jT 0 rfl (Yl.move rfl) ?_
   refine jT 1 rfl (Yl.move rfl) ?_
   refine jT 2 rfl (Yl.indexAddr F.sl70 rfl rfl hlt.1) ?_
   refine jF 3 0 rfl rfl (Yl.load1 F.one3 rfl) ?_
   refine jT 4 rfl (Yl.move rfl) ?_
   refine jT 5 rfl (Yl.move rfl) ?_
   refine jT 6 rfl (Yl.indexAddr F.sl70 rfl rfl hlt.2) ?_
   refine jF 7 1 rfl rfl (Yl.load1 F.one3 rfl) ?_
   refine jT 8 rfl (Yl.ltI rfl rfl) ?_
   refine jD ?_
   refine jN 1 ?_
   refine WC.cond rfl (fun h35 => ?_) (fun h35 => ?_)
   ·rw [if_pos (show x < y by simpa using h35)] at hc9
    refine jN 13 ?_
    exact WQ.ret (rs := [.tmp 4]) rfl (.tmp rfl .nil) (fun w hS => ⟨by rw [hc9]; rfl, hS⟩)
   ·rw [if_neg (show ¬ x < y by simpa using h35)] at hc9
    refine jN 14 ?_
    exact WQ.ret (rs := [.tmp 4]) rfl (.tmp rfl .nil) (fun w hS => ⟨by rw [hc9]; rfl, hS⟩)
  ·have hxy : x = y := by simpa using h26
   refine jN 11 ?_
   refine WQ.back (i + 1) ?_ ?_ ?_ ?_
   ·exact ⟨by omega, by omega, by rw [cmpP_at hx hy hcm, if_pos hxy]⟩
   ·omega
   ·exact ⟨rfl, rfl, rfl, trivial⟩
   ·rfl
 ·have hend := cmpP_end hi hj (by simpa using h15) hcm
  refine jN 16 ?_
  refine WL.bin (v := .int .i64 ((l.length : Int) - m.length)) rfl rfl rfl (fun w => run_subL hll hml _ _ _ w) ?_
  refine jN 5 ?_
  exact WQ.ret (rs := [.tmp 4]) rfl (.tmp rfl .nil) (fun w hS => ⟨by rw [hend]; rfl, hS⟩)
theorem ints_c (l m : List Int) (a a2 : Option Addr) (c c2 : Nat) (hll : l.length ≤ 1000000000) (hml : m.length ≤ 1000000000) (w : World) (h1 : RdC w l a) (h2 : RdC w m a2) :
  Pure Tryz.prog 31 [.slice a l.length c, .slice a2 m.length c2] w (.bool (cmpP l m == 0)) := by
 refine enter Tryz.func31 rfl Tryz.ntmps31 rfl (St.init _) ?_
 refine jN 13 ?_
 refine WL.callV F.fun83 rfl rfl (fun w hS => rPaths_c l m a a2 c c2 hll hml w (h1.next hS) (h2.next hS)) ?_
 refine jN 7 ?_
 exact WQ.ret (rs := [.tmp 4]) rfl (.tmp rfl .nil) (fun w hS => ⟨rfl, hS⟩)
def cmpI (x y : Int) : Int := if x < y then -1 else if y < x then 1 else 0
theorem cmpI_zero {x y : Int} : cmpI x y = 0 ↔ x = y := by unfold cmpI; split <;> (try split) <;> constructor <;> intro h <;> omega
def cmpS (s t : List UInt8) : Int := if Op.bytesLess s t then -1 else if s = t then 0 else 1
theorem bytesLess_irr : ∀ s : List UInt8, Op.bytesLess s s = false
 | [] => by simp [Op.bytesLess]
 | a :: r => by
  have ih := bytesLess_irr r
  unfold Op.bytesLess
  simp [ih]
theorem cmpS_zero {s t : List UInt8} : cmpS s t = 0 ↔ s = t := by
 unfold cmpS
 by_cases h : s = t
 ·subst h; simp [bytesLess_irr]
 ·constructor
  ·intro h2
   exfalso
   by_cases hb : Op.bytesLess s t = true
   ·rw [if_pos hb] at h2; omega
   ·rw [if_neg hb, if_neg h] at h2; omega
  ·intro h2; exact absurd h2 h
def cmpL : List Int → List Int → Int
 | [], [] => 0
 | [], _ :: _ => -1
 | _ :: _, [] => 1
 | x :: l, y :: m => if x = y then cmpL l m else cmpI x y
theorem cmpL_zero : ∀ {l m : List Int}, cmpL l m = 0 ↔ l = m
 | [], [] => by simp [cmpL]
 | [], _ :: _ => by simp [cmpL]
 | _ :: _, [] => by simp [cmpL]
 | x :: l, y :: m => by
  unfold cmpL
  by_cases h : x = y
  ·rw [if_pos h, cmpL_zero, h]; simp
  ·rw [if_neg h, cmpI_zero]
   constructor
   ·intro h2; exact absurd h2 h
   ·intro h2; simp only [List.cons.injEq] at h2; exact absurd h2.1 h
theorem cmpL_at {l m : List Int} {i : Nat} {x y : Int} (hx : l[i]? = some x) (hy : m[i]? = some y) (h : cmpL l m = cmpL (l.drop i) (m.drop i)) : cmpL l m = if x = y then cmpL (l.drop (i + 1)) (m.drop (i + 1)) else cmpI x y := by
 have e : ∀ {l : List Int} {x : Int}, l[i]? = some x → l.drop i = x :: l.drop (i + 1) := fun {l x} h => by
  rw [List.drop_eq_getElem_cons (List.getElem?_eq_some_iff.1 h).1]
  congr 1
  exact (List.getElem?_eq_some_iff.1 h).2
 rw [h, e hx, e hy, cmpL]
theorem cmpL_end {l m : List Int} {i : Nat} (hi : i ≤ l.length) (hj : i ≤ m.length) (he : ¬ (i < l.length ∧ i < m.length)) (h : cmpL l m = cmpL (l.drop i) (m.drop i)) : cmpL l m = if i < l.length then 1 else if i < m.length then -1 else 0 := by
 rw [h]
 have hd : ∀ {l : List Int}, i < l.length → ∃ x r, l.drop i = x :: r := fun {l} hl => ⟨_, _, List.drop_eq_getElem_cons hl⟩
 by_cases h1 : i < l.length
 ·obtain ⟨x, r, e⟩ := hd h1
  have : m.drop i = [] := List.drop_eq_nil_of_le (by omega)
  rw [this, e, if_pos h1]; rfl
 ·have e1 : l.drop i = [] := List.drop_eq_nil_of_le (by omega)
  rw [if_neg h1, e1]
  by_cases h2 : i < m.length
  ·obtain ⟨x, r, e⟩ := hd h2
   rw [e, if_pos h2]; rfl
  ·have e2 : m.drop i = [] := List.drop_eq_nil_of_le (by omega)
   rw [e2, if_neg h2]; rfl
theorem CmpInt_c_nan (x : Int) (w : World) : Pure Tryz.prog 179 [.int .i64 (x : Int)] w (.bool false) := by
 refine enter Tryz.func179 rfl Tryz.ntmps179 rfl (St.init _) ?_
 refine jN 19 ?_
 exact WQ.ret (rs := [.tmp 2]) rfl (.tmp rfl .nil) (fun w hS => ⟨by simp; rfl, hS⟩)
theorem CmpInt_c (x : Int) (y : Int) (w : World) : Pure Tryz.prog 138 [.int .i64 (x : Int), .int .i64 (y : Int)] w (.int .i64 (cmpI (x : Int) (y : Int))) := by
 refine enter Tryz.func138 rfl Tryz.ntmps138 rfl (St.init _) ?_
 refine jN 11 ?_
 refine WL.callV F.fun179 rfl rfl (fun w hS => CmpInt_c_nan _ w) ?_
 refine jN 9 ?_
 refine WL.callV F.fun179 rfl rfl (fun w hS => CmpInt_c_nan _ w) ?_
 refine jN 35 ?_
 refine WC.cond rfl (fun h16 => ?_) (fun h16 => ?_)
 ·have hc : cmpI (x : Int) (y : Int) = -1 := if_pos (by simpa using h16)
  refine jN 8 ?_
  exact WQ.ret (rs := [.tmp 4]) rfl (.tmp rfl .nil) (fun w hS => ⟨by rw [hc]; rfl, hS⟩)
 ·have hn : ¬ (x : Int) < (y : Int) := by simpa using h16
  refine jN 13 ?_
  refine WC.cond rfl (fun h19 => ?_) (fun h19 => ?_)
  ·have hc : cmpI (x : Int) (y : Int) = 1 := by unfold cmpI; rw [if_neg hn, if_pos (by simpa using h19)]
   refine jN 8 ?_
   exact WQ.ret (rs := [.tmp 4]) rfl (.tmp rfl .nil) (fun w hS => ⟨by rw [hc]; rfl, hS⟩)
  ·have hc : cmpI (x : Int) (y : Int) = 0 := by unfold cmpI; rw [if_neg hn, if_neg (by simpa using h19)]
   refine jN 9 ?_
   exact WQ.ret (rs := [.tmp 4]) rfl (.tmp rfl .nil) (fun w hS => ⟨by rw [hc]; rfl, hS⟩)
theorem CmpU8_c_nan (x : Nat) (w : World) : Pure Tryz.prog 139 [.int .u8 (x : Int)] w (.bool false) := by
 refine enter Tryz.func139 rfl Tryz.ntmps139 rfl (St.init _) ?_
 refine jN 19 ?_
 exact WQ.ret (rs := [.tmp 2]) rfl (.tmp rfl .nil) (fun w hS => ⟨by simp; rfl, hS⟩)
theorem CmpU8_c (x : Nat) (y : Nat) (w : World) : Pure Tryz.prog 101 [.int .u8 (x : Int), .int .u8 (y : Int)] w (.int .i64 (cmpI (x : Int) (y : Int))) := by
 refine enter Tryz.func101 rfl Tryz.ntmps101 rfl (St.init _) ?_
 refine jN 11 ?_
 refine WL.callV F.fun139 rfl rfl (fun w hS => CmpU8_c_nan _ w) ?_
 refine jN 9 ?_
 refine WL.callV F.fun139 rfl rfl (fun w hS => CmpU8_c_nan _ w) ?_
 refine jN 35 ?_
 refine WC.cond rfl (fun h16 => ?_) (fun h16 => ?_)
 ·have hc : cmpI (x : Int) (y : Int) = -1 := if_pos (by simpa using h16)
  refine jN 8 ?_
  exact WQ.ret (rs := [.tmp 4]) rfl (.tmp rfl .nil) (fun w hS => ⟨by rw [hc]; rfl, hS⟩)
 ·have hn : ¬ (x : Int) < (y : Int) := by simpa using h16
  refine jN 13 ?_
  refine WC.cond rfl (fun h19 => ?_) (fun h19 => ?_)
  ·have hc : cmpI (x : Int) (y : Int) = 1 := by unfold cmpI; rw [if_neg hn, if_pos (by simpa using h19)]
   refine jN 8 ?_
   exact WQ.ret (rs := [.tmp 4]) rfl (.tmp rfl .nil) (fun w hS => ⟨by rw [hc]; rfl, hS⟩)
  ·have hc : cmpI (x : Int) (y : Int) = 0 := by unfold cmpI; rw [if_neg hn, if_neg (by simpa using h19)]
   refine jN 9 ?_
   exact WQ.ret (rs := [.tmp 4]) rfl (.tmp rfl .nil) (fun w hS => ⟨by rw [hc]; rfl, hS⟩)
theorem CmpCode_c_nan (x : Nat) (w : World) : Pure Tryz.prog 140 [.int .u8 (x : Int)] w (.bool false) := by
 refine enter Tryz.func140 rfl Tryz.ntmps140 rfl (St.init _) ?_
 refine jN 19 ?_
 exact WQ.ret (rs := [.tmp 2]) rfl (.tmp rfl .nil) (fun w hS => ⟨by simp; rfl, hS⟩)
theorem CmpCode_c (x : Nat) (y : Nat) (w : World) : Pure Tryz.prog 102 [.int .u8 (x : Int), .int .u8 (y : Int)] w (.int .i64 (cmpI (x : Int) (y : Int))) := by
 refine enter Tryz.func102 rfl Tryz.ntmps102 rfl (St.init _) ?_
 refine jN 11 ?_
 refine WL.callV F.fun140 rfl rfl (fun w hS => CmpCode_c_nan _ w) ?_
 refine jN 9 ?_
 refine WL.callV F.fun140 rfl rfl (fun w hS => CmpCode_c_nan _ w) ?_
 refine jN 35 ?_
 refine WC.cond rfl (fun h16 => ?_) (fun h16 => ?_)
 ·have hc : cmpI (x : Int) (y : Int) = -1 := if_pos (by simpa using h16)
  refine jN 8 ?_
  exact WQ.ret (rs := [.tmp 4]) rfl (.tmp rfl .nil) (fun w hS => ⟨by rw [hc]; rfl, hS⟩)
 ·have hn : ¬ (x : Int) < (y : Int) := by simpa using h16
  refine jN 13 ?_
  refine WC.cond rfl (fun h19 => ?_) (fun h19 => ?_)
  ·have hc : cmpI (x : Int) (y : Int) = 1 := by unfold cmpI; rw [if_neg hn, if_pos (by simpa using h19)]
   refine jN 8 ?_
   exact WQ.ret (rs := [.tmp 4]) rfl (.tmp rfl .nil) (fun w hS => ⟨by rw [hc]; rfl, hS⟩)
  ·have hc : cmpI (x : Int) (y : Int) = 0 := by unfold cmpI; rw [if_neg hn, if_neg (by simpa using h19)]
   refine jN 9 ?_
   exact WQ.ret (rs := [.tmp 4]) rfl (.tmp rfl .nil) (fun w hS => ⟨by rw [hc]; rfl, hS⟩)
theorem run_lssS (s t : List UInt8) (ty : TypeId) (x y : Operand) (w : World) : (do eqGuard .lss ty x y (.string (str s)) (.string (str t)); binOp .lss ty (.string (str s)) (.string (str t)) : Sem Value).run Tryz.prog w = .ok (.bool (Op.bytesLess s t)) w := by
 simp [eqGuard, binOp, Op.stringOp, str_toList]
theorem run_gtrS (s t : List UInt8) (ty : TypeId) (x y : Operand) (w : World) : (do eqGuard .gtr ty x y (.string (str s)) (.string (str t)); binOp .gtr ty (.string (str s)) (.string (str t)) : Sem Value).run Tryz.prog w = .ok (.bool (!(Op.bytesLess s t || s == t))) w := by
 simp [eqGuard, binOp, Op.stringOp, str_toList]
theorem CmpStr_c_nan (x : List UInt8) (w : World) : Pure Tryz.prog 124 [.string (str x)] w (.bool false) := by
 refine enter Tryz.func124 rfl Tryz.ntmps124 rfl (St.init _) ?_
 refine jN 19 ?_
 exact WQ.ret (rs := [.tmp 2]) rfl (.tmp rfl .nil) (fun w hS => ⟨by simp; rfl, hS⟩)
theorem CmpStr_c (x : List UInt8) (y : List UInt8) (w : World) : Pure Tryz.prog 88 [.string (str x), .string (str y)] w (.int .i64 (cmpS x y)) := by
 refine enter Tryz.func88 rfl Tryz.ntmps88 rfl (St.init _) ?_
 refine jN 11 ?_
 refine WL.callV F.fun124 rfl rfl (fun w hS => CmpStr_c_nan _ w) ?_
 refine jN 9 ?_
 refine WL.callV F.fun124 rfl rfl (fun w hS => CmpStr_c_nan _ w) ?_
 refine jN 32 ?_
 refine WL.bin (v := .bool (Op.bytesLess x y)) rfl rfl rfl (fun w => run_lssS x y _ _ _ w) ?_
 refine jN 2 ?_
 refine WC.cond rfl (fun h16 => ?_) (fun h16 => ?_)
 ·have hc : cmpS x y = -1 := if_pos h16
  refine jN 8 ?_
  exact WQ.ret (rs := [.tmp 4]) rfl (.tmp rfl .nil) (fun w hS => ⟨by rw [hc]; rfl, hS⟩)
 ·have hn : Op.bytesLess x y = false := h16
  refine jN 10 ?_
  refine WL.bin (v := .bool (!(Op.bytesLess x y || x == y))) rfl rfl rfl (fun w => run_gtrS x y _ _ _ w) ?_
  refine jN 2 ?_
  refine WC.cond rfl (fun h19 => ?_) (fun h19 => ?_)
  ·have hc : cmpS x y = 1 := by unfold cmpS; rw [hn] at h19 ⊢; rw [if_neg (by decide), if_neg (by rintro rfl; simp at h19)]
   refine jN 8 ?_
   exact WQ.ret (rs := [.tmp 4]) rfl (.tmp rfl .nil) (fun w hS => ⟨by rw [hc]; rfl, hS⟩)
  ·have hc : cmpS x y = 0 := by unfold cmpS; rw [hn] at h19 ⊢; rw [if_neg (by decide), if_pos (by simpa using h19)]
   refine jN 9 ?_
   exact WQ.ret (rs := [.tmp 4]) rfl (.tmp rfl .nil) (fun w hS => ⟨by rw [hc]; rfl, hS⟩)
theorem CmpInts_c (l m : List Int) (a a2 : Option Addr) (c c2 : Nat) (hll : l.length ≤ 1000000000) (hml : m.length ≤ 1000000000) (w : World) (h1 : RdC w l a) (h2 : RdC w m a2) :
  Pure Tryz.prog 100 [.slice a l.length c, .slice a2 m.length c2] w (.int .i64 (cmpL l m)) := by
 refine enter Tryz.func100 rfl Tryz.ntmps100 rfl (St.init _) ?_
 refine jN 18 ?_
 refine WC.loop (α := Nat) (fun i => i ≤ l.length ∧ i ≤ m.length ∧ cmpL l m = cmpL (l.drop i) (m.drop i)) (fun i => [(0, .slice a l.length c), (1, .slice a2 m.length c2), (9, .slice a l.length c), (10, .int .i64 (l.length : Int)), (11, .int .i64 (i : Int))]) (fun _ => []) (fun i => l.length - i) (0) ?_ ?_ ?_ ?_
 ·exact ⟨Nat.zero_le _, Nat.zero_le _, by simp⟩
 ·exact ⟨rfl, rfl, rfl, rfl, rfl, trivial⟩
 ·rfl
 rintro i ⟨hi, hj, hcm⟩
 show WC _ _ _ _ _ _ _ [(0, .slice a l.length c), (1, .slice a2 m.length c2), (9, .slice a l.length c), (10, .int .i64 (l.length : Int)), (11, .int .i64 (i : Int))] []
 refine jN 7 ?_
 refine WC.cond rfl (fun h12 => ?_) (fun h12 => ?_)
 ·have hlt : i < l.length := by simpa using h12
  obtain ⟨x, hx⟩ : ∃ x, l[i]? = some x := ⟨_, List.getElem?_eq_getElem hlt⟩
  obtain ⟨b, o, rfl, hcx⟩ := h1 i x hx
  refine jN 9 ?_
  refine WL.indexAddr F.sl70 rfl rfl rfl hlt ?_
  refine jN 1 ?_
  refine WL.load1 F.one3 rfl rfl (v := .int .i64 x) (fun w hS => by rw [Nat.mul_one]; exact hS.oldc hcx (by simp)) ?_
  refine jN 19 ?_
  refine WC.cond rfl (fun h19 => ?_) (fun h19 => ?_)
  ·have hge : m.length ≤ i := by simp at h19; omega
   have hend := cmpL_end hi hj (by omega) hcm
   rw [if_pos hlt] at hend
   refine jN 13 ?_
   exact WQ.ret (rs := [.tmp 4]) rfl (.tmp rfl .nil) (fun w hS => ⟨by rw [hend]; rfl, hS⟩)
  ·have hlt2 : i < m.length := by simp at h19; omega
   obtain ⟨y, hy⟩ : ∃ x, m[i]? = some x := ⟨_, List.getElem?_eq_getElem hlt2⟩
   obtain ⟨b2, o2, rfl, hcy⟩ := h2 i y hy
   refine jN 9 ?_
   refine WL.indexAddr F.sl70 rfl rfl rfl hlt2 ?_
   refine jN 1 ?_
   refine WL.load1 F.one3 rfl rfl (v := .int .i64 y) (fun w hS => by rw [Nat.mul_one]; exact hS.oldc hcy (by simp)) ?_
   refine jN 11 ?_
   refine WL.callV F.fun138 rfl rfl (fun w hS => CmpInt_c x y w) ?_
   refine jN 12 ?_
   refine WC.cond rfl (fun h28 => ?_) (fun h28 => ?_)
   ·have hxy : x ≠ y := by rintro rfl; simp [cmpI] at h28
    have hc9 := cmpL_at hx hy hcm
    rw [if_neg hxy] at hc9
    refine jN 14 ?_
    exact WQ.ret (rs := [.tmp 4]) rfl (.tmp rfl .nil) (fun w hS => ⟨by rw [hc9]; rfl, hS⟩)
   ·have hxy : x = y := cmpI_zero.1 (by simpa using h28)
    refine jN 9 ?_
    refine WQ.back (i + 1) ?_ ?_ ?_ ?_
    ·exact ⟨by omega, by omega, by rw [cmpL_at hx hy hcm, if_pos hxy]⟩
    ·omega
    ·exact ⟨rfl, rfl, rfl, rfl, rfl, trivial⟩
    ·rfl
 ·have hie : i = l.length := by simp at h12; omega
  refine jN 20 ?_
  refine WC.cond rfl (fun h35 => ?_) (fun h35 => ?_)
  ·have hend := cmpL_end hi hj (by omega) hcm
   rw [if_neg (by omega), if_pos (by simp at h35; omega)] at hend
   refine jN 8 ?_
   exact WQ.ret (rs := [.tmp 4]) rfl (.tmp rfl .nil) (fun w hS => ⟨by rw [hend]; rfl, hS⟩)
  ·have hend := cmpL_end hi hj (by omega) hcm
   rw [if_neg (by omega), if_neg (by simp at h35; omega)] at hend
   refine jN 9 ?_
   exact WQ.ret (rs := [.tmp 4]) rfl (.tmp rfl .nil) (fun w hS => ⟨by rw [hend]; rfl, hS⟩)
def orI : List Int → Int
 | [] => 0
 | x :: l => if x = 0 then orI l else x
theorem orI_at {l : List Int} {i : Nat} {x : Int} (hx : l[i]? = some x) (h : orI l = orI (l.drop i)) : orI l = if x = 0 then orI (l.drop (i + 1)) else x := by
 have e : l.drop i = x :: l.drop (i + 1) := by
  rw [List.drop_eq_getElem_cons (List.getElem?_eq_some_iff.1 hx).1]
  congr 1
  exact (List.getElem?_eq_some_iff.1 hx).2
 rw [h, e, orI]
theorem OrI_c (l : List Int) (a : Option Addr) (c : Nat) (hll : l.length ≤ 1000000000) (w : World) (h1 : RdC w l a) :
  Pure Tryz.prog 99 [.slice a l.length c] w (.int .i64 (orI l)) := by
 refine enter Tryz.func99 rfl Tryz.ntmps99 rfl (St.init _) ?_
 refine jN 24 ?_
 refine WC.loop (α := Nat) (fun i => i ≤ l.length ∧ orI l = orI (l.drop i)) (fun i => [(3, .int .i64 0), (6, .slice a l.length c), (7, .int .i64 (l.length : Int)), (8, .int .i64 (i : Int))]) (fun _ => []) (fun i => l.length - i) (0) ?_ ?_ ?_ ?_
 ·exact ⟨Nat.zero_le _, by simp⟩
 ·exact ⟨rfl, rfl, rfl, rfl, trivial⟩
 ·rfl
 rintro i ⟨hi, ho⟩
 show WC _ _ _ _ _ _ _ [(3, .int .i64 0), (6, .slice a l.length c), (7, .int .i64 (l.length : Int)), (8, .int .i64 (i : Int))] []
 refine jN 7 ?_
 refine WC.cond rfl (fun h9 => ?_) (fun h9 => ?_)
 ·have hlt : i < l.length := by simpa using h9
  obtain ⟨x, hx⟩ : ∃ x, l[i]? = some x := ⟨_, List.getElem?_eq_getElem hlt⟩
  obtain ⟨b, o, rfl, hcx⟩ := h1 i x hx
  refine jN 7 ?_
  refine WL.indexAddr F.sl70 rfl rfl rfl hlt ?_
  refine jN 1 ?_
  refine WL.load1 F.one3 rfl rfl (v := .int .i64 x) (fun w hS => by rw [Nat.mul_one]; exact hS.oldc hcx (by simp)) ?_
  refine jN 14 ?_
  refine WC.cond rfl (fun h14 => ?_) (fun h14 => ?_)
  ·have hxz : x ≠ 0 := by rintro rfl; simp at h14
   have hend := orI_at hx ho
   rw [if_neg hxz] at hend
   refine jN 14 ?_
   exact WQ.ret (rs := [.tmp 2]) rfl (.tmp rfl .nil) (fun w hS => ⟨by rw [hend]; rfl, hS⟩)
  ·have hxz : x = 0 := by simpa using h14
   refine jN 9 ?_
   refine WQ.back (i + 1) ?_ ?_ ?_ ?_
   ·exact ⟨by omega, by rw [orI_at hx ho, if_pos hxz]⟩
   ·omega
   ·exact ⟨rfl, rfl, rfl, rfl, trivial⟩
   ·rfl
 ·have hie : i = l.length := by simp at h9; omega
  have hend : orI l = 0 := by rw [ho, hie, List.drop_length]; rfl
  refine jN 14 ?_
  exact WQ.ret (rs := [.tmp 2]) rfl (.tmp rfl .nil) (fun w hS => ⟨by rw [hend]; rfl, hS⟩)
def cmpT (x y : ItV) : Int := orI [cmpL x.p y.p, cmpI (x.k : Int) (y.k : Int), cmpS x.t y.t]
def cmpD (x y : NoV) : Int := orI [cmpL x.p y.p, cmpI (x.k : Int) (y.k : Int)]
theorem RdC.of_pt {w : World} {l : List Int} {b : Nat} {e : TypeId} (h : (pt b (l.map (Value.int .i64)) e).ok w) : RdC w l (some ⟨b, 0, none⟩) := fun i x hx => by
 refine ⟨b, 0, rfl, ?_⟩
 rw [Nat.zero_add]
 exact cell_of_heap h (by rw [List.getElem?_map, hx]; rfl)
set_option maxRecDepth 100000 in
theorem cmpTok_c (x y : TkV) (hxp : x.x.p.length ≤ 1000000000) (hyp : y.x.p.length ≤ 1000000000) (w : World) (rx : RdC w x.x.p x.x.pa) (ry : RdC w y.x.p y.x.pa) :
  Pure Tryz.prog 45 [.agg (tkC x).toArray, .agg (tkC y).toArray] w (.int .i64 (cmpT x.x y.x)) := by
 refine enter Tryz.func45 rfl Tryz.ntmps45 rfl (St.init _) ?_
 refine jN 3 ?_
 refine WL.boxN rfl rfl (fun b2 => ?_)
 refine jN 1 ?_
 refine WL.boxN rfl rfl (fun b3 => ?_)
 refine jN 5 ?_
 refine WC.drawsL (by kernel_rfl) (FactsOk.cons (ds := [4, 9, 14, 15, 16]) (LoadOk.one (t := 2) (off := 2) rfl jM rfl) (FactsOk.cons (ds := [4, 9, 14, 15, 16]) (LoadOk.one (t := 3) (off := 2) rfl jM rfl) (FactsOk.cons (ds := [9, 14, 15, 16]) (LoadOk.one (t := 2) (off := 0) rfl jM rfl) (FactsOk.cons (ds := [9, 14, 15, 16]) (LoadOk.one (t := 3) (off := 0) rfl jM rfl) (FactsOk.cons (ds := [14, 15, 16]) (LoadOk.one (t := 2) (off := 1) rfl jM rfl) (FactsOk.cons (ds := [14, 15, 16]) (LoadOk.one (t := 3) (off := 1) rfl jM rfl) (FactsOk.nil))))))) ?_
 refine jT 0 rfl (Yl.fieldAddr0 F.fld105_2 rfl) ?_
 refine jF 1 0 rfl rfl (Yl.load1 F.one70 rfl) ?_
 refine jT 2 rfl (Yl.fieldAddr0 F.fld105_2 rfl) ?_
 refine jF 3 1 rfl rfl (Yl.load1 F.one70 rfl) ?_
 refine jT 5 rfl (Yl.fieldAddr0 F.fld105_0 rfl) ?_
 refine jF 6 2 rfl rfl (Yl.load1 F.one5 rfl) ?_
 refine jT 7 rfl (Yl.fieldAddr0 F.fld105_0 rfl) ?_
 refine jF 8 3 rfl rfl (Yl.load1 F.one5 rfl) ?_
 refine jT 10 rfl (Yl.fieldAddr0 F.fld105_1 rfl) ?_
 refine jF 11 4 rfl rfl (Yl.load1 F.one9 rfl) ?_
 refine jT 12 rfl (Yl.fieldAddr0 F.fld105_1 rfl) ?_
 refine jF 13 5 rfl rfl (Yl.load1 F.one9 rfl) ?_
 refine jA 4 rfl ?_
 refine WL.callV F.fun100 rfl rfl (fun w hS => CmpInts_c x.x.p y.x.p x.x.pa y.x.pa x.x.pc y.x.pc hxp hyp w (rx.next hS) (ry.next hS)) ?_
 refine WD.on (closed_of (by kernel_rfl)) (fun w hS => Sx.gone rfl (Sx.gone rfl (Sx.keep (hS.cell jM rfl) (Sx.keep (hS.cell jM rfl) (Sx.keep (hS.cell jM rfl) (Sx.keep (hS.cell jM rfl) (Sx.none))))))) ?_
 refine jA 9 rfl ?_
 refine WL.callV F.fun101 rfl rfl (fun w hS => CmpU8_c x.x.k y.x.k w) ?_
 refine WD.on (closed_of (by kernel_rfl)) (fun w hS => Sx.gone rfl (Sx.gone rfl (Sx.gone rfl (Sx.gone rfl (Sx.keep (hS.cell jM rfl) (Sx.keep (hS.cell jM rfl) (Sx.none))))))) ?_
 refine jA 14 rfl ?_
 refine WL.callV F.fun88 rfl rfl (fun w hS => CmpStr_c x.x.t y.x.t w) ?_
 refine jG ?_
 refine jA 15 rfl ?_
 refine WL.buildSlice F.sl70 F.ez70 rfl rfl rfl rfl jB rfl (fun b20 => ?_)
 refine jG ?_
 refine jA 16 rfl ?_
 refine WL.callV F.fun99 rfl rfl (fun w hS => OrI_c [cmpL x.x.p y.x.p, cmpI (x.x.k : Int) (y.x.k : Int), cmpS x.x.t y.x.t] (some ⟨b20, 0, none⟩) 3 (by simp) w (RdC.of_pt (l := [cmpL x.x.p y.x.p, cmpI (x.x.k : Int) (y.x.k : Int), cmpS x.x.t y.x.t]) (hS.ok (pt b20 [.int .i64 (cmpL x.x.p y.x.p), .int .i64 (cmpI (x.x.k : Int) (y.x.k : Int)), .int .i64 (cmpS x.x.t y.x.t)] 3) jM))) ?_
 refine jG ?_
 refine jT 17 rfl (Yl.assign rfl) ?_
 refine jD ?_
 refine jN 2 ?_
 exact WQ.ret (rs := [.tmp 4]) rfl (.tmp rfl .nil) (fun w hS => ⟨rfl, hS.sublist (List.nil_sublist _)⟩)
set_option maxRecDepth 100000 in
theorem cmpDia_c (x y : DgV) (hxp : x.x.p.length ≤ 1000000000) (hyp : y.x.p.length ≤ 1000000000) (w : World) (rx : RdC w x.x.p x.x.pa) (ry : RdC w y.x.p y.x.pa) :
  Pure Tryz.prog 48 [.agg (dgC x).toArray, .agg (dgC y).toArray] w (.int .i64 (cmpD x.x y.x)) := by
 refine enter Tryz.func48 rfl Tryz.ntmps48 rfl (St.init _) ?_
 refine jN 3 ?_
 refine WL.boxN rfl rfl (fun b2 => ?_)
 refine jN 1 ?_
 refine WL.boxN rfl rfl (fun b3 => ?_)
 refine jN 5 ?_
 refine WC.drawsL (by kernel_rfl) (FactsOk.cons (ds := [4, 9, 10, 11]) (LoadOk.one (t := 2) (off := 1) rfl jM rfl) (FactsOk.cons (ds := [4, 9, 10, 11]) (LoadOk.one (t := 3) (off := 1) rfl jM rfl) (FactsOk.cons (ds := [9, 10, 11]) (LoadOk.one (t := 2) (off := 0) rfl jM rfl) (FactsOk.cons (ds := [9, 10, 11]) (LoadOk.one (t := 3) (off := 0) rfl jM rfl) (FactsOk.nil))))) ?_
 refine jT 0 rfl (Yl.fieldAddr0 F.fld109_1 rfl) ?_
 refine jF 1 0 rfl rfl (Yl.load1 F.one70 rfl) ?_
 refine jT 2 rfl (Yl.fieldAddr0 F.fld109_1 rfl) ?_
 refine jF 3 1 rfl rfl (Yl.load1 F.one70 rfl) ?_
 refine jT 5 rfl (Yl.fieldAddr0 F.fld109_0 rfl) ?_
 refine jF 6 2 rfl rfl (Yl.load1 F.one93 rfl) ?_
 refine jT 7 rfl (Yl.fieldAddr0 F.fld109_0 rfl) ?_
 refine jF 8 3 rfl rfl (Yl.load1 F.one93 rfl) ?_
 refine jA 4 rfl ?_
 refine WL.callV F.fun100 rfl rfl (fun w hS => CmpInts_c x.x.p y.x.p x.x.pa y.x.pa x.x.pc y.x.pc hxp hyp w (rx.next hS) (ry.next hS)) ?_
 refine WD.on (closed_of (by kernel_rfl)) (fun w hS => Sx.gone rfl (Sx.gone rfl (Sx.keep (hS.cell jM rfl) (Sx.keep (hS.cell jM rfl) (Sx.none))))) ?_
 refine jA 9 rfl ?_
 refine WL.callV F.fun102 rfl rfl (fun w hS => CmpCode_c x.x.k y.x.k w) ?_
 refine jG ?_
 refine jA 10 rfl ?_
 refine WL.buildSlice F.sl70 F.ez70 rfl rfl rfl rfl jB rfl (fun b15 => ?_)
 refine jG ?_
 refine jA 11 rfl ?_
 refine WL.callV F.fun99 rfl rfl (fun w hS => OrI_c [cmpL x.x.p y.x.p, cmpI (x.x.k : Int) (y.x.k : Int)] (some ⟨b15, 0, none⟩) 2 (by simp) w (RdC.of_pt (l := [cmpL x.x.p y.x.p, cmpI (x.x.k : Int) (y.x.k : Int)]) (hS.ok (pt b15 [.int .i64 (cmpL x.x.p y.x.p), .int .i64 (cmpI (x.x.k : Int) (y.x.k : Int))] 3) jM))) ?_
 refine jG ?_
 refine jT 12 rfl (Yl.assign rfl) ?_
 refine jD ?_
 refine jN 2 ?_
 exact WQ.ret (rs := [.tmp 4]) rfl (.tmp rfl .nil) (fun w hS => ⟨rfl, hS.sublist (List.nil_sublist _)⟩)
def eqBy {α : Type} (f : α → α → Bool) : List α → List α → Bool
 | [], [] => true
 | x :: l, y :: m => f x y && eqBy f l m
 | _, _ => false
theorem eqBy_len {α : Type} {f : α → α → Bool} : ∀ {l m : List α}, eqBy f l m = true → l.length = m.length
 | [], [], _ => rfl
 | x :: l, y :: m, h => by
  unfold eqBy at h
  rw [Bool.and_eq_true] at h
  rw [List.length_cons, List.length_cons, eqBy_len h.2]
 | [], _ :: _, h => by cases h
 | _ :: _, [], h => by cases h
theorem eqBy_at {α : Type} {f : α → α → Bool} {l m : List α} {i : Nat} {x y : α} (hx : l[i]? = some x) (hy : m[i]? = some y) (h : eqBy f l m = eqBy f (l.drop i) (m.drop i)) : eqBy f l m = (f x y && eqBy f (l.drop (i + 1)) (m.drop (i + 1))) := by
 have e : ∀ {l : List α} {x : α}, l[i]? = some x → l.drop i = x :: l.drop (i + 1) := fun {l x} h => by
  rw [List.drop_eq_getElem_cons (List.getElem?_eq_some_iff.1 h).1]
  congr 1
  exact (List.getElem?_eq_some_iff.1 h).2
 rw [h, e hx, e hy, eqBy]
def sameTB (x y : TkV) : Bool := decide (cmpT x.x y.x = 0) && decide (x.x.f = y.x.f) && decide (x.x.l = y.x.l) && sameB x.d y.d
def sameDB (x y : DgV) : Bool := decide (cmpD x.x y.x = 0) && decide (x.x.f = y.x.f) && decide (x.x.l = y.x.l) && sameB x.d y.d
structure TsR (w : World) (ts : List TkV) (a : Option Addr) : Prop where
 r : RdSl tkC 7 w ts a
 p : ∀ t ∈ ts, RdC w t.x.p t.x.pa ∧ t.x.p.length ≤ 1000000000
 d : ∀ t ∈ ts, RdD w t.d t.da
structure DsR (w : World) (ts : List DgV) (a : Option Addr) : Prop where
 r : RdSl dgC 6 w ts a
 p : ∀ t ∈ ts, RdC w t.x.p t.x.pa ∧ t.x.p.length ≤ 1000000000
 d : ∀ t ∈ ts, RdD w t.d t.da
theorem TsR.next {w0 w : World} {C : List Chunk} {ts : List TkV} {a : Option Addr} (h : TsR w0 ts a) (hS : St w0 [] C w) : TsR w ts a := ⟨h.r.next hS, fun t ht => ⟨(h.p t ht).1.next hS, (h.p t ht).2⟩, fun t ht => (h.d t ht).next0 hS⟩
theorem DsR.next {w0 w : World} {C : List Chunk} {ts : List DgV} {a : Option Addr} (h : DsR w0 ts a) (hS : St w0 [] C w) : DsR w ts a := ⟨h.r.next hS, fun t ht => ⟨(h.p t ht).1.next hS, (h.p t ht).2⟩, fun t ht => (h.d t ht).next0 hS⟩
set_option maxRecDepth 100000 in
theorem same1_c (x y : TkV) (hxp : x.x.p.length ≤ 1000000000) (hyp : y.x.p.length ≤ 1000000000) (w : World) (rx : RdC w x.x.p x.x.pa) (ry : RdC w y.x.p y.x.pa) (dx : RdD w x.d x.da) (dy : RdD w y.d y.da) :
  Pure Tryz.prog 76 [.agg (tkC x).toArray, .agg (tkC y).toArray] w (.bool (sameTB x y)) := by
 refine enter Tryz.func76 rfl Tryz.ntmps76 rfl (St.init _) ?_
 refine jN 3 ?_
 refine WL.boxN rfl rfl (fun b2 => ?_)
 refine jN 1 ?_
 refine WL.boxN rfl rfl (fun b3 => ?_)
 refine jN 11 ?_
 refine WL.callV F.fun45 rfl rfl (fun w hS => cmpTok_c x y hxp hyp w (rx.next hS) (ry.next hS)) ?_
 refine jN 4 ?_
 refine WA.splitB (i := 9) rfl (fun g9 => ?_) (fun g9 => ?_)
 ·have hc : decide (cmpT x.x y.x = 0) = true := decide_eq_true (by simpa using g9)
  refine jN 19 ?_
  refine WA.splitB (i := 16) rfl (fun g16 => ?_) (fun g16 => ?_)
  ·have hf : decide (x.x.f = y.x.f) = true := decide_eq_true (by simpa using g16)
   refine jN 19 ?_
   refine WA.splitB (i := 23) rfl (fun g23 => ?_) (fun g23 => ?_)
   ·have hl : decide (x.x.l = y.x.l) = true := decide_eq_true (by simpa using g23)
    refine jN 5 ?_
    refine WL.loadN F.agg50 rfl rfl (vs := [Value.slice x.da (canon x.d).1.length x.dc, .int .i64 ((canon x.d).2 : Int)]) rfl (fun w hS j v hv => (by (have h9 : (tkC x)[5 + j]? = some v := (by (show ([.int .u8 (x.x.k : Int), .string (str x.x.t), .slice x.x.pa x.x.p.length x.x.pc, .int .i64 x.x.f, .int .i64 x.x.l] ++ [Value.slice x.da (canon x.d).1.length x.dc, .int .i64 ((canon x.d).2 : Int)])[5 + j]? = some v); rw [List.getElem?_append_right (by simp)]; simpa using hv)); (show w.cell? ⟨b2, 5 + j, none⟩ = some v); exact hS.cell (cs := tkC x) jM h9)) ?_
    refine jN 5 ?_
    refine WL.loadN F.agg50 rfl rfl (vs := [Value.slice y.da (canon y.d).1.length y.dc, .int .i64 ((canon y.d).2 : Int)]) rfl (fun w hS j v hv => (by (have h9 : (tkC y)[5 + j]? = some v := (by (show ([.int .u8 (y.x.k : Int), .string (str y.x.t), .slice y.x.pa y.x.p.length y.x.pc, .int .i64 y.x.f, .int .i64 y.x.l] ++ [Value.slice y.da (canon y.d).1.length y.dc, .int .i64 ((canon y.d).2 : Int)])[5 + j]? = some v); rw [List.getElem?_append_right (by simp)]; simpa using hv)); (show w.cell? ⟨b3, 5 + j, none⟩ = some v); exact hS.cell (cs := tkC y) jM h9)) ?_
    refine jN 2 ?_
    refine WL.callV F.fun42 rfl rfl (fun w hS => SameD_c x.d y.d x.da y.da x.dc y.dc w (dx.next0 hS) (dy.next0 hS)) ?_
    refine jN 7 ?_
    exact WQ.ret (rs := [.tmp 4]) rfl (.tmp rfl .nil) (fun w hS => ⟨by unfold sameTB; rw [hc, hf, hl]; rfl, hS.sublist (List.nil_sublist _)⟩)
   ·have hl : decide (x.x.l = y.x.l) = false := decide_eq_false (by intro e; rw [e] at g23; simp at g23)
    refine jN 17 ?_
    exact WQ.ret (rs := [.tmp 4]) rfl (.tmp rfl .nil) (fun w hS => ⟨by unfold sameTB; rw [hc, hf, hl]; rfl, hS.sublist (List.nil_sublist _)⟩)
  ·have hf : decide (x.x.f = y.x.f) = false := decide_eq_false (by intro e; rw [e] at g16; simp at g16)
   refine jN 31 ?_
   exact WQ.ret (rs := [.tmp 4]) rfl (.tmp rfl .nil) (fun w hS => ⟨by unfold sameTB; rw [hc, hf]; rfl, hS.sublist (List.nil_sublist _)⟩)
 ·have hc : decide (cmpT x.x y.x = 0) = false := decide_eq_false (by intro e; rw [e] at g9; simp at g9)
  refine jN 45 ?_
  exact WQ.ret (rs := [.tmp 4]) rfl (.tmp rfl .nil) (fun w hS => ⟨by unfold sameTB; rw [hc]; rfl, hS.sublist (List.nil_sublist _)⟩)
set_option maxRecDepth 100000 in
theorem same2_c (x y : DgV) (hxp : x.x.p.length ≤ 1000000000) (hyp : y.x.p.length ≤ 1000000000) (w : World) (rx : RdC w x.x.p x.x.pa) (ry : RdC w y.x.p y.x.pa) (dx : RdD w x.d x.da) (dy : RdD w y.d y.da) :
  Pure Tryz.prog 78 [.agg (dgC x).toArray, .agg (dgC y).toArray] w (.bool (sameDB x y)) := by
 refine enter Tryz.func78 rfl Tryz.ntmps78 rfl (St.init _) ?_
 refine jN 3 ?_
 refine WL.boxN rfl rfl (fun b2 => ?_)
 refine jN 1 ?_
 refine WL.boxN rfl rfl (fun b3 => ?_)
 refine jN 11 ?_
 refine WL.callV F.fun48 rfl rfl (fun w hS => cmpDia_c x y hxp hyp w (rx.next hS) (ry.next hS)) ?_
 refine jN 4 ?_
 refine WA.splitB (i := 9) rfl (fun g9 => ?_) (fun g9 => ?_)
 ·have hc : decide (cmpD x.x y.x = 0) = true := decide_eq_true (by simpa using g9)
  refine jN 19 ?_
  refine WA.splitB (i := 16) rfl (fun g16 => ?_) (fun g16 => ?_)
  ·have hf : decide (x.x.f = y.x.f) = true := decide_eq_true (by simpa using g16)
   refine jN 19 ?_
   refine WA.splitB (i := 23) rfl (fun g23 => ?_) (fun g23 => ?_)
   ·have hl : decide (x.x.l = y.x.l) = true := decide_eq_true (by simpa using g23)
    refine jN 5 ?_
    refine WL.loadN F.agg50 rfl rfl (vs := [Value.slice x.da (canon x.d).1.length x.dc, .int .i64 ((canon x.d).2 : Int)]) rfl (fun w hS j v hv => (by (have h9 : (dgC x)[4 + j]? = some v := (by (show ([.int .u8 (x.x.k : Int), .slice x.x.pa x.x.p.length x.x.pc, .int .i64 x.x.f, .int .i64 x.x.l] ++ [Value.slice x.da (canon x.d).1.length x.dc, .int .i64 ((canon x.d).2 : Int)])[4 + j]? = some v); rw [List.getElem?_append_right (by simp)]; simpa using hv)); (show w.cell? ⟨b2, 4 + j, none⟩ = some v); exact hS.cell (cs := dgC x) jM h9)) ?_
    refine jN 5 ?_
    refine WL.loadN F.agg50 rfl rfl (vs := [Value.slice y.da (canon y.d).1.length y.dc, .int .i64 ((canon y.d).2 : Int)]) rfl (fun w hS j v hv => (by (have h9 : (dgC y)[4 + j]? = some v := (by (show ([.int .u8 (y.x.k : Int), .slice y.x.pa y.x.p.length y.x.pc, .int .i64 y.x.f, .int .i64 y.x.l] ++ [Value.slice y.da (canon y.d).1.length y.dc, .int .i64 ((canon y.d).2 : Int)])[4 + j]? = some v); rw [List.getElem?_append_right (by simp)]; simpa using hv)); (show w.cell? ⟨b3, 4 + j, none⟩ = some v); exact hS.cell (cs := dgC y) jM h9)) ?_
    refine jN 2 ?_
    refine WL.callV F.fun42 rfl rfl (fun w hS => SameD_c x.d y.d x.da y.da x.dc y.dc w (dx.next0 hS) (dy.next0 hS)) ?_
    refine jN 7 ?_
    exact WQ.ret (rs := [.tmp 4]) rfl (.tmp rfl .nil) (fun w hS => ⟨by unfold sameDB; rw [hc, hf, hl]; rfl, hS.sublist (List.nil_sublist _)⟩)
   ·have hl : decide (x.x.l = y.x.l) = false := decide_eq_false (by intro e; rw [e] at g23; simp at g23)
    refine jN 17 ?_
    exact WQ.ret (rs := [.tmp 4]) rfl (.tmp rfl .nil) (fun w hS => ⟨by unfold sameDB; rw [hc, hf, hl]; rfl, hS.sublist (List.nil_sublist _)⟩)
  ·have hf : decide (x.x.f = y.x.f) = false := decide_eq_false (by intro e; rw [e] at g16; simp at g16)
   refine jN 31 ?_
   exact WQ.ret (rs := [.tmp 4]) rfl (.tmp rfl .nil) (fun w hS => ⟨by unfold sameDB; rw [hc, hf]; rfl, hS.sublist (List.nil_sublist _)⟩)
 ·have hc : decide (cmpD x.x y.x = 0) = false := decide_eq_false (by intro e; rw [e] at g9; simp at g9)
  refine jN 45 ?_
  exact WQ.ret (rs := [.tmp 4]) rfl (.tmp rfl .nil) (fun w hS => ⟨by unfold sameDB; rw [hc]; rfl, hS.sublist (List.nil_sublist _)⟩)
set_option maxRecDepth 100000 in
theorem eqTok_c (l m : List TkV) (a a2 : Option Addr) (c c2 : Nat) (hll : l.length ≤ 1000000000) (hml : m.length ≤ 1000000000) (w : World) (h1 : TsR w l a) (h2 : TsR w m a2) :
  Pure Tryz.prog 75 [.slice a l.length c, .slice a2 m.length c2, .func (.func 76) [].toArray [].toArray] w (.bool (eqBy sameTB l m)) := by
 refine enter Tryz.func75 rfl Tryz.ntmps75 rfl (St.init _) ?_
 refine jN 21 ?_
 refine WC.cond rfl (fun h14 => ?_) (fun h14 => ?_)
 ·have hb : eqBy sameTB l m = false := by cases he : eqBy sameTB l m with
   | false => rfl
   | true => exfalso; have := eqBy_len he; simp [this] at h14
  refine jN 8 ?_
  exact WQ.ret (rs := [.tmp 6]) rfl (.tmp rfl .nil) (fun w hS => ⟨by rw [hb]; rfl, hS.sublist (List.nil_sublist _)⟩)
 ·have hlm : l.length = m.length := by simp at h14; omega
  refine jN 14 ?_
  refine WC.loop (α := Nat) (fun i => i ≤ l.length ∧ eqBy sameTB l m = eqBy sameTB (l.drop i) (m.drop i)) (fun i => [(0, .slice a l.length c), (1, .slice a2 m.length c2), (2, .func (.func 76) [].toArray [].toArray), (15, .slice a l.length c), (16, .int .i64 (l.length : Int)), (17, .int .i64 (i : Int))]) (fun _ => []) (fun i => l.length - i) (0) ?_ ?_ ?_ ?_
  ·exact ⟨Nat.zero_le _, rfl⟩
  ·exact ⟨rfl, rfl, rfl, rfl, rfl, rfl, trivial⟩
  ·rfl
  rintro i ⟨hi, he⟩
  show WC _ _ _ _ _ _ _ [(0, .slice a l.length c), (1, .slice a2 m.length c2), (2, .func (.func 76) [].toArray [].toArray), (15, .slice a l.length c), (16, .int .i64 (l.length : Int)), (17, .int .i64 (i : Int))] []
  refine jN 7 ?_
  refine WC.cond rfl (fun h18 => ?_) (fun h18 => ?_)
  ·have hlt : i < l.length := by simpa using h18
   have hlt2 : i < m.length := by omega
   obtain ⟨x, hx⟩ : ∃ x, l[i]? = some x := ⟨_, List.getElem?_eq_getElem hlt⟩
   obtain ⟨y, hy⟩ : ∃ x, m[i]? = some x := ⟨_, List.getElem?_eq_getElem hlt2⟩
   obtain ⟨b, o, rfl, hcx⟩ := h1.r i x hx
   obtain ⟨b2, o2, rfl, hcy⟩ := h2.r i y hy
   have hxm := List.mem_of_getElem? hx
   have hym := List.mem_of_getElem? hy
   have hat := eqBy_at hx hy he
   refine jN 9 ?_
   refine WL.indexAddr F.sl30 rfl rfl rfl hlt ?_
   refine jN 1 ?_
   refine WL.loadN F.agg105 rfl rfl (vs := tkC x) rfl (fun w hS j v hv => hS.oldc (hcx j v hv) (by simp)) ?_
   refine jN 1 ?_
   refine WL.alloc F.zero105 rfl (fun b8 => ?_)
   refine jN 13 ?_
   refine WL.indexAddr F.sl30 rfl rfl rfl hlt2 ?_
   refine jN 1 ?_
   refine WL.loadN F.agg105 rfl rfl (vs := tkC y) rfl (fun w hS j v hv => hS.oldc (hcy j v hv) (by simp)) ?_
   refine jN 1 ?_
   refine WL.alloc F.zero105 rfl (fun b9 => ?_)
   refine jN 13 ?_
   refine WL.callFC (β := Unit) (res := fun _ => .bool (sameTB x y)) (cs := fun _ => []) (Cs := []) (O' := []) (us := []) (cap := []) F.fun76 (fun d h => by cases h; rfl) rfl rfl (List.Perm.refl _) (by simp) (by simp) (fun w hS _ => (same1_c x y (h1.p x hxm).2 (h2.p y hym).2 w ((h1.p x hxm).1.next hS) ((h2.p y hym).1.next hS) ((h1.d x hxm).next0 hS) ((h2.d y hym).next0 hS)).mono (fun e w2 h => ⟨(), h⟩)) (fun _ => ?_)
   refine jN 4 ?_
   refine WC.cond rfl (fun h30 => ?_) (fun h30 => ?_)
   ·have hxy : sameTB x y = false := by simpa using h30
    have hb : eqBy sameTB l m = false := by rw [hat, hxy]; rfl
    refine jN 12 ?_
    exact WQ.ret (rs := [.tmp 6]) rfl (.tmp rfl .nil) (fun w hS => ⟨by rw [hb]; rfl, hS.sublist (List.nil_sublist _)⟩)
   ·have hxy : sameTB x y = true := by simpa using h30
    refine jN 9 ?_
    refine WQ.chunks (C' := []) (fun w hS => hS.sublist (List.nil_sublist _)) ?_
    refine WQ.back (i + 1) ?_ ?_ ?_ ?_
    ·exact ⟨by omega, by rw [hat, hxy, Bool.true_and]⟩
    ·omega
    ·exact ⟨rfl, rfl, rfl, rfl, rfl, rfl, trivial⟩
    ·rfl
  ·have hie : i = l.length := by simp at h18; omega
   have hb : eqBy sameTB l m = true := by rw [he, hie, List.drop_length, hlm, List.drop_length]; rfl
   refine jN 12 ?_
   exact WQ.ret (rs := [.tmp 6]) rfl (.tmp rfl .nil) (fun w hS => ⟨by rw [hb]; rfl, hS.sublist (List.nil_sublist _)⟩)
set_option maxRecDepth 100000 in
theorem eqDia_c (l m : List DgV) (a a2 : Option Addr) (c c2 : Nat) (hll : l.length ≤ 1000000000) (hml : m.length ≤ 1000000000) (w : World) (h1 : DsR w l a) (h2 : DsR w m a2) :
  Pure Tryz.prog 77 [.slice a l.length c, .slice a2 m.length c2, .func (.func 78) [].toArray [].toArray] w (.bool (eqBy sameDB l m)) := by
 refine enter Tryz.func77 rfl Tryz.ntmps77 rfl (St.init _) ?_
 refine jN 21 ?_
 refine WC.cond rfl (fun h14 => ?_) (fun h14 => ?_)
 ·have hb : eqBy sameDB l m = false := by cases he : eqBy sameDB l m with
   | false => rfl
   | true => exfalso; have := eqBy_len he; simp [this] at h14
  refine jN 8 ?_
  exact WQ.ret (rs := [.tmp 6]) rfl (.tmp rfl .nil) (fun w hS => ⟨by rw [hb]; rfl, hS.sublist (List.nil_sublist _)⟩)
 ·have hlm : l.length = m.length := by simp at h14; omega
  refine jN 14 ?_
  refine WC.loop (α := Nat) (fun i => i ≤ l.length ∧ eqBy sameDB l m = eqBy sameDB (l.drop i) (m.drop i)) (fun i => [(0, .slice a l.length c), (1, .slice a2 m.length c2), (2, .func (.func 78) [].toArray [].toArray), (15, .slice a l.length c), (16, .int .i64 (l.length : Int)), (17, .int .i64 (i : Int))]) (fun _ => []) (fun i => l.length - i) (0) ?_ ?_ ?_ ?_
  ·exact ⟨Nat.zero_le _, rfl⟩
  ·exact ⟨rfl, rfl, rfl, rfl, rfl, rfl, trivial⟩
  ·rfl
  rintro i ⟨hi, he⟩
  show WC _ _ _ _ _ _ _ [(0, .slice a l.length c), (1, .slice a2 m.length c2), (2, .func (.func 78) [].toArray [].toArray), (15, .slice a l.length c), (16, .int .i64 (l.length : Int)), (17, .int .i64 (i : Int))] []
  refine jN 7 ?_
  refine WC.cond rfl (fun h18 => ?_) (fun h18 => ?_)
  ·have hlt : i < l.length := by simpa using h18
   have hlt2 : i < m.length := by omega
   obtain ⟨x, hx⟩ : ∃ x, l[i]? = some x := ⟨_, List.getElem?_eq_getElem hlt⟩
   obtain ⟨y, hy⟩ : ∃ x, m[i]? = some x := ⟨_, List.getElem?_eq_getElem hlt2⟩
   obtain ⟨b, o, rfl, hcx⟩ := h1.r i x hx
   obtain ⟨b2, o2, rfl, hcy⟩ := h2.r i y hy
   have hxm := List.mem_of_getElem? hx
   have hym := List.mem_of_getElem? hy
   have hat := eqBy_at hx hy he
   refine jN 9 ?_
   refine WL.indexAddr F.sl31 rfl rfl rfl hlt ?_
   refine jN 1 ?_
   refine WL.loadN F.agg109 rfl rfl (vs := dgC x) rfl (fun w hS j v hv => hS.oldc (hcx j v hv) (by simp)) ?_
   refine jN 1 ?_
   refine WL.alloc F.zero109 rfl (fun b8 => ?_)
   refine jN 13 ?_
   refine WL.indexAddr F.sl31 rfl rfl rfl hlt2 ?_
   refine jN 1 ?_
   refine WL.loadN F.agg109 rfl rfl (vs := dgC y) rfl (fun w hS j v hv => hS.oldc (hcy j v hv) (by simp)) ?_
   refine jN 1 ?_
   refine WL.alloc F.zero109 rfl (fun b9 => ?_)
   refine jN 13 ?_
   refine WL.callFC (β := Unit) (res := fun _ => .bool (sameDB x y)) (cs := fun _ => []) (Cs := []) (O' := []) (us := []) (cap := []) F.fun78 (fun d h => by cases h; rfl) rfl rfl (List.Perm.refl _) (by simp) (by simp) (fun w hS _ => (same2_c x y (h1.p x hxm).2 (h2.p y hym).2 w ((h1.p x hxm).1.next hS) ((h2.p y hym).1.next hS) ((h1.d x hxm).next0 hS) ((h2.d y hym).next0 hS)).mono (fun e w2 h => ⟨(), h⟩)) (fun _ => ?_)
   refine jN 4 ?_
   refine WC.cond rfl (fun h30 => ?_) (fun h30 => ?_)
   ·have hxy : sameDB x y = false := by simpa using h30
    have hb : eqBy sameDB l m = false := by rw [hat, hxy]; rfl
    refine jN 12 ?_
    exact WQ.ret (rs := [.tmp 6]) rfl (.tmp rfl .nil) (fun w hS => ⟨by rw [hb]; rfl, hS.sublist (List.nil_sublist _)⟩)
   ·have hxy : sameDB x y = true := by simpa using h30
    refine jN 9 ?_
    refine WQ.chunks (C' := []) (fun w hS => hS.sublist (List.nil_sublist _)) ?_
    refine WQ.back (i + 1) ?_ ?_ ?_ ?_
    ·exact ⟨by omega, by rw [hat, hxy, Bool.true_and]⟩
    ·omega
    ·exact ⟨rfl, rfl, rfl, rfl, rfl, rfl, trivial⟩
    ·rfl
  ·have hie : i = l.length := by simp at h18; omega
   have hb : eqBy sameDB l m = true := by rw [he, hie, List.drop_length, hlm, List.drop_length]; rfl
   refine jN 12 ?_
   exact WQ.ret (rs := [.tmp 6]) rfl (.tmp rfl .nil) (fun w hS => ⟨by rw [hb]; rfl, hS.sublist (List.nil_sublist _)⟩)
set_option maxRecDepth 100000 in
theorem Same6_c (l m : List TkV) (ta ta2 : Option Addr) (tc tc2 : Nat) (g k : List DgV) (ga ga2 : Option Addr) (gc gc2 : Nat) (hl : l.length ≤ 1000000000) (hm : m.length ≤ 1000000000) (hg : g.length ≤ 1000000000) (hk : k.length ≤ 1000000000) (w : World) (h1 : TsR w l ta) (h2 : TsR w m ta2) (h3 : DsR w g ga) (h4 : DsR w k ga2) :
  Pure Tryz.prog 25 [.agg [.slice ta l.length tc, .slice ga g.length gc].toArray, .agg [.slice ta2 m.length tc2, .slice ga2 k.length gc2].toArray] w (.bool (eqBy sameTB l m && eqBy sameDB g k)) := by
 refine enter Tryz.func25 rfl Tryz.ntmps25 rfl (St.init _) ?_
 refine jN 3 ?_
 refine WL.boxN rfl rfl (fun b2 => ?_)
 refine jN 1 ?_
 refine WL.boxN rfl rfl (fun b3 => ?_)
 refine jN 15 ?_
 refine WL.callV F.fun75 rfl rfl (fun w hS => eqTok_c l m ta ta2 tc tc2 hl hm w (h1.next hS) (h2.next hS)) ?_
 refine jN 10 ?_
 refine WA.splitB (i := 12) rfl (fun g12 => ?_) (fun g12 => ?_)
 ·have ht : eqBy sameTB l m = true := g12
  refine jN 14 ?_
  refine WL.callV F.fun77 rfl rfl (fun w hS => eqDia_c g k ga ga2 gc gc2 hg hk w (h3.next hS) (h4.next hS)) ?_
  refine jN 7 ?_
  exact WQ.ret (rs := [.tmp 4]) rfl (.tmp rfl .nil) (fun w hS => ⟨by rw [ht]; rfl, hS.sublist (List.nil_sublist _)⟩)
 ·have ht : eqBy sameTB l m = false := g12
  refine jN 17 ?_
  exact WQ.ret (rs := [.tmp 4]) rfl (.tmp rfl .nil) (fun w hS => ⟨by rw [ht]; rfl, hS.sublist (List.nil_sublist _)⟩)
def sameRt (x y : RtV) : Bool := decide (x.x.k = y.x.k) && decide (x.x.t = y.x.t) && (cmpP x.x.p y.x.p == 0) && decide (x.x.f = y.x.f) && decide (x.x.l = y.x.l) && decide (x.c = y.c)
def sameRg (x y : RgV) : Bool := decide (x.x.k = y.x.k) && (cmpP x.x.p y.x.p == 0) && decide (x.x.f = y.x.f) && decide (x.x.l = y.x.l) && decide (x.c = y.c)
structure RsR (w : World) (ts : List RtV) (a : Option Addr) : Prop where
 r : RdSl rtC 6 w ts a
 p : ∀ t ∈ ts, RdC w t.x.p t.x.pa ∧ t.x.p.length ≤ 1000000000
 d : ∀ t ∈ ts, RdN w t.c t.ca ∧ t.c.length ≤ 1000000000000000
structure HsR (w : World) (ts : List RgV) (a : Option Addr) : Prop where
 r : RdSl rgC 5 w ts a
 p : ∀ t ∈ ts, RdC w t.x.p t.x.pa ∧ t.x.p.length ≤ 1000000000
 d : ∀ t ∈ ts, RdN w t.c t.ca ∧ t.c.length ≤ 1000000000000000
theorem RsR.next {w0 w : World} {C : List Chunk} {ts : List RtV} {a : Option Addr} (h : RsR w0 ts a) (hS : St w0 [] C w) : RsR w ts a := ⟨h.r.next hS, fun t ht => ⟨(h.p t ht).1.next hS, (h.p t ht).2⟩, fun t ht => ⟨(h.d t ht).1.next hS, (h.d t ht).2⟩⟩
theorem HsR.next {w0 w : World} {C : List Chunk} {ts : List RgV} {a : Option Addr} (h : HsR w0 ts a) (hS : St w0 [] C w) : HsR w ts a := ⟨h.r.next hS, fun t ht => ⟨(h.p t ht).1.next hS, (h.p t ht).2⟩, fun t ht => ⟨(h.d t ht).1.next hS, (h.d t ht).2⟩⟩
theorem eqBy_ne {α : Type} {f : α → α → Bool} {l m : List α} (h : l.length ≠ m.length) : eqBy f l m = false := by
 cases he : eqBy f l m with
 | false => rfl
 | true => exact absurd (eqBy_len he) h
set_option maxRecDepth 100000 in
theorem same6_c (l m : List RtV) (la ma : Option Addr) (lc mc : Nat) (g k : List RgV) (ga ka : Option Addr) (gc kc : Nat) (hl : l.length ≤ 1000000000) (hm : m.length ≤ 1000000000) (hg : g.length ≤ 1000000000) (hk : k.length ≤ 1000000000) (w : World) (h1 : RsR w l la) (h2 : RsR w m ma) (h3 : HsR w g ga) (h4 : HsR w k ka) :
  Pure Tryz.prog 26 [.agg [.slice la l.length lc, .slice ga g.length gc].toArray, .agg [.slice ma m.length mc, .slice ka k.length kc].toArray] w (.bool (eqBy sameRt l m && eqBy sameRg g k)) := by
 refine enter Tryz.func26 rfl Tryz.ntmps26 rfl (St.init _) ?_
 refine jN 3 ?_
 refine WL.boxN rfl rfl (fun b2 => ?_)
 refine jN 1 ?_
 refine WL.boxN rfl rfl (fun b3 => ?_)
 refine jN 23 ?_
 refine WA.splitB (i := 18) rfl (fun g18 => ?_) (fun g18 => ?_)
 ·have hb0 : eqBy sameRt l m = false := eqBy_ne (by intro e; rw [e] at g18; simp at g18)
  refine jN 27 ?_
  exact WQ.ret (rs := [.tmp 4]) rfl (.tmp rfl .nil) (fun w hS => ⟨by rw [hb0]; rfl, hS.sublist (List.nil_sublist _)⟩)
 ·have hlm : l.length = m.length := by simp at g18; omega
  refine jN 25 ?_
  refine WC.cond rfl (fun h26 => ?_) (fun h26 => ?_)
  ·have hb0 : eqBy sameRg g k = false := eqBy_ne (by intro e; rw [e] at h26; simp at h26)
   refine jN 8 ?_
   exact WQ.ret (rs := [.tmp 4]) rfl (.tmp rfl .nil) (fun w hS => ⟨by rw [hb0, Bool.and_false]; rfl, hS.sublist (List.nil_sublist _)⟩)
  ·have hgk : g.length = k.length := by simp at h26; omega
   refine jN 10 ?_
   refine WC.chunks (C' := [pt b2 [.slice la l.length lc, .slice ga g.length gc] 37, pt b3 [.slice ma m.length mc, .slice ka k.length kc] 37]) (fun w hS => (jK hS)) ?_
   refine WC.loop (α := Nat) (fun i => i ≤ l.length ∧ eqBy sameRt l m = eqBy sameRt (l.drop i) (m.drop i)) (fun i => [(2, pp b2), (3, pp b3), (5, .int .i64 (i : Int))]) (fun _ => [pt b2 [.slice la l.length lc, .slice ga g.length gc] 37, pt b3 [.slice ma m.length mc, .slice ka k.length kc] 37]) (fun i => l.length - i) (0) ?_ ?_ ?_ ?_
   ·exact ⟨Nat.zero_le _, rfl⟩
   ·exact ⟨rfl, rfl, rfl, trivial⟩
   ·rfl
   rintro i ⟨hi, he⟩
   show WC _ _ _ _ _ _ _ [(2, pp b2), (3, pp b3), (5, .int .i64 (i : Int))] [pt b2 [.slice la l.length lc, .slice ga g.length gc] 37, pt b3 [.slice ma m.length mc, .slice ka k.length kc] 37]
   refine jN 15 ?_
   refine WC.cond rfl (fun h31 => ?_) (fun h31 => ?_)
   ·have hlt : i < l.length := by simpa using h31
    have hlt2 : i < m.length := by omega
    obtain ⟨x, hx⟩ : ∃ x, l[i]? = some x := ⟨_, List.getElem?_eq_getElem hlt⟩
    obtain ⟨y, hy⟩ : ∃ x, m[i]? = some x := ⟨_, List.getElem?_eq_getElem hlt2⟩
    obtain ⟨b, o, rfl, hcx⟩ := h1.r i x hx
    obtain ⟨bq, oq, rfl, hcy⟩ := h2.r i y hy
    have hxm := List.mem_of_getElem? hx
    have hym := List.mem_of_getElem? hy
    have hat := eqBy_at hx hy he
    refine jN 5 ?_
    refine WC.cutPE (α := Nat × Nat) (fun z => [(2, pp b2), (3, pp b3), (5, .int .i64 (i : Int)), (6, pp z.1), (7, pp z.2)]) (fun z => [pt b2 [.slice (some ⟨b, o, none⟩) l.length lc, .slice ga g.length gc] 37, pt b3 [.slice (some ⟨bq, oq, none⟩) m.length mc, .slice ka k.length kc] 37, pt z.1 (rtC x) 73, pt z.2 (rtC y) 73]) (fun c a d v w h => by cases d <;> exact h) (fun Q' hP hQ => ?_) (fun xE => ?_)
    ·refine WC.drawsL (by kernel_rfl) (FactsOk.cons (ds := [12, 13]) (LoadOk.one (t := 2) (off := 0) rfl jM rfl) (FactsOk.cons (ds := [12, 13]) (LoadOk.by (Y := fun w => ∀ j v, (rtC x)[j]? = some v → w.cell? ⟨b, o + i * 6 + j, none⟩ = some v) (fun w hS => (fun j v hv => hS.oldc (hcx j v hv) (by simp)))) (FactsOk.cons (ds := [13]) (LoadOk.one (t := 3) (off := 0) rfl jM rfl) (FactsOk.cons (ds := [13]) (LoadOk.by (Y := fun w => ∀ j v, (rtC y)[j]? = some v → w.cell? ⟨bq, oq + i * 6 + j, none⟩ = some v) (fun w hS => (fun j v hv => hS.oldc (hcy j v hv) (by simp)))) (FactsOk.nil))))) ?_
     refine jT 0 rfl (Yl.fieldAddr0 F.fld37_0 rfl) ?_
     refine jF 1 0 rfl rfl (Yl.load1 F.one34 rfl) ?_
     refine jT 2 rfl (Yl.move rfl) ?_
     refine jT 3 rfl (Yl.indexAddr F.sl34 rfl rfl hlt) ?_
     refine jF 4 1 rfl rfl (Yl.loadN F.agg73 rfl rfl) ?_
     refine jT 5 rfl (Yl.fieldAddr0 F.fld37_0 rfl) ?_
     refine jF 6 2 rfl rfl (Yl.load1 F.one34 rfl) ?_
     refine jT 7 rfl (Yl.move rfl) ?_
     refine jT 8 rfl (Yl.indexAddr F.sl34 rfl rfl hlt2) ?_
     refine jF 9 3 rfl rfl (Yl.loadN F.agg73 rfl rfl) ?_
     refine WD.two (i := 10) (j := 11) (by kernel_rfl) rfl rfl ?_ ?_
     ·refine WL.alloc F.zero73 rfl (fun b6 => ?_)
      refine WD.on (closed_of (by kernel_rfl)) (fun w hS => Sx.keep (hS.cell jM rfl) (Sx.keep ((fun j v hv => hS.oldc (hcx j v hv) (by simp))) (Sx.keep (hS.cell jM rfl) (Sx.keep ((fun j v hv => hS.oldc (hcy j v hv) (by simp))) (Sx.none))))) ?_
      refine jA 11 rfl ?_
      refine WL.alloc F.zero73 rfl (fun b7 => ?_)
      refine WD.on (closed_of (by kernel_rfl)) (fun w hS => Sx.keep (hS.cell jM rfl) (Sx.keep ((fun j v hv => hS.oldc (hcx j v hv) (by simp))) (Sx.keep (hS.cell jM rfl) (Sx.keep ((fun j v hv => hS.oldc (hcy j v hv) (by simp))) (Sx.none))))) ?_
      refine jA 12 rfl ?_
      refine WL.storeN F.agg73 rfl rfl rfl jO jU jS ?_
      refine WD.on (closed_of (by kernel_rfl)) (fun w hS => Sx.gone rfl (Sx.gone rfl (Sx.keep (hS.cell jM rfl) (Sx.keep ((fun j v hv => hS.oldc (hcy j v hv) (by simp))) (Sx.none))))) ?_
      refine jA 13 rfl ?_
      refine WL.storeN F.agg73 rfl rfl rfl jO jU jS ?_
      refine jG ?_
      refine jD ?_
      refine WQ.chunks (C' := [pt b2 [.slice (some ⟨b, o, none⟩) l.length lc, .slice ga g.length gc] 37, pt b3 [.slice (some ⟨bq, oq, none⟩) m.length mc, .slice ka k.length kc] 37, pt b6 (rtC x) 73, pt b7 (rtC y) 73]) (fun w hS => (jK hS)) ?_
      exact WQ.byCut (hQ (b6, b7)) ⟨rfl, rfl, rfl, rfl, rfl, trivial⟩
     ·refine WL.alloc F.zero73 rfl (fun b7 => ?_)
      refine WD.on (closed_of (by kernel_rfl)) (fun w hS => Sx.keep (hS.cell jM rfl) (Sx.keep ((fun j v hv => hS.oldc (hcx j v hv) (by simp))) (Sx.keep (hS.cell jM rfl) (Sx.keep ((fun j v hv => hS.oldc (hcy j v hv) (by simp))) (Sx.none))))) ?_
      refine jA 10 rfl ?_
      refine WL.alloc F.zero73 rfl (fun b6 => ?_)
      refine WD.on (closed_of (by kernel_rfl)) (fun w hS => Sx.keep (hS.cell jM rfl) (Sx.keep ((fun j v hv => hS.oldc (hcx j v hv) (by simp))) (Sx.keep (hS.cell jM rfl) (Sx.keep ((fun j v hv => hS.oldc (hcy j v hv) (by simp))) (Sx.none))))) ?_
      refine jA 12 rfl ?_
      refine WL.storeN F.agg73 rfl rfl rfl jO jU jS ?_
      refine WD.on (closed_of (by kernel_rfl)) (fun w hS => Sx.gone rfl (Sx.gone rfl (Sx.keep (hS.cell jM rfl) (Sx.keep ((fun j v hv => hS.oldc (hcy j v hv) (by simp))) (Sx.none))))) ?_
      refine jA 13 rfl ?_
      refine WL.storeN F.agg73 rfl rfl rfl jO jU jS ?_
      refine jG ?_
      refine jD ?_
      refine WQ.chunks (C' := [pt b2 [.slice (some ⟨b, o, none⟩) l.length lc, .slice ga g.length gc] 37, pt b3 [.slice (some ⟨bq, oq, none⟩) m.length mc, .slice ka k.length kc] 37, pt b6 (rtC x) 73, pt b7 (rtC y) 73]) (fun w hS => (jK hS)) ?_
      exact WQ.byCut (hQ (b6, b7)) ⟨rfl, rfl, rfl, rfl, rfl, trivial⟩
    obtain ⟨b6, b7⟩ := xE
    show WQ _ _ _ _ _ _ [(2, pp b2), (3, pp b3), (5, .int .i64 (i : Int)), (6, pp b6), (7, pp b7)] [pt b2 [.slice (some ⟨b, o, none⟩) l.length lc, .slice ga g.length gc] 37, pt b3 [.slice (some ⟨bq, oq, none⟩) m.length mc, .slice ka k.length kc] 37, pt b6 (rtC x) 73, pt b7 (rtC y) 73]
    refine jN 15 ?_
    refine WA.splitB (i := 49) rfl (fun g49 => ?_) (fun g49 => ?_)
    ·have hbad : sameRt x y = false := by
      have hk : decide (x.x.k = y.x.k) = false := decide_eq_false (by intro e; first | (rw [e] at g49; simp at g49) | (simp [e] at g49))
      unfold sameRt; simp [hk]
     refine jN 87 ?_
     exact WQ.ret (rs := [.tmp 4]) rfl (.tmp rfl .nil) (fun w hS => ⟨by rw [show eqBy sameRt l m = false by rw [hat, hbad]; rfl]; rfl, hS.sublist (List.nil_sublist _)⟩)
    ·have hk : decide (x.x.k = y.x.k) = true := decide_eq_true (by (have h9 := g49; simp at h9; first | exact h9 | omega))
     refine jN 19 ?_
     refine WA.splitB (i := 56) rfl (fun g56 => ?_) (fun g56 => ?_)
     ·have hbad : sameRt x y = false := by
       have ht : decide (x.x.t = y.x.t) = false := decide_eq_false (by intro e; first | (rw [e] at g56; simp at g56) | (simp [e] at g56))
       unfold sameRt; simp [ht]
      refine jN 73 ?_
      exact WQ.ret (rs := [.tmp 4]) rfl (.tmp rfl .nil) (fun w hS => ⟨by rw [show eqBy sameRt l m = false by rw [hat, hbad]; rfl]; rfl, hS.sublist (List.nil_sublist _)⟩)
     ·have ht : decide (x.x.t = y.x.t) = true := decide_eq_true (by (have h9 := g56; simp at h9; first | exact h9 | omega))
      refine jN 14 ?_
      refine WL.callV F.fun31 rfl rfl (fun w hS => ints_c x.x.p y.x.p x.x.pa y.x.pa x.x.pc y.x.pc (h1.p x hxm).2 (h2.p y hym).2 w ((h1.p x hxm).1.next hS) ((h2.p y hym).1.next hS)) ?_
      refine jN 7 ?_
      refine WA.splitB (i := 64) rfl (fun g64 => ?_) (fun g64 => ?_)
      ·have hbad : sameRt x y = false := by
        have hp : (cmpP x.x.p y.x.p == 0) = false := by simpa using g64
        unfold sameRt; simp [hp]
       refine jN 57 ?_
       exact WQ.ret (rs := [.tmp 4]) rfl (.tmp rfl .nil) (fun w hS => ⟨by rw [show eqBy sameRt l m = false by rw [hat, hbad]; rfl]; rfl, hS.sublist (List.nil_sublist _)⟩)
      ·have hp : (cmpP x.x.p y.x.p == 0) = true := by simpa using g64
       refine jN 19 ?_
       refine WA.splitB (i := 71) rfl (fun g71 => ?_) (fun g71 => ?_)
       ·have hbad : sameRt x y = false := by
         have hf : decide (x.x.f = y.x.f) = false := decide_eq_false (by intro e; first | (rw [e] at g71; simp at g71) | (simp [e] at g71))
         unfold sameRt; simp [hf]
        refine jN 43 ?_
        exact WQ.ret (rs := [.tmp 4]) rfl (.tmp rfl .nil) (fun w hS => ⟨by rw [show eqBy sameRt l m = false by rw [hat, hbad]; rfl]; rfl, hS.sublist (List.nil_sublist _)⟩)
       ·have hf : decide (x.x.f = y.x.f) = true := decide_eq_true (by (have h9 := g71; simp at h9; first | exact h9 | omega))
        refine jN 19 ?_
        refine WA.splitB (i := 78) rfl (fun g78 => ?_) (fun g78 => ?_)
        ·have hbad : sameRt x y = false := by
          have hl : decide (x.x.l = y.x.l) = false := decide_eq_false (by intro e; first | (rw [e] at g78; simp at g78) | (simp [e] at g78))
          unfold sameRt; simp [hl]
         refine jN 29 ?_
         exact WQ.ret (rs := [.tmp 4]) rfl (.tmp rfl .nil) (fun w hS => ⟨by rw [show eqBy sameRt l m = false by rw [hat, hbad]; rfl]; rfl, hS.sublist (List.nil_sublist _)⟩)
        ·have hl : decide (x.x.l = y.x.l) = true := decide_eq_true (by (have h9 := g78; simp at h9; first | exact h9 | omega))
         refine jN 14 ?_
         refine WL.callV F.fun29 rfl rfl (fun w hS => configs_c x.c y.c x.ca y.ca x.cc y.cc (h1.d x hxm).2 w ((h1.d x hxm).1.next hS) ((h2.d y hym).1.next hS)) ?_
         refine jN 7 ?_
         refine WC.cond rfl (fun hz => ?_) (fun hz => ?_)
         ·have hbad : sameRt x y = false := by
           have hc9 : decide (x.c = y.c) = false := by simpa using hz
           unfold sameRt; simp [hc9]
          refine jN 12 ?_
          exact WQ.ret (rs := [.tmp 4]) rfl (.tmp rfl .nil) (fun w hS => ⟨by rw [show eqBy sameRt l m = false by rw [hat, hbad]; rfl]; rfl, hS.sublist (List.nil_sublist _)⟩)
         ·have hc9 : decide (x.c = y.c) = true := by simpa using hz
          refine jN 11 ?_
          refine WQ.chunks (C' := [pt b2 [.slice (some ⟨b, o, none⟩) l.length lc, .slice ga g.length gc] 37, pt b3 [.slice (some ⟨bq, oq, none⟩) m.length mc, .slice ka k.length kc] 37]) (fun w hS => (jK hS)) ?_
          refine WQ.back (i + 1) ?_ ?_ ?_ ?_
          ·exact ⟨by omega, by rw [hat, show sameRt x y = true by (unfold sameRt; rw [hk, ht, hp, hf, hl, hc9]; rfl), Bool.true_and]⟩
          ·omega
          ·exact ⟨rfl, rfl, rfl, trivial⟩
          ·rfl
   ·have hie : i = l.length := by simp at h31; omega
    have hb1 : eqBy sameRt l m = true := by rw [he, hie, List.drop_length, hlm, List.drop_length]; rfl
    refine jN 13 ?_
    refine WC.chunks (C' := [pt b2 [.slice la l.length lc, .slice ga g.length gc] 37, pt b3 [.slice ma m.length mc, .slice ka k.length kc] 37]) (fun w hS => (jK hS)) ?_
    refine WC.loop (α := Nat) (fun i => i ≤ g.length ∧ eqBy sameRg g k = eqBy sameRg (g.drop i) (k.drop i)) (fun i => [(2, pp b2), (3, pp b3), (8, .int .i64 (i : Int))]) (fun _ => [pt b2 [.slice la l.length lc, .slice ga g.length gc] 37, pt b3 [.slice ma m.length mc, .slice ka k.length kc] 37]) (fun i => g.length - i) (0) ?_ ?_ ?_ ?_
    ·exact ⟨Nat.zero_le _, rfl⟩
    ·exact ⟨rfl, rfl, rfl, trivial⟩
    ·rfl
    rintro i ⟨hi, he⟩
    show WC _ _ _ _ _ _ _ [(2, pp b2), (3, pp b3), (8, .int .i64 (i : Int))] [pt b2 [.slice la l.length lc, .slice ga g.length gc] 37, pt b3 [.slice ma m.length mc, .slice ka k.length kc] 37]
    refine jN 15 ?_
    refine WC.cond rfl (fun h31 => ?_) (fun h31 => ?_)
    ·have hlt : i < g.length := by simpa using h31
     have hlt2 : i < k.length := by omega
     obtain ⟨x, hx⟩ : ∃ x, g[i]? = some x := ⟨_, List.getElem?_eq_getElem hlt⟩
     obtain ⟨y, hy⟩ : ∃ x, k[i]? = some x := ⟨_, List.getElem?_eq_getElem hlt2⟩
     obtain ⟨b, o, rfl, hcx⟩ := h3.r i x hx
     obtain ⟨bq, oq, rfl, hcy⟩ := h4.r i y hy
     have hxm := List.mem_of_getElem? hx
     have hym := List.mem_of_getElem? hy
     have hat := eqBy_at hx hy he
     refine jN 5 ?_
     refine WC.cutPE (α := Nat × Nat) (fun z => [(2, pp b2), (3, pp b3), (8, .int .i64 (i : Int)), (9, pp z.1), (10, pp z.2)]) (fun z => [pt b2 [.slice la l.length lc, .slice (some ⟨b, o, none⟩) g.length gc] 37, pt b3 [.slice ma m.length mc, .slice (some ⟨bq, oq, none⟩) k.length kc] 37, pt z.1 (rgC x) 111, pt z.2 (rgC y) 111]) (fun c a d v w h => by cases d <;> exact h) (fun Q' hP hQ => ?_) (fun xE => ?_)
     ·refine WC.drawsL (by kernel_rfl) (FactsOk.cons (ds := [12, 13]) (LoadOk.one (t := 2) (off := 1) rfl jM rfl) (FactsOk.cons (ds := [12, 13]) (LoadOk.by (Y := fun w => ∀ j v, (rgC x)[j]? = some v → w.cell? ⟨b, o + i * 5 + j, none⟩ = some v) (fun w hS => (fun j v hv => hS.oldc (hcx j v hv) (by simp)))) (FactsOk.cons (ds := [13]) (LoadOk.one (t := 3) (off := 1) rfl jM rfl) (FactsOk.cons (ds := [13]) (LoadOk.by (Y := fun w => ∀ j v, (rgC y)[j]? = some v → w.cell? ⟨bq, oq + i * 5 + j, none⟩ = some v) (fun w hS => (fun j v hv => hS.oldc (hcy j v hv) (by simp)))) (FactsOk.nil))))) ?_
      refine jT 0 rfl (Yl.fieldAddr0 F.fld37_1 rfl) ?_
      refine jF 1 0 rfl rfl (Yl.load1 F.one35 rfl) ?_
      refine jT 2 rfl (Yl.move rfl) ?_
      refine jT 3 rfl (Yl.indexAddr F.sl35 rfl rfl hlt) ?_
      refine jF 4 1 rfl rfl (Yl.loadN F.agg111 rfl rfl) ?_
      refine jT 5 rfl (Yl.fieldAddr0 F.fld37_1 rfl) ?_
      refine jF 6 2 rfl rfl (Yl.load1 F.one35 rfl) ?_
      refine jT 7 rfl (Yl.move rfl) ?_
      refine jT 8 rfl (Yl.indexAddr F.sl35 rfl rfl hlt2) ?_
      refine jF 9 3 rfl rfl (Yl.loadN F.agg111 rfl rfl) ?_
      refine WD.two (i := 10) (j := 11) (by kernel_rfl) rfl rfl ?_ ?_
      ·refine WL.alloc F.zero111 rfl (fun b9 => ?_)
       refine WD.on (closed_of (by kernel_rfl)) (fun w hS => Sx.keep (hS.cell jM rfl) (Sx.keep ((fun j v hv => hS.oldc (hcx j v hv) (by simp))) (Sx.keep (hS.cell jM rfl) (Sx.keep ((fun j v hv => hS.oldc (hcy j v hv) (by simp))) (Sx.none))))) ?_
       refine jA 11 rfl ?_
       refine WL.alloc F.zero111 rfl (fun b10 => ?_)
       refine WD.on (closed_of (by kernel_rfl)) (fun w hS => Sx.keep (hS.cell jM rfl) (Sx.keep ((fun j v hv => hS.oldc (hcx j v hv) (by simp))) (Sx.keep (hS.cell jM rfl) (Sx.keep ((fun j v hv => hS.oldc (hcy j v hv) (by simp))) (Sx.none))))) ?_
       refine jA 12 rfl ?_
       refine WL.storeN F.agg111 rfl rfl rfl jO jU jS ?_
       refine WD.on (closed_of (by kernel_rfl)) (fun w hS => Sx.gone rfl (Sx.gone rfl (Sx.keep (hS.cell jM rfl) (Sx.keep ((fun j v hv => hS.oldc (hcy j v hv) (by simp))) (Sx.none))))) ?_
       refine jA 13 rfl ?_
       refine WL.storeN F.agg111 rfl rfl rfl jO jU jS ?_
       refine jG ?_
       refine jD ?_
       refine WQ.chunks (C' := [pt b2 [.slice la l.length lc, .slice (some ⟨b, o, none⟩) g.length gc] 37, pt b3 [.slice ma m.length mc, .slice (some ⟨bq, oq, none⟩) k.length kc] 37, pt b9 (rgC x) 111, pt b10 (rgC y) 111]) (fun w hS => (jK hS)) ?_
       exact WQ.byCut (hQ (b9, b10)) ⟨rfl, rfl, rfl, rfl, rfl, trivial⟩
      ·refine WL.alloc F.zero111 rfl (fun b10 => ?_)
       refine WD.on (closed_of (by kernel_rfl)) (fun w hS => Sx.keep (hS.cell jM rfl) (Sx.keep ((fun j v hv => hS.oldc (hcx j v hv) (by simp))) (Sx.keep (hS.cell jM rfl) (Sx.keep ((fun j v hv => hS.oldc (hcy j v hv) (by simp))) (Sx.none))))) ?_
       refine jA 10 rfl ?_
       refine WL.alloc F.zero111 rfl (fun b9 => ?_)
       refine WD.on (closed_of (by kernel_rfl)) (fun w hS => Sx.keep (hS.cell jM rfl) (Sx.keep ((fun j v hv => hS.oldc (hcx j v hv) (by simp))) (Sx.keep (hS.cell jM rfl) (Sx.keep ((fun j v hv => hS.oldc (hcy j v hv) (by simp))) (Sx.none))))) ?_
       refine jA 12 rfl ?_
       refine WL.storeN F.agg111 rfl rfl rfl jO jU jS ?_
       refine WD.on (closed_of (by kernel_rfl)) (fun w hS => Sx.gone rfl (Sx.gone rfl (Sx.keep (hS.cell jM rfl) (Sx.keep ((fun j v hv => hS.oldc (hcy j v hv) (by simp))) (Sx.none))))) ?_
       refine jA 13 rfl ?_
       refine WL.storeN F.agg111 rfl rfl rfl jO jU jS ?_
       refine jG ?_
       refine jD ?_
       refine WQ.chunks (C' := [pt b2 [.slice la l.length lc, .slice (some ⟨b, o, none⟩) g.length gc] 37, pt b3 [.slice ma m.length mc, .slice (some ⟨bq, oq, none⟩) k.length kc] 37, pt b9 (rgC x) 111, pt b10 (rgC y) 111]) (fun w hS => (jK hS)) ?_
       exact WQ.byCut (hQ (b9, b10)) ⟨rfl, rfl, rfl, rfl, rfl, trivial⟩
     obtain ⟨b9, b10⟩ := xE
     show WQ _ _ _ _ _ _ [(2, pp b2), (3, pp b3), (8, .int .i64 (i : Int)), (9, pp b9), (10, pp b10)] [pt b2 [.slice la l.length lc, .slice (some ⟨b, o, none⟩) g.length gc] 37, pt b3 [.slice ma m.length mc, .slice (some ⟨bq, oq, none⟩) k.length kc] 37, pt b9 (rgC x) 111, pt b10 (rgC y) 111]
     refine jN 15 ?_
     refine WA.splitB (i := 108) rfl (fun g108 => ?_) (fun g108 => ?_)
     ·have hbad : sameRg x y = false := by
       have hk : decide (x.x.k = y.x.k) = false := decide_eq_false (by intro e; first | (rw [e] at g108; simp at g108) | (simp [e] at g108))
       unfold sameRg; simp [hk]
      refine jN 73 ?_
      exact WQ.ret (rs := [.tmp 4]) rfl (.tmp rfl .nil) (fun w hS => ⟨by rw [show eqBy sameRg g k = false by (rw [hat, hbad]; rfl), Bool.and_false]; rfl, hS.sublist (List.nil_sublist _)⟩)
     ·have hk : decide (x.x.k = y.x.k) = true := decide_eq_true (by (have h9 := g108; simp at h9; first | exact h9 | omega))
      refine jN 14 ?_
      refine WL.callV F.fun31 rfl rfl (fun w hS => ints_c x.x.p y.x.p x.x.pa y.x.pa x.x.pc y.x.pc (h3.p x hxm).2 (h4.p y hym).2 w ((h3.p x hxm).1.next hS) ((h4.p y hym).1.next hS)) ?_
      refine jN 7 ?_
      refine WA.splitB (i := 116) rfl (fun g116 => ?_) (fun g116 => ?_)
      ·have hbad : sameRg x y = false := by
        have hp : (cmpP x.x.p y.x.p == 0) = false := by simpa using g116
        unfold sameRg; simp [hp]
       refine jN 57 ?_
       exact WQ.ret (rs := [.tmp 4]) rfl (.tmp rfl .nil) (fun w hS => ⟨by rw [show eqBy sameRg g k = false by (rw [hat, hbad]; rfl), Bool.and_false]; rfl, hS.sublist (List.nil_sublist _)⟩)
      ·have hp : (cmpP x.x.p y.x.p == 0) = true := by simpa using g116
       refine jN 19 ?_
       refine WA.splitB (i := 123) rfl (fun g123 => ?_) (fun g123 => ?_)
       ·have hbad : sameRg x y = false := by
         have hf : decide (x.x.f = y.x.f) = false := decide_eq_false (by intro e; first | (rw [e] at g123; simp at g123) | (simp [e] at g123))
         unfold sameRg; simp [hf]
        refine jN 43 ?_
        exact WQ.ret (rs := [.tmp 4]) rfl (.tmp rfl .nil) (fun w hS => ⟨by rw [show eqBy sameRg g k = false by (rw [hat, hbad]; rfl), Bool.and_false]; rfl, hS.sublist (List.nil_sublist _)⟩)
       ·have hf : decide (x.x.f = y.x.f) = true := decide_eq_true (by (have h9 := g123; simp at h9; first | exact h9 | omega))
        refine jN 19 ?_
        refine WA.splitB (i := 130) rfl (fun g130 => ?_) (fun g130 => ?_)
        ·have hbad : sameRg x y = false := by
          have hl : decide (x.x.l = y.x.l) = false := decide_eq_false (by intro e; first | (rw [e] at g130; simp at g130) | (simp [e] at g130))
          unfold sameRg; simp [hl]
         refine jN 29 ?_
         exact WQ.ret (rs := [.tmp 4]) rfl (.tmp rfl .nil) (fun w hS => ⟨by rw [show eqBy sameRg g k = false by (rw [hat, hbad]; rfl), Bool.and_false]; rfl, hS.sublist (List.nil_sublist _)⟩)
        ·have hl : decide (x.x.l = y.x.l) = true := decide_eq_true (by (have h9 := g130; simp at h9; first | exact h9 | omega))
         refine jN 14 ?_
         refine WL.callV F.fun29 rfl rfl (fun w hS => configs_c x.c y.c x.ca y.ca x.cc y.cc (h3.d x hxm).2 w ((h3.d x hxm).1.next hS) ((h4.d y hym).1.next hS)) ?_
         refine jN 7 ?_
         refine WC.cond rfl (fun hz => ?_) (fun hz => ?_)
         ·have hbad : sameRg x y = false := by
           have hc9 : decide (x.c = y.c) = false := by simpa using hz
           unfold sameRg; simp [hc9]
          refine jN 12 ?_
          exact WQ.ret (rs := [.tmp 4]) rfl (.tmp rfl .nil) (fun w hS => ⟨by rw [show eqBy sameRg g k = false by (rw [hat, hbad]; rfl), Bool.and_false]; rfl, hS.sublist (List.nil_sublist _)⟩)
         ·have hc9 : decide (x.c = y.c) = true := by simpa using hz
          refine jN 11 ?_
          refine WQ.chunks (C' := [pt b2 [.slice la l.length lc, .slice (some ⟨b, o, none⟩) g.length gc] 37, pt b3 [.slice ma m.length mc, .slice (some ⟨bq, oq, none⟩) k.length kc] 37]) (fun w hS => (jK hS)) ?_
          refine WQ.back (i + 1) ?_ ?_ ?_ ?_
          ·exact ⟨by omega, by rw [hat, show sameRg x y = true by (unfold sameRg; rw [hk, hp, hf, hl, hc9]; rfl), Bool.true_and]⟩
          ·omega
          ·exact ⟨rfl, rfl, rfl, trivial⟩
          ·rfl
    ·have hie : i = g.length := by simp at h31; omega
     have hb2 : eqBy sameRg g k = true := by rw [he, hie, List.drop_length, hgk, List.drop_length]; rfl
     refine jN 12 ?_
     exact WQ.ret (rs := [.tmp 4]) rfl (.tmp rfl .nil) (fun w hS => ⟨by rw [hb1, hb2]; rfl, hS.sublist (List.nil_sublist _)⟩)
def brkB (its : List ItV) (k : Nat) (y : ItV) (n : Nat) : Bool := decide (k + 1 = its.length) || (its[k + 1]?).any (fun z => decide (z.f ≠ y.f)) || (its[k + 1]?).any (fun z => decide (z.l ≠ y.l)) || decide (n = 256)
def txK (its : List ItV) : Nat → List UInt8 × Nat
 | 0 => ([], 0)
 | k + 1 => match its[k]? with
  | none => txK its k
  | some y => if brkB its k y ((txK its k).2 + 1) then ((txK its k).1 ++ y.t ++ [10], 0) else ((txK its k).1 ++ y.t ++ [32], (txK its k).2 + 1)
theorem txK_T {its : List ItV} {k : Nat} {y : ItV} (h : its[k]? = some y) (hb : brkB its k y ((txK its k).2 + 1) = true) : txK its (k + 1) = ((txK its k).1 ++ y.t ++ [10], 0) := by
 rw [txK, h]
 exact if_pos hb
theorem txK_F {its : List ItV} {k : Nat} {y : ItV} (h : its[k]? = some y) (hb : brkB its k y ((txK its k).2 + 1) = false) : txK its (k + 1) = ((txK its k).1 ++ y.t ++ [32], (txK its k).2 + 1) := by
 rw [txK, h]
 exact if_neg (by simp [hb])
theorem txK_len {its : List ItV} (h : ∀ y ∈ its, y.t.length ≤ 31000) : ∀ k, (txK its k).1.length ≤ k * 31001 ∧ (txK its k).2 ≤ k
 | 0 => by simp [txK]
 | k + 1 => by
  have ih := txK_len h k
  cases hk : its[k]? with
  | none =>
   have e : txK its (k + 1) = txK its k := by rw [txK, hk]
   rw [e]
   exact ⟨by omega, by omega⟩
  | some y =>
   have hy := h y (List.mem_of_getElem? hk)
   cases hb : brkB its k y ((txK its k).2 + 1) with
   | true => rw [txK_T hk hb]; simp only [List.length_append, List.length_cons, List.length_nil]; omega
   | false => rw [txK_F hk hb]; simp only [List.length_append, List.length_cons, List.length_nil]; omega
set_option maxRecDepth 100000 in
theorem rText_c (ts : List RtV) (its : List ItV) (hx : ts.map (·.x) = its) (hts : ts.length ≤ 1000) (hit : ∀ y ∈ its, y.t.length ≤ 31000) (a : Option Addr) (c : Nat) (w : World) (hr : RdSl rtC 6 w ts a) :
  Pure Tryz.prog 28 [.slice a ts.length c] w (.string (str (txK its its.length).1)) := by
 have hn : its.length = ts.length := by rw [← hx, List.length_map]
 refine enter Tryz.func28 rfl Tryz.ntmps28 rfl (St.init _) ?_
 refine jN 26 ?_
 refine WC.loop (α := Nat) (fun i => i ≤ ts.length) (fun i => [(0, .slice a ts.length c), (3, .string (str (txK its i).1)), (4, .int .i64 ((txK its i).2 : Int)), (5, .int .i64 (i : Int))]) (fun _ => []) (fun i => ts.length - i) (0) ?_ ?_ ?_ ?_
 ·exact Nat.zero_le _
 ·exact ⟨rfl, rfl, rfl, rfl, trivial⟩
 ·rfl
 rintro i hi
 show WC _ _ _ _ _ _ _ [(0, .slice a ts.length c), (3, .string (str (txK its i).1)), (4, .int .i64 ((txK its i).2 : Int)), (5, .int .i64 (i : Int))] []
 have hln := txK_len hit i
 refine jN 13 ?_
 refine WC.cond rfl (fun h9 => ?_) (fun h9 => ?_)
 ·have hlt : i < ts.length := by simpa using h9
  obtain ⟨y, hy⟩ : ∃ y, ts[i]? = some y := ⟨_, List.getElem?_eq_getElem hlt⟩
  have hyi : its[i]? = some y.x := by rw [← hx, List.getElem?_map, hy]; rfl
  have hyt := hit _ (List.mem_of_getElem? hyi)
  obtain ⟨b, o, rfl, hcy⟩ := hr i y hy
  refine jN 13 ?_
  refine WL.indexAddr F.sl34 rfl rfl rfl hlt ?_
  refine jN 1 ?_
  refine WL.fieldAddr F.fld73_1 rfl rfl ?_
  refine jN 1 ?_
  refine WL.load1 F.one9 rfl rfl (v := .string (str y.x.t)) (fun w hS => hS.oldc (hcy 1 _ rfl) (by simp)) ?_
  refine jN 1 ?_
  refine WL.addS rfl rfl rfl (by omega) ?_
  refine jN 9 ?_
  refine WL.bin (v := .int .i64 (((txK its i).2 + 1 : Nat) : Int)) rfl rfl rfl (fun w => run_addN6 (n := 1) (by omega) (by decide) _ _ _ w) ?_
  refine jN 5 ?_
  by_cases hlast : i + 1 = ts.length
  ·have hbk : brkB its i y.x ((txK its i).2 + 1) = true := by unfold brkB; rw [decide_eq_true (show i + 1 = its.length by omega)]; rfl
   refine WC.draws [] (by kernel_rfl) (fun w hS => facts_nil) ?_
   refine jT 0 rfl (Yl.move rfl) ?_
   refine jT 1 rfl (Yl.bin (v := .int .i64 ((i + 1 : Nat) : Int)) rfl rfl (fun w => run_addN6 (n := 1) (by omega) (by decide) _ _ _ w)) ?_
   refine jT 2 rfl (Yl.move rfl) ?_
   refine jT 3 rfl (Yl.lenSl F.und34 rfl) ?_
   refine jT 4 rfl (Yl.eqI rfl rfl) ?_
   refine jT 5 rfl (Yl.move rfl) ?_
   refine fun hcl => WA.splitB (i := 26) rfl (fun g26 => ?_) (fun g26 => ?_)
   ·refine (show WD _ _ _ _ _ _ _ _ _ _ _ _ from ?_) hcl
    refine WD.skip (i := 6) rfl rfl rfl rfl rfl rfl rfl (by kernel_rfl) (by kernel_rfl) (by kernel_rfl) (fun _ _ _ h => h) (by kernel_rfl) ?_
    refine WD.skip (i := 7) rfl rfl rfl rfl rfl rfl rfl (by kernel_rfl) (by kernel_rfl) (by kernel_rfl) (fun _ _ _ h => h) (by kernel_rfl) ?_
    refine WD.skip (i := 8) rfl rfl rfl rfl rfl rfl rfl (by kernel_rfl) (by kernel_rfl) (by kernel_rfl) (fun _ _ _ h => h) (by kernel_rfl) ?_
    refine WD.skip (i := 9) rfl rfl rfl rfl rfl rfl rfl (by kernel_rfl) (by kernel_rfl) (by kernel_rfl) (fun _ _ _ h => h) (by kernel_rfl) ?_
    refine WD.skip (i := 10) rfl rfl rfl rfl rfl rfl rfl (by kernel_rfl) (by kernel_rfl) (by kernel_rfl) (fun _ _ _ h => h) (by kernel_rfl) ?_
    refine WD.skip (i := 11) rfl rfl rfl rfl rfl rfl rfl (by kernel_rfl) (by kernel_rfl) (by kernel_rfl) (fun _ _ _ h => h) (by kernel_rfl) ?_
    refine WD.skip (i := 12) rfl rfl rfl rfl rfl rfl rfl (by kernel_rfl) (by kernel_rfl) (by kernel_rfl) (fun _ _ _ h => h) (by kernel_rfl) ?_
    refine WD.skip (i := 13) rfl rfl rfl rfl rfl rfl rfl (by kernel_rfl) (by kernel_rfl) (by kernel_rfl) (fun _ _ _ h => h) (by kernel_rfl) ?_
    refine WD.skip (i := 14) rfl rfl rfl rfl rfl rfl rfl (by kernel_rfl) (by kernel_rfl) (by kernel_rfl) (fun _ _ _ h => h) (by kernel_rfl) ?_
    refine WD.skip (i := 15) rfl rfl rfl rfl rfl rfl rfl (by kernel_rfl) (by kernel_rfl) (by kernel_rfl) (fun _ _ _ h => h) (by kernel_rfl) ?_
    refine WD.skip (i := 16) rfl rfl rfl rfl rfl rfl rfl (by kernel_rfl) (by kernel_rfl) (by kernel_rfl) (fun _ _ _ h => h) (by kernel_rfl) ?_
    refine WD.skip (i := 17) rfl rfl rfl rfl rfl rfl rfl (by kernel_rfl) (by kernel_rfl) (by kernel_rfl) (fun _ _ _ h => h) (by kernel_rfl) ?_
    refine jT 18 rfl (Yl.pickT rfl rfl) ?_
    refine jT 19 rfl (Yl.move rfl) ?_
    refine WD.skip (i := 20) rfl rfl rfl rfl rfl rfl rfl (by kernel_rfl) (by kernel_rfl) (by kernel_rfl) (fun _ _ _ h => h) (by kernel_rfl) ?_
    refine WD.skip (i := 21) rfl rfl rfl rfl rfl rfl rfl (by kernel_rfl) (by kernel_rfl) (by kernel_rfl) (fun _ _ _ h => h) (by kernel_rfl) ?_
    refine WD.skip (i := 22) rfl rfl rfl rfl rfl rfl rfl (by kernel_rfl) (by kernel_rfl) (by kernel_rfl) (fun _ _ _ h => h) (by kernel_rfl) ?_
    refine WD.skip (i := 23) rfl rfl rfl rfl rfl rfl rfl (by kernel_rfl) (by kernel_rfl) (by kernel_rfl) (fun _ _ _ h => h) (by kernel_rfl) ?_
    refine WD.skip (i := 24) rfl rfl rfl rfl rfl rfl rfl (by kernel_rfl) (by kernel_rfl) (by kernel_rfl) (fun _ _ _ h => h) (by kernel_rfl) ?_
    refine WD.skip (i := 25) rfl rfl rfl rfl rfl rfl rfl (by kernel_rfl) (by kernel_rfl) (by kernel_rfl) (fun _ _ _ h => h) (by kernel_rfl) ?_
    refine WD.skip (i := 26) rfl rfl rfl rfl rfl rfl rfl (by kernel_rfl) (by kernel_rfl) (by kernel_rfl) (fun _ _ _ h => h) (by kernel_rfl) ?_
    refine WD.skip (i := 27) rfl rfl rfl rfl rfl rfl rfl (by kernel_rfl) (by kernel_rfl) (by kernel_rfl) (fun _ _ _ h => h) (by kernel_rfl) ?_
    refine WD.skip (i := 28) rfl rfl rfl rfl rfl rfl rfl (by kernel_rfl) (by kernel_rfl) (by kernel_rfl) (fun _ _ _ h => h) (by kernel_rfl) ?_
    refine WD.skip (i := 29) rfl rfl rfl rfl rfl rfl rfl (by kernel_rfl) (by kernel_rfl) (by kernel_rfl) (fun _ _ _ h => h) (by kernel_rfl) ?_
    refine WD.skip (i := 30) rfl rfl rfl rfl rfl rfl rfl (by kernel_rfl) (by kernel_rfl) (by kernel_rfl) (fun _ _ _ h => h) (by kernel_rfl) ?_
    refine WD.skip (i := 31) rfl rfl rfl rfl rfl rfl rfl (by kernel_rfl) (by kernel_rfl) (by kernel_rfl) (fun _ _ _ h => h) (by kernel_rfl) ?_
    refine jT 32 rfl (Yl.pickT rfl rfl) ?_
    refine jT 33 rfl (Yl.move rfl) ?_
    refine WD.skip (i := 34) rfl rfl rfl rfl rfl rfl rfl (by kernel_rfl) (by kernel_rfl) (by kernel_rfl) (fun _ _ _ h => h) (by kernel_rfl) ?_
    refine WD.skip (i := 35) rfl rfl rfl rfl rfl rfl rfl (by kernel_rfl) (by kernel_rfl) (by kernel_rfl) (fun _ _ _ h => h) (by kernel_rfl) ?_
    refine jT 36 rfl (Yl.pickT rfl rfl) ?_
    refine jD ?_
    refine jN 7 ?_
    refine WL.addS (n := [10]) rfl rfl rfl (by simp only [List.length_append, List.length_cons, List.length_nil]; omega) ?_
    refine jN 18 ?_
    have hs := txK_T hyi hbk
    refine WQ.back (i + 1) ?_ ?_ ?_ ?_
    ·show i + 1 ≤ ts.length; omega
    ·show ts.length - (i + 1) < ts.length - i; omega
    ·rw [hs]; exact ⟨rfl, rfl, rfl, rfl, trivial⟩
    ·rfl
   ·refine (show WD _ _ _ _ _ _ _ _ _ _ _ _ from ?_) hcl
    exfalso; simp at g26; omega
  ·have hlt2 : i + 1 < ts.length := by omega
   obtain ⟨z, hz⟩ : ∃ z, ts[i + 1]? = some z := ⟨_, List.getElem?_eq_getElem hlt2⟩
   have hzi : its[i + 1]? = some z.x := by rw [← hx, List.getElem?_map, hz]; rfl
   obtain ⟨b9, o9, hb9, hcz0⟩ := hr (i + 1) z hz
   have hcz : ∀ j u, (rtC z)[j]? = some u → w.cell? ⟨b, o + (i + 1) * 6 + j, none⟩ = some u := by (simp only [Option.some.injEq, Addr.mk.injEq, and_true] at hb9); obtain ⟨rfl, rfl⟩ := hb9; exact hcz0
   refine WC.draws [([], fun w => w.cell? ⟨b, o + (i + 1) * 6 + 3, none⟩ = some (.int .i64 z.x.f)), ([], fun w => w.cell? ⟨b, o + (i) * 6 + 3, none⟩ = some (.int .i64 y.x.f)), ([], fun w => w.cell? ⟨b, o + (i + 1) * 6 + 4, none⟩ = some (.int .i64 z.x.l)), ([], fun w => w.cell? ⟨b, o + (i) * 6 + 4, none⟩ = some (.int .i64 y.x.l))] (by kernel_rfl) (fun w hS => facts_cons (hS.oldc (hcz 3 _ rfl) (by simp)) (facts_cons (hS.oldc (hcy 3 _ rfl) (by simp)) (facts_cons (hS.oldc (hcz 4 _ rfl) (by simp)) (facts_cons (hS.oldc (hcy 4 _ rfl) (by simp)) (facts_nil))))) ?_
   refine jT 0 rfl (Yl.move rfl) ?_
   refine jT 1 rfl (Yl.bin (v := .int .i64 ((i + 1 : Nat) : Int)) rfl rfl (fun w => run_addN6 (n := 1) (by omega) (by decide) _ _ _ w)) ?_
   refine jT 2 rfl (Yl.move rfl) ?_
   refine jT 3 rfl (Yl.lenSl F.und34 rfl) ?_
   refine jT 4 rfl (Yl.eqI rfl rfl) ?_
   refine jT 5 rfl (Yl.move rfl) ?_
   refine fun hcl => WA.splitB (i := 26) rfl (fun g26 => ?_) (fun g26 => ?_)
   ·refine (show WD _ _ _ _ _ _ _ _ _ _ _ _ from ?_) hcl
    exfalso; simp at g26; omega
   ·refine (show WD _ _ _ _ _ _ _ _ _ _ _ _ from ?_) hcl
    refine WD.takeG (i := 6) rfl rfl rfl rfl rfl rfl (by kernel_rfl) (by kernel_rfl) (by kernel_rfl) (fun _ _ _ h => h) (by kernel_rfl) need_none (Yl.move rfl) ?_
    refine WD.takeG (i := 7) rfl rfl rfl rfl rfl rfl (by kernel_rfl) (by kernel_rfl) (by kernel_rfl) (fun _ _ _ h => h) (by kernel_rfl) need_none (Yl.move rfl) ?_
    refine WD.takeG (i := 8) rfl rfl rfl rfl rfl rfl (by kernel_rfl) (by kernel_rfl) (by kernel_rfl) (fun _ _ _ h => h) (by kernel_rfl) need_none (Yl.bin (v := .int .i64 ((i + 1 : Nat) : Int)) rfl rfl (fun w => run_addN6 (n := 1) (by omega) (by decide) _ _ _ w)) ?_
    refine WD.takeG (i := 9) rfl rfl rfl rfl rfl rfl (by kernel_rfl) (by kernel_rfl) (by kernel_rfl) (fun _ _ _ h => h) (by kernel_rfl) need_none (Yl.indexAddr F.sl34 rfl rfl hlt2) ?_
    refine WD.takeG (i := 10) rfl rfl rfl rfl rfl rfl (by kernel_rfl) (by kernel_rfl) (by kernel_rfl) (fun _ _ _ h => h) (by kernel_rfl) need_none (Yl.fieldAddr F.fld73_3 rfl) ?_
    refine WD.takeG (i := 11) rfl rfl rfl rfl rfl rfl (by kernel_rfl) (by kernel_rfl) (by kernel_rfl) (fun _ _ _ h => h) (by kernel_rfl) (need_at 0 37 rfl (by kernel_rfl)) (Yl.load1 F.one3 rfl) ?_
    refine WD.takeG (i := 12) rfl rfl rfl rfl rfl rfl (by kernel_rfl) (by kernel_rfl) (by kernel_rfl) (fun _ _ _ h => h) (by kernel_rfl) need_none (Yl.move rfl) ?_
    refine WD.takeG (i := 13) rfl rfl rfl rfl rfl rfl (by kernel_rfl) (by kernel_rfl) (by kernel_rfl) (fun _ _ _ h => h) (by kernel_rfl) need_none (Yl.move rfl) ?_
    refine WD.takeG (i := 14) rfl rfl rfl rfl rfl rfl (by kernel_rfl) (by kernel_rfl) (by kernel_rfl) (fun _ _ _ h => h) (by kernel_rfl) need_none (Yl.indexAddr F.sl34 rfl rfl hlt) ?_
    refine WD.takeG (i := 15) rfl rfl rfl rfl rfl rfl (by kernel_rfl) (by kernel_rfl) (by kernel_rfl) (fun _ _ _ h => h) (by kernel_rfl) need_none (Yl.fieldAddr F.fld73_3 rfl) ?_
    refine WD.takeG (i := 16) rfl rfl rfl rfl rfl rfl (by kernel_rfl) (by kernel_rfl) (by kernel_rfl) (fun _ _ _ h => h) (by kernel_rfl) (need_at 1 37 rfl (by kernel_rfl)) (Yl.load1 F.one3 rfl) ?_
    refine WD.takeG (i := 17) rfl rfl rfl rfl rfl rfl (by kernel_rfl) (by kernel_rfl) (by kernel_rfl) (fun _ _ _ h => h) (by kernel_rfl) need_none (Yl.neI rfl rfl) ?_
    refine jT 18 rfl (Yl.pickF rfl rfl) ?_
    refine jT 19 rfl (Yl.move rfl) ?_
    refine fun hcl => WA.splitB (i := 40) rfl (fun g40 => ?_) (fun g40 => ?_)
    ·refine (show WD _ _ _ _ _ _ _ _ _ _ _ _ from ?_) hcl
     have hbk : brkB its i y.x ((txK its i).2 + 1) = true := by unfold brkB; rw [hzi]; simp at g40; simp [g40]
     refine WD.skip (i := 20) rfl rfl rfl rfl rfl rfl rfl (by kernel_rfl) (by kernel_rfl) (by kernel_rfl) (fun _ _ _ h => h) (by kernel_rfl) ?_
     refine WD.skip (i := 21) rfl rfl rfl rfl rfl rfl rfl (by kernel_rfl) (by kernel_rfl) (by kernel_rfl) (fun _ _ _ h => h) (by kernel_rfl) ?_
     refine WD.skip (i := 22) rfl rfl rfl rfl rfl rfl rfl (by kernel_rfl) (by kernel_rfl) (by kernel_rfl) (fun _ _ _ h => h) (by kernel_rfl) ?_
     refine WD.skip (i := 23) rfl rfl rfl rfl rfl rfl rfl (by kernel_rfl) (by kernel_rfl) (by kernel_rfl) (fun _ _ _ h => h) (by kernel_rfl) ?_
     refine WD.skip (i := 24) rfl rfl rfl rfl rfl rfl rfl (by kernel_rfl) (by kernel_rfl) (by kernel_rfl) (fun _ _ _ h => h) (by kernel_rfl) ?_
     refine WD.skip (i := 25) rfl rfl rfl rfl rfl rfl rfl (by kernel_rfl) (by kernel_rfl) (by kernel_rfl) (fun _ _ _ h => h) (by kernel_rfl) ?_
     refine WD.skip (i := 26) rfl rfl rfl rfl rfl rfl rfl (by kernel_rfl) (by kernel_rfl) (by kernel_rfl) (fun _ _ _ h => h) (by kernel_rfl) ?_
     refine WD.skip (i := 27) rfl rfl rfl rfl rfl rfl rfl (by kernel_rfl) (by kernel_rfl) (by kernel_rfl) (fun _ _ _ h => h) (by kernel_rfl) ?_
     refine WD.skip (i := 28) rfl rfl rfl rfl rfl rfl rfl (by kernel_rfl) (by kernel_rfl) (by kernel_rfl) (fun _ _ _ h => h) (by kernel_rfl) ?_
     refine WD.skip (i := 29) rfl rfl rfl rfl rfl rfl rfl (by kernel_rfl) (by kernel_rfl) (by kernel_rfl) (fun _ _ _ h => h) (by kernel_rfl) ?_
     refine WD.skip (i := 30) rfl rfl rfl rfl rfl rfl rfl (by kernel_rfl) (by kernel_rfl) (by kernel_rfl) (fun _ _ _ h => h) (by kernel_rfl) ?_
     refine WD.skip (i := 31) rfl rfl rfl rfl rfl rfl rfl (by kernel_rfl) (by kernel_rfl) (by kernel_rfl) (fun _ _ _ h => h) (by kernel_rfl) ?_
     refine jT 32 rfl (Yl.pickT rfl rfl) ?_
     refine jT 33 rfl (Yl.move rfl) ?_
     refine WD.skip (i := 34) rfl rfl rfl rfl rfl rfl rfl (by kernel_rfl) (by kernel_rfl) (by kernel_rfl) (fun _ _ _ h => h) (by kernel_rfl) ?_
     refine WD.skip (i := 35) rfl rfl rfl rfl rfl rfl rfl (by kernel_rfl) (by kernel_rfl) (by kernel_rfl) (fun _ _ _ h => h) (by kernel_rfl) ?_
     refine jT 36 rfl (Yl.pickT rfl rfl) ?_
     refine jD ?_
     refine jN 7 ?_
     refine WL.addS (n := [10]) rfl rfl rfl (by simp only [List.length_append, List.length_cons, List.length_nil]; omega) ?_
     refine jN 18 ?_
     have hs := txK_T hyi hbk
     refine WQ.back (i + 1) ?_ ?_ ?_ ?_
     ·show i + 1 ≤ ts.length; omega
     ·show ts.length - (i + 1) < ts.length - i; omega
     ·rw [hs]; exact ⟨rfl, rfl, rfl, rfl, trivial⟩
     ·rfl
    ·refine (show WD _ _ _ _ _ _ _ _ _ _ _ _ from ?_) hcl
     have hff : z.x.f = y.x.f := by simpa using g40
     refine WD.takeG (i := 20) rfl rfl rfl rfl rfl rfl (by kernel_rfl) (by kernel_rfl) (by kernel_rfl) (fun _ _ _ h => h) (by kernel_rfl) need_none (Yl.move rfl) ?_
     refine WD.takeG (i := 21) rfl rfl rfl rfl rfl rfl (by kernel_rfl) (by kernel_rfl) (by kernel_rfl) (fun _ _ _ h => h) (by kernel_rfl) need_none (Yl.move rfl) ?_
     refine WD.takeG (i := 22) rfl rfl rfl rfl rfl rfl (by kernel_rfl) (by kernel_rfl) (by kernel_rfl) (fun _ _ _ h => h) (by kernel_rfl) need_none (Yl.bin (v := .int .i64 ((i + 1 : Nat) : Int)) rfl rfl (fun w => run_addN6 (n := 1) (by omega) (by decide) _ _ _ w)) ?_
     refine WD.takeG (i := 23) rfl rfl rfl rfl rfl rfl (by kernel_rfl) (by kernel_rfl) (by kernel_rfl) (fun _ _ _ h => h) (by kernel_rfl) need_none (Yl.indexAddr F.sl34 rfl rfl hlt2) ?_
     refine WD.takeG (i := 24) rfl rfl rfl rfl rfl rfl (by kernel_rfl) (by kernel_rfl) (by kernel_rfl) (fun _ _ _ h => h) (by kernel_rfl) need_none (Yl.fieldAddr F.fld73_4 rfl) ?_
     refine WD.takeG (i := 25) rfl rfl rfl rfl rfl rfl (by kernel_rfl) (by kernel_rfl) (by kernel_rfl) (fun _ _ _ h => h) (by kernel_rfl) (need_at 2 37 rfl (by kernel_rfl)) (Yl.load1 F.one3 rfl) ?_
     refine WD.takeG (i := 26) rfl rfl rfl rfl rfl rfl (by kernel_rfl) (by kernel_rfl) (by kernel_rfl) (fun _ _ _ h => h) (by kernel_rfl) need_none (Yl.move rfl) ?_
     refine WD.takeG (i := 27) rfl rfl rfl rfl rfl rfl (by kernel_rfl) (by kernel_rfl) (by kernel_rfl) (fun _ _ _ h => h) (by kernel_rfl) need_none (Yl.move rfl) ?_
     refine WD.takeG (i := 28) rfl rfl rfl rfl rfl rfl (by kernel_rfl) (by kernel_rfl) (by kernel_rfl) (fun _ _ _ h => h) (by kernel_rfl) need_none (Yl.indexAddr F.sl34 rfl rfl hlt) ?_
     refine WD.takeG (i := 29) rfl rfl rfl rfl rfl rfl (by kernel_rfl) (by kernel_rfl) (by kernel_rfl) (fun _ _ _ h => h) (by kernel_rfl) need_none (Yl.fieldAddr F.fld73_4 rfl) ?_
     refine WD.takeG (i := 30) rfl rfl rfl rfl rfl rfl (by kernel_rfl) (by kernel_rfl) (by kernel_rfl) (fun _ _ _ h => h) (by kernel_rfl) (need_at 3 37 rfl (by kernel_rfl)) (Yl.load1 F.one3 rfl) ?_
     refine WD.takeG (i := 31) rfl rfl rfl rfl rfl rfl (by kernel_rfl) (by kernel_rfl) (by kernel_rfl) (fun _ _ _ h => h) (by kernel_rfl) need_none (Yl.neI rfl rfl) ?_
     refine jT 32 rfl (Yl.pickF rfl rfl) ?_
     refine jT 33 rfl (Yl.move rfl) ?_
     refine fun hcl => WA.splitB (i := 54) rfl (fun g54 => ?_) (fun g54 => ?_)
     ·refine (show WD _ _ _ _ _ _ _ _ _ _ _ _ from ?_) hcl
      have hbk : brkB its i y.x ((txK its i).2 + 1) = true := by unfold brkB; rw [hzi]; simp at g54; simp [g54]
      refine WD.skip (i := 34) rfl rfl rfl rfl rfl rfl rfl (by kernel_rfl) (by kernel_rfl) (by kernel_rfl) (fun _ _ _ h => h) (by kernel_rfl) ?_
      refine WD.skip (i := 35) rfl rfl rfl rfl rfl rfl rfl (by kernel_rfl) (by kernel_rfl) (by kernel_rfl) (fun _ _ _ h => h) (by kernel_rfl) ?_
      refine jT 36 rfl (Yl.pickT rfl rfl) ?_
      refine jD ?_
      refine jN 7 ?_
      refine WL.addS (n := [10]) rfl rfl rfl (by simp only [List.length_append, List.length_cons, List.length_nil]; omega) ?_
      refine jN 18 ?_
      have hs := txK_T hyi hbk
      refine WQ.back (i + 1) ?_ ?_ ?_ ?_
      ·show i + 1 ≤ ts.length; omega
      ·show ts.length - (i + 1) < ts.length - i; omega
      ·rw [hs]; exact ⟨rfl, rfl, rfl, rfl, trivial⟩
      ·rfl
     ·refine (show WD _ _ _ _ _ _ _ _ _ _ _ _ from ?_) hcl
      have hll9 : z.x.l = y.x.l := by simpa using g54
      refine WD.takeG (i := 34) rfl rfl rfl rfl rfl rfl (by kernel_rfl) (by kernel_rfl) (by kernel_rfl) (fun _ _ _ h => h) (by kernel_rfl) need_none (Yl.move rfl) ?_
      refine WD.takeG (i := 35) rfl rfl rfl rfl rfl rfl (by kernel_rfl) (by kernel_rfl) (by kernel_rfl) (fun _ _ _ h => h) (by kernel_rfl) need_none (Yl.eqI rfl rfl) ?_
      refine jT 36 rfl (Yl.pickF rfl rfl) ?_
      refine jD ?_
      refine jN 1 ?_
      refine WC.cond rfl (fun h57 => ?_) (fun h57 => ?_)
      ·have hbk : brkB its i y.x ((txK its i).2 + 1) = true := by unfold brkB; rw [decide_eq_true (show (txK its i).2 + 1 = 256 by simp at h57; omega)]; simp
       refine jN 5 ?_
       refine WL.addS (n := [10]) rfl rfl rfl (by simp only [List.length_append, List.length_cons, List.length_nil]; omega) ?_
       refine jN 18 ?_
       have hs := txK_T hyi hbk
       refine WQ.back (i + 1) ?_ ?_ ?_ ?_
       ·show i + 1 ≤ ts.length; omega
       ·show ts.length - (i + 1) < ts.length - i; omega
       ·rw [hs]; exact ⟨rfl, rfl, rfl, rfl, trivial⟩
       ·rfl
      ·have hbk : brkB its i y.x ((txK its i).2 + 1) = false := by unfold brkB; rw [hzi, decide_eq_false (show ¬ i + 1 = its.length by omega), decide_eq_false (show ¬ (txK its i).2 + 1 = 256 by intro e; rw [e] at h57; simp at h57)]; simp [hff, hll9]
       refine jN 4 ?_
       refine WL.addS (n := [32]) rfl rfl rfl (by simp only [List.length_append, List.length_cons, List.length_nil]; omega) ?_
       refine jN 13 ?_
       have hs := txK_F hyi hbk
       refine WQ.back (i + 1) ?_ ?_ ?_ ?_
       ·show i + 1 ≤ ts.length; omega
       ·show ts.length - (i + 1) < ts.length - i; omega
       ·rw [hs]; exact ⟨rfl, rfl, rfl, rfl, trivial⟩
       ·rfl
 ·have hie : i = ts.length := by simp at h9; omega
  subst hie
  refine jN 14 ?_
  exact WQ.ret (rs := [.tmp 2]) rfl (.tmp rfl .nil) (fun w hS => ⟨by rw [hn]; rfl, hS⟩)
end Go.Proofs.YtndpdhamadiopaaGreatDoor
namespace Go.Eng
open Go Go.RowKit Go.Lib
section
variable {P : Program} {w0 : World} {O : List Nat} {ops : Array Oper} {Q : Exit → Act → World → Prop} {N : Nat} {D : List Deferred} {L : FL} {C : List Chunk} {K : Act → World → Prop}
variable {d : Nat} {ty : TypeId} {pos : String} {af : Array Edge}
theorem WL.unsafeString0 {x y : Operand} {pt it : TypeId} (hd : Nat.blt d N = true)
  (hx : ev L x = some (.pointer none)) (hy : ev L y = some (.int .i64 0)) (h : WA w0 O K N D ((d, .string (str [])) :: L) C) :
  WK P w0 O ops Q ⟨some d, .call { callee := .builtin .unsafeString, args := #[x, y], argTypes := #[pt, it] }, ty, pos, af, none⟩ K N D L C := fun a w hF hS => by
 refine wpo_val rfl ?_ (h _ w (hF.put d _ hd) hS)
 have hr : (Builtin.unsafeString_ #[pt, it] ty #[.pointer none, .int .i64 0]).run P w = .ok (.string (str [])) w := by rfl
 simp only [execOp, resolve, invoke, builtin, Sem.run_bind, Sem.run_pure, Result.andThen_ok, List.map_toArray, List.map_cons, List.map_nil, hF.ev hx, hF.ev hy, hr]
end
end Go.Eng
namespace Go.Proofs.YtndpdhamadiopaaGreatDoor
open Go Go.Eng Go.Proofs Dg
theorem WriteByte_c (b : Nat) (q v : Value) (l : List UInt8) (c : UInt8) (hq : q = .pointer none ∨ q = pp b) (hb : l.length + 1 ≤ 140737488355328) (w : World) (hS0 : St w (b :: ob v) (bld b q v l) w) :
  Calls Tryz.prog 80 [pp b, .int .u8 (c.toNat : Int)].toArray w fun e w' => ∃ x : Option Addr × Nat, e = .returned .nilIface ∧ St w (b :: ob v) (bld b (pp b) (.slice x.1 (l ++ [c]).length x.2) (l ++ [c])) w' := by
 refine enter Tryz.func80 rfl Tryz.ntmps80 rfl (C := [pt b [q, v] 149, rowc v l.length 5 1 (bcells l)]) hS0 ?_
 refine jN 11 ?_
 refine WL.call1S (v := .tuple #[]) (bs := [q, v]) (bs' := [pp b, v]) (e := 149) F.fun118 rfl rfl jR (fun w hS => copyCheck_c b q v hq w (hS.heap jM)) ?_
 refine jN 17 ?_
 refine WL.buildSlice F.sl147 F.ez147 rfl rfl rfl rfl jB rfl (fun b13 => ?_)
 refine jN 1 ?_
 refine WL.appendE (news := [.int .u8 (c.toNat : Int)]) F.el147 rfl rfl rfl jR (fun w hS jj u hu => by rw [Nat.zero_add]; exact hS.cell (cs := [.int .u8 (c.toNat : Int)]) jM hu) rfl jO (Nat.le_trans (m := 140737488355328) (by omega) (by decide)) (by omega) (fun a cap => ?_)
 refine jN 15 ?_
 refine WQ.ret (rs := [.tmp 4]) rfl (.tmp rfl .nil) (fun w hS => ?_)
 refine ⟨(a, cap), rfl, ?_⟩
 have h2 := (St.pick (St.pick hS (c := rowc (.slice a (l.length + 1) cap) (l.length + 1) 5 1 (bcells l ++ [.int .u8 (c.toNat : Int)])) jR) (c := pt b [pp b, .slice a (l.length + 1) cap] 149) jR)
 simpa [bld, List.length_append, bcells_append, bcells] using h2.two2
theorem String0_c (b : Nat) (q : Value) (w : World) (hS0 : St w (b :: ob (.slice none 0 0)) (bld b q (.slice none 0 0) []) w) :
  Calls Tryz.prog 81 [pp b].toArray w fun e w' => e = .returned (.string (str [])) ∧ St w (b :: ob (.slice none 0 0)) [pt b [q, .slice none 0 0] 149] w' := by
 refine enter Tryz.func81 rfl Tryz.ntmps81 rfl (C := [pt b [q, .slice none 0 0] 149, rowc (.slice none 0 0) 0 5 1 []]) hS0 ?_
 refine jN 7 ?_
 refine WC.draws [([4, 10], fun w => w.cell? ⟨b, 1, none⟩ = some (.slice none 0 0)), ([10], fun w => w.cell? ⟨b, 1, none⟩ = some (.slice none 0 0))] (by kernel_rfl) (fun w hS => facts_cons (hS.cell jM rfl) (facts_cons (hS.cell jM rfl) (facts_nil))) ?_
 refine jT 0 rfl (Yl.move rfl) ?_
 refine jT 1 rfl (Yl.nilCheck rfl) ?_
 refine jT 2 rfl (Yl.fieldAddr0 F.fld149_1 rfl) ?_
 refine jF 3 0 rfl rfl (Yl.load1 F.one147 rfl) ?_
 refine jT 5 rfl (Yl.move rfl) ?_
 refine jT 6 rfl (Yl.nilCheck rfl) ?_
 refine jT 7 rfl (Yl.fieldAddr0 F.fld149_1 rfl) ?_
 refine jF 8 1 rfl rfl (Yl.load1 F.one147 rfl) ?_
 refine jT 9 rfl (Yl.lenSl F.und147 rfl) ?_
 refine jA 4 rfl ?_
 refine WL.sliceData rfl rfl (.inl rfl) ?_
 refine WD.on (closed_of (by kernel_rfl)) (fun w hS => Sx.gone rfl (Sx.keep (hS.cell jM rfl) (Sx.none))) ?_
 refine jA 10 rfl ?_
 refine WL.unsafeString0 rfl rfl rfl ?_
 refine jG ?_
 refine jT 11 rfl (Yl.assign rfl) ?_
 refine jD ?_
 refine jN 2 ?_
 exact WQ.ret (rs := [.tmp 2]) rfl (.tmp rfl .nil) (fun w hS => ⟨rfl, hS.sublist (List.Sublist.cons_cons _ (List.nil_sublist _))⟩)
def qB (b i : Nat) : Value := if i = 0 then .pointer none else pp b
theorem qB_or {b i : Nat} : qB b i = .pointer none ∨ qB b i = pp b := by
 unfold qB
 by_cases h : i = 0
 ·exact .inl (if_pos h)
 ·exact .inr (if_neg h)
theorem txK_ne {its : List ItV} {k : Nat} (hk : k < its.length) : (txK its (k + 1)).1 ≠ [] := by
 have hy : its[k]? = some its[k] := List.getElem?_eq_getElem hk
 cases hb : brkB its k its[k] ((txK its k).2 + 1) with
 | true => rw [txK_T hy hb]; simp
 | false => rw [txK_F hy hb]; simp
theorem StringB_c (b : Nat) (q : Value) (a : Option Addr) (cap : Nat) (l : List UInt8) (h : l ≠ [] ∨ (l = [] ∧ a = none ∧ cap = 0)) (hb : l.length ≤ 140737488355328) (w : World) (hS0 : St w (b :: ob (.slice a l.length cap)) (bld b q (.slice a l.length cap) l) w) :
  Calls Tryz.prog 81 [pp b].toArray w fun e w' => e = .returned (.string (str l)) ∧ St w (b :: ob (.slice a l.length cap)) [pt b [q, .slice a l.length cap] 149] w' := by
 rcases h with h | ⟨rfl, rfl, rfl⟩
 ·exact String_c b q a cap l h hb w hS0
 ·exact String0_c b q w hS0
structure TeG where
 i : Nat
 a : Option Addr
 c : Nat
set_option maxRecDepth 100000 in
theorem Text_c (ts : List TkV) (its : List ItV) (hx : ts.map (·.x) = its) (hts : ts.length ≤ 1000) (hit : ∀ y ∈ its, y.t.length ≤ 31000) (ta : Option Addr) (tc : Nat) (gv : Value) (hgv : gv.oneCell' = true) (w : World) (hr : RdSl tkC 7 w ts ta) :
  Pure Tryz.prog 27 [.agg [.slice ta ts.length tc, gv].toArray] w (.string (str (txK its its.length).1)) := by
 have hn : its.length = ts.length := by rw [← hx, List.length_map]
 refine enter Tryz.func27 rfl Tryz.ntmps27 rfl (St.init _) ?_
 refine jN 3 ?_
 refine WL.boxN rfl rfl (fun b1 => ?_)
 refine jN 7 ?_
 refine WL.alloc F.zero149 rfl (fun b3 => ?_)
 refine jN 22 ?_
 refine WC.chunks (C' := [pt b3 [qB b3 0, .slice none ((txK its 0).1).length 0] 149, rowc (.slice none ((txK its 0).1).length 0) ((txK its 0).1).length 5 1 (bcells ((txK its 0).1)), pt b1 [.slice ta ts.length tc, gv] 33]) (fun w hS => (jK (hS.rowNil 5 1))) ?_
 refine WC.loop (α := TeG) (fun g => g.i ≤ ts.length ∧ (g.i = 0 → g.a = none ∧ g.c = 0)) (fun g => [(1, pp b1), (3, pp b3), (4, .int .i64 ((txK its g.i).2 : Int)), (8, .slice ta ts.length tc), (9, .int .i64 (ts.length : Int)), (10, .int .i64 (g.i : Int))]) (fun g => [pt b3 [qB b3 g.i, .slice g.a ((txK its g.i).1).length g.c] 149, rowc (.slice g.a ((txK its g.i).1).length g.c) ((txK its g.i).1).length 5 1 (bcells ((txK its g.i).1)), pt b1 [.slice ta ts.length tc, gv] 33]) (fun g => ts.length - g.i) (⟨0, none, 0⟩) ?_ ?_ ?_ ?_
 ·exact ⟨Nat.zero_le _, fun _ => ⟨rfl, rfl⟩⟩
 ·exact ⟨rfl, rfl, rfl, rfl, rfl, rfl, trivial⟩
 ·rfl
 rintro ⟨i, ba, bc⟩ ⟨hi, hz9⟩
 dsimp only at hi hz9
 show WC _ _ _ _ _ _ _ [(1, pp b1), (3, pp b3), (4, .int .i64 ((txK its i).2 : Int)), (8, .slice ta ts.length tc), (9, .int .i64 (ts.length : Int)), (10, .int .i64 (i : Int))] [pt b3 [qB b3 i, .slice ba ((txK its i).1).length bc] 149, rowc (.slice ba ((txK its i).1).length bc) ((txK its i).1).length 5 1 (bcells ((txK its i).1)), pt b1 [.slice ta ts.length tc, gv] 33]
 have hln := txK_len hit i
 refine jN 7 ?_
 refine WC.cond rfl (fun h11 => ?_) (fun h11 => ?_)
 ·have hlt : i < ts.length := by simpa using h11
  obtain ⟨y, hy⟩ : ∃ y, ts[i]? = some y := ⟨_, List.getElem?_eq_getElem hlt⟩
  have hyi : its[i]? = some y.x := by rw [← hx, List.getElem?_map, hy]; rfl
  have hyt := hit _ (List.mem_of_getElem? hyi)
  obtain ⟨b, o, rfl, hcy⟩ := hr i y hy
  refine jN 9 ?_
  refine WL.indexAddr F.sl30 rfl rfl rfl hlt ?_
  refine jN 1 ?_
  refine WL.loadN F.agg105 rfl rfl (vs := tkC y) rfl (fun w hS j v hv => hS.oldc (hcy j v hv) (by simp)) ?_
  refine jN 1 ?_
  refine WL.alloc F.zero105 rfl (fun b6 => ?_)
  refine jN 13 ?_
  refine WL.callB (β := Option Addr × Nat) (res := fun _ => .tuple #[.int .i64 (List.length (y.x.t) : Nat), .nilIface]) (c1 := fun x => pt b3 [pp b3, .slice x.1 ((txK its i).1 ++ y.x.t).length x.2] 149) (c2 := fun x => rowc (.slice x.1 ((txK its i).1 ++ y.x.t).length x.2) ((txK its i).1 ++ y.x.t).length 5 1 (bcells ((txK its i).1 ++ y.x.t))) (q := qB b3 i) (v := .slice ba ((txK its i).1).length bc) (l := (txK its i).1) (b := b3) F.fun79 rfl rfl jR jR (fun w hS hS2 => WriteString_e b3 _ _ ((txK its i).1) (y.x.t) ((txK its i).1 ++ y.x.t) _ (rfl) (qB_or) (by omega) rfl w hS2) (fun x17 => ?_)
  refine jN 7 ?_
  refine WL.bin (v := .int .i64 (((txK its i).2 + 1 : Nat) : Int)) rfl rfl rfl (fun w => run_addN6 (n := 1) (by omega) (by decide) _ _ _ w) ?_
  refine jN 5 ?_
  by_cases hlast : i + 1 = ts.length
  ·have hbk : brkB its i y.x ((txK its i).2 + 1) = true := by unfold brkB; rw [decide_eq_true (show i + 1 = its.length by omega)]; rfl
   refine WC.draws [([], fun w => w.cell? ⟨b1, 0, none⟩ = some (.slice (some ⟨b, o, none⟩) ts.length tc))] (by kernel_rfl) (fun w hS => facts_cons (hS.cell (cs := [.slice (some ⟨b, o, none⟩) ts.length tc, gv]) jM rfl) (facts_nil)) ?_
   refine jT 0 rfl (Yl.move rfl) ?_
   refine jT 1 rfl (Yl.bin (v := .int .i64 ((i + 1 : Nat) : Int)) rfl rfl (fun w => run_addN6 (n := 1) (by omega) (by decide) _ _ _ w)) ?_
   refine jT 2 rfl (Yl.fieldAddr0 F.fld33_0 rfl) ?_
   refine jF 3 0 rfl rfl (Yl.load1 F.one30 rfl) ?_
   refine jT 4 rfl (Yl.lenSl F.und30 rfl) ?_
   refine jT 5 rfl (Yl.eqI rfl rfl) ?_
   refine jT 6 rfl (Yl.move rfl) ?_
   refine fun hcl => WA.splitB (i := 26) rfl (fun g26 => ?_) (fun g26 => ?_)
   ·refine (show WD _ _ _ _ _ _ _ _ _ _ _ _ from ?_) hcl
    refine WD.skip (i := 7) rfl rfl rfl rfl rfl rfl rfl (by kernel_rfl) (by kernel_rfl) (by kernel_rfl) (fun _ _ _ h => h) (by kernel_rfl) ?_
    refine WD.skip (i := 8) rfl rfl rfl rfl rfl rfl rfl (by kernel_rfl) (by kernel_rfl) (by kernel_rfl) (fun _ _ _ h => h) (by kernel_rfl) ?_
    refine WD.skip (i := 9) rfl rfl rfl rfl rfl rfl rfl (by kernel_rfl) (by kernel_rfl) (by kernel_rfl) (fun _ _ _ h => h) (by kernel_rfl) ?_
    refine WD.skip (i := 10) rfl rfl rfl rfl rfl rfl rfl (by kernel_rfl) (by kernel_rfl) (by kernel_rfl) (fun _ _ _ h => h) (by kernel_rfl) ?_
    refine WD.skip (i := 11) rfl rfl rfl rfl rfl rfl rfl (by kernel_rfl) (by kernel_rfl) (by kernel_rfl) (fun _ _ _ h => h) (by kernel_rfl) ?_
    refine WD.skip (i := 12) rfl rfl rfl rfl rfl rfl rfl (by kernel_rfl) (by kernel_rfl) (by kernel_rfl) (fun _ _ _ h => h) (by kernel_rfl) ?_
    refine WD.skip (i := 13) rfl rfl rfl rfl rfl rfl rfl (by kernel_rfl) (by kernel_rfl) (by kernel_rfl) (fun _ _ _ h => h) (by kernel_rfl) ?_
    refine WD.skip (i := 14) rfl rfl rfl rfl rfl rfl rfl (by kernel_rfl) (by kernel_rfl) (by kernel_rfl) (fun _ _ _ h => h) (by kernel_rfl) ?_
    refine WD.skip (i := 15) rfl rfl rfl rfl rfl rfl rfl (by kernel_rfl) (by kernel_rfl) (by kernel_rfl) (fun _ _ _ h => h) (by kernel_rfl) ?_
    refine WD.skip (i := 16) rfl rfl rfl rfl rfl rfl rfl (by kernel_rfl) (by kernel_rfl) (by kernel_rfl) (fun _ _ _ h => h) (by kernel_rfl) ?_
    refine jT 17 rfl (Yl.pickT rfl rfl) ?_
    refine jT 18 rfl (Yl.move rfl) ?_
    refine WD.skip (i := 19) rfl rfl rfl rfl rfl rfl rfl (by kernel_rfl) (by kernel_rfl) (by kernel_rfl) (fun _ _ _ h => h) (by kernel_rfl) ?_
    refine WD.skip (i := 20) rfl rfl rfl rfl rfl rfl rfl (by kernel_rfl) (by kernel_rfl) (by kernel_rfl) (fun _ _ _ h => h) (by kernel_rfl) ?_
    refine WD.skip (i := 21) rfl rfl rfl rfl rfl rfl rfl (by kernel_rfl) (by kernel_rfl) (by kernel_rfl) (fun _ _ _ h => h) (by kernel_rfl) ?_
    refine WD.skip (i := 22) rfl rfl rfl rfl rfl rfl rfl (by kernel_rfl) (by kernel_rfl) (by kernel_rfl) (fun _ _ _ h => h) (by kernel_rfl) ?_
    refine WD.skip (i := 23) rfl rfl rfl rfl rfl rfl rfl (by kernel_rfl) (by kernel_rfl) (by kernel_rfl) (fun _ _ _ h => h) (by kernel_rfl) ?_
    refine WD.skip (i := 24) rfl rfl rfl rfl rfl rfl rfl (by kernel_rfl) (by kernel_rfl) (by kernel_rfl) (fun _ _ _ h => h) (by kernel_rfl) ?_
    refine WD.skip (i := 25) rfl rfl rfl rfl rfl rfl rfl (by kernel_rfl) (by kernel_rfl) (by kernel_rfl) (fun _ _ _ h => h) (by kernel_rfl) ?_
    refine WD.skip (i := 26) rfl rfl rfl rfl rfl rfl rfl (by kernel_rfl) (by kernel_rfl) (by kernel_rfl) (fun _ _ _ h => h) (by kernel_rfl) ?_
    refine WD.skip (i := 27) rfl rfl rfl rfl rfl rfl rfl (by kernel_rfl) (by kernel_rfl) (by kernel_rfl) (fun _ _ _ h => h) (by kernel_rfl) ?_
    refine WD.skip (i := 28) rfl rfl rfl rfl rfl rfl rfl (by kernel_rfl) (by kernel_rfl) (by kernel_rfl) (fun _ _ _ h => h) (by kernel_rfl) ?_
    refine jT 29 rfl (Yl.pickT rfl rfl) ?_
    refine jT 30 rfl (Yl.move rfl) ?_
    refine WD.skip (i := 31) rfl rfl rfl rfl rfl rfl rfl (by kernel_rfl) (by kernel_rfl) (by kernel_rfl) (fun _ _ _ h => h) (by kernel_rfl) ?_
    refine WD.skip (i := 32) rfl rfl rfl rfl rfl rfl rfl (by kernel_rfl) (by kernel_rfl) (by kernel_rfl) (fun _ _ _ h => h) (by kernel_rfl) ?_
    refine jT 33 rfl (Yl.pickT rfl rfl) ?_
    refine jD ?_
    refine jN 5 ?_
    refine WL.callB (β := Option Addr × Nat) (res := fun _ => .nilIface) (c1 := fun x => pt b3 [pp b3, .slice x.1 (((txK its i).1 ++ y.x.t ++ [10] : List UInt8)).length x.2] 149) (c2 := fun x => rowc (.slice x.1 (((txK its i).1 ++ y.x.t ++ [10] : List UInt8)).length x.2) (((txK its i).1 ++ y.x.t ++ [10] : List UInt8)).length 5 1 (bcells (((txK its i).1 ++ y.x.t ++ [10] : List UInt8)))) (q := pp b3) (v := .slice x17.1 ((txK its i).1 ++ y.x.t).length x17.2) (l := (txK its i).1 ++ y.x.t) (b := b3) F.fun80 rfl rfl jR jR (fun w hS hS2 => WriteByte_c b3 _ _ ((txK its i).1 ++ y.x.t) 10 (.inr rfl) (by simp only [List.length_append, List.length_cons, List.length_nil]; omega) w hS2) (fun x54 => ?_)
    refine jN 14 ?_
    have hs := txK_T hyi hbk
    refine WQ.chunks (C' := [pt b3 [pp b3, .slice x54.1 (((txK its i).1 ++ y.x.t ++ [10] : List UInt8)).length x54.2] 149, rowc (.slice x54.1 (((txK its i).1 ++ y.x.t ++ [10] : List UInt8)).length x54.2) (((txK its i).1 ++ y.x.t ++ [10] : List UInt8)).length 5 1 (bcells (((txK its i).1 ++ y.x.t ++ [10] : List UInt8))), pt b1 [.slice (some ⟨b, o, none⟩) ts.length tc, gv] 33]) (fun w hS => (jK hS)) ?_
    refine WQ.back (⟨i + 1, x54.1, x54.2⟩ : TeG) ?_ ?_ ?_ ?_
    ·exact ⟨by show i + 1 ≤ ts.length; omega, fun h => by cases h⟩
    ·show ts.length - (i + 1) < ts.length - i; omega
    ·simp only [hs]; exact ⟨rfl, rfl, rfl, rfl, rfl, rfl, trivial⟩
    ·simp only [hs]; rfl
   ·refine (show WD _ _ _ _ _ _ _ _ _ _ _ _ from ?_) hcl
    exfalso; simp at g26; omega
  ·have hlt2 : i + 1 < ts.length := by omega
   obtain ⟨z, hz⟩ : ∃ z, ts[i + 1]? = some z := ⟨_, List.getElem?_eq_getElem hlt2⟩
   have hzi : its[i + 1]? = some z.x := by rw [← hx, List.getElem?_map, hz]; rfl
   obtain ⟨b9, o9, hb9, hcz0⟩ := hr (i + 1) z hz
   have hcz : ∀ j u, (tkC z)[j]? = some u → w.cell? ⟨b, o + (i + 1) * 7 + j, none⟩ = some u := by (simp only [Option.some.injEq, Addr.mk.injEq, and_true] at hb9); obtain ⟨rfl, rfl⟩ := hb9; exact hcz0
   refine WC.draws [([], fun w => w.cell? ⟨b1, 0, none⟩ = some (.slice (some ⟨b, o, none⟩) ts.length tc)), ([], fun w => w.cell? ⟨b1, 0, none⟩ = some (.slice (some ⟨b, o, none⟩) ts.length tc)), ([], fun w => w.cell? ⟨b, o + (i + 1) * 7 + 3, none⟩ = some (.int .i64 z.x.f)), ([], fun w => w.cell? ⟨b6, 3, none⟩ = some (.int .i64 y.x.f)), ([], fun w => w.cell? ⟨b1, 0, none⟩ = some (.slice (some ⟨b, o, none⟩) ts.length tc)), ([], fun w => w.cell? ⟨b, o + (i + 1) * 7 + 4, none⟩ = some (.int .i64 z.x.l)), ([], fun w => w.cell? ⟨b6, 4, none⟩ = some (.int .i64 y.x.l))] (by kernel_rfl) (fun w hS => facts_cons (hS.cell (cs := [.slice (some ⟨b, o, none⟩) ts.length tc, gv]) jM rfl) (facts_cons (hS.cell (cs := [.slice (some ⟨b, o, none⟩) ts.length tc, gv]) jM rfl) (facts_cons (hS.oldc (hcz 3 _ rfl) (by simp)) (facts_cons (hS.cell (cs := tkC y) jM rfl) (facts_cons (hS.cell (cs := [.slice (some ⟨b, o, none⟩) ts.length tc, gv]) jM rfl) (facts_cons (hS.oldc (hcz 4 _ rfl) (by simp)) (facts_cons (hS.cell (cs := tkC y) jM rfl) (facts_nil)))))))) ?_
   refine jT 0 rfl (Yl.move rfl) ?_
   refine jT 1 rfl (Yl.bin (v := .int .i64 ((i + 1 : Nat) : Int)) rfl rfl (fun w => run_addN6 (n := 1) (by omega) (by decide) _ _ _ w)) ?_
   refine jT 2 rfl (Yl.fieldAddr0 F.fld33_0 rfl) ?_
   refine jF 3 0 rfl rfl (Yl.load1 F.one30 rfl) ?_
   refine jT 4 rfl (Yl.lenSl F.und30 rfl) ?_
   refine jT 5 rfl (Yl.eqI rfl rfl) ?_
   refine jT 6 rfl (Yl.move rfl) ?_
   refine fun hcl => WA.splitB (i := 26) rfl (fun g26 => ?_) (fun g26 => ?_)
   ·refine (show WD _ _ _ _ _ _ _ _ _ _ _ _ from ?_) hcl
    exfalso; simp at g26; omega
   ·refine (show WD _ _ _ _ _ _ _ _ _ _ _ _ from ?_) hcl
    refine WD.takeG (i := 7) rfl rfl rfl rfl rfl rfl (by kernel_rfl) (by kernel_rfl) (by kernel_rfl) (fun _ _ _ h => h) (by kernel_rfl) need_none (Yl.fieldAddr0 F.fld33_0 rfl) ?_
    refine WD.takeG (i := 8) rfl rfl rfl rfl rfl rfl (by kernel_rfl) (by kernel_rfl) (by kernel_rfl) (fun _ _ _ h => h) (by kernel_rfl) (need_at 1 34 rfl (by kernel_rfl)) (Yl.load1 F.one30 rfl) ?_
    refine WD.takeG (i := 9) rfl rfl rfl rfl rfl rfl (by kernel_rfl) (by kernel_rfl) (by kernel_rfl) (fun _ _ _ h => h) (by kernel_rfl) need_none (Yl.move rfl) ?_
    refine WD.takeG (i := 10) rfl rfl rfl rfl rfl rfl (by kernel_rfl) (by kernel_rfl) (by kernel_rfl) (fun _ _ _ h => h) (by kernel_rfl) need_none (Yl.bin (v := .int .i64 ((i + 1 : Nat) : Int)) rfl rfl (fun w => run_addN6 (n := 1) (by omega) (by decide) _ _ _ w)) ?_
    refine WD.takeG (i := 11) rfl rfl rfl rfl rfl rfl (by kernel_rfl) (by kernel_rfl) (by kernel_rfl) (fun _ _ _ h => h) (by kernel_rfl) need_none (Yl.indexAddr F.sl30 rfl rfl hlt2) ?_
    refine WD.takeG (i := 12) rfl rfl rfl rfl rfl rfl (by kernel_rfl) (by kernel_rfl) (by kernel_rfl) (fun _ _ _ h => h) (by kernel_rfl) need_none (Yl.fieldAddr F.fld105_3 rfl) ?_
    refine WD.takeG (i := 13) rfl rfl rfl rfl rfl rfl (by kernel_rfl) (by kernel_rfl) (by kernel_rfl) (fun _ _ _ h => h) (by kernel_rfl) (need_at 2 34 rfl (by kernel_rfl)) (Yl.load1 F.one3 rfl) ?_
    refine WD.takeG (i := 14) rfl rfl rfl rfl rfl rfl (by kernel_rfl) (by kernel_rfl) (by kernel_rfl) (fun _ _ _ h => h) (by kernel_rfl) need_none (Yl.fieldAddr0 F.fld105_3 rfl) ?_
    refine WD.takeG (i := 15) rfl rfl rfl rfl rfl rfl (by kernel_rfl) (by kernel_rfl) (by kernel_rfl) (fun _ _ _ h => h) (by kernel_rfl) (need_at 3 34 rfl (by kernel_rfl)) (Yl.load1 F.one3 rfl) ?_
    refine WD.takeG (i := 16) rfl rfl rfl rfl rfl rfl (by kernel_rfl) (by kernel_rfl) (by kernel_rfl) (fun _ _ _ h => h) (by kernel_rfl) need_none (Yl.neI rfl rfl) ?_
    refine jT 17 rfl (Yl.pickF rfl rfl) ?_
    refine jT 18 rfl (Yl.move rfl) ?_
    refine fun hcl => WA.splitB (i := 38) rfl (fun g40 => ?_) (fun g40 => ?_)
    ·refine (show WD _ _ _ _ _ _ _ _ _ _ _ _ from ?_) hcl
     have hbk : brkB its i y.x ((txK its i).2 + 1) = true := by unfold brkB; rw [hzi]; simp at g40; simp [g40]
     refine WD.skip (i := 19) rfl rfl rfl rfl rfl rfl rfl (by kernel_rfl) (by kernel_rfl) (by kernel_rfl) (fun _ _ _ h => h) (by kernel_rfl) ?_
     refine WD.skip (i := 20) rfl rfl rfl rfl rfl rfl rfl (by kernel_rfl) (by kernel_rfl) (by kernel_rfl) (fun _ _ _ h => h) (by kernel_rfl) ?_
     refine WD.skip (i := 21) rfl rfl rfl rfl rfl rfl rfl (by kernel_rfl) (by kernel_rfl) (by kernel_rfl) (fun _ _ _ h => h) (by kernel_rfl) ?_
     refine WD.skip (i := 22) rfl rfl rfl rfl rfl rfl rfl (by kernel_rfl) (by kernel_rfl) (by kernel_rfl) (fun _ _ _ h => h) (by kernel_rfl) ?_
     refine WD.skip (i := 23) rfl rfl rfl rfl rfl rfl rfl (by kernel_rfl) (by kernel_rfl) (by kernel_rfl) (fun _ _ _ h => h) (by kernel_rfl) ?_
     refine WD.skip (i := 24) rfl rfl rfl rfl rfl rfl rfl (by kernel_rfl) (by kernel_rfl) (by kernel_rfl) (fun _ _ _ h => h) (by kernel_rfl) ?_
     refine WD.skip (i := 25) rfl rfl rfl rfl rfl rfl rfl (by kernel_rfl) (by kernel_rfl) (by kernel_rfl) (fun _ _ _ h => h) (by kernel_rfl) ?_
     refine WD.skip (i := 26) rfl rfl rfl rfl rfl rfl rfl (by kernel_rfl) (by kernel_rfl) (by kernel_rfl) (fun _ _ _ h => h) (by kernel_rfl) ?_
     refine WD.skip (i := 27) rfl rfl rfl rfl rfl rfl rfl (by kernel_rfl) (by kernel_rfl) (by kernel_rfl) (fun _ _ _ h => h) (by kernel_rfl) ?_
     refine WD.skip (i := 28) rfl rfl rfl rfl rfl rfl rfl (by kernel_rfl) (by kernel_rfl) (by kernel_rfl) (fun _ _ _ h => h) (by kernel_rfl) ?_
     refine jT 29 rfl (Yl.pickT rfl rfl) ?_
     refine jT 30 rfl (Yl.move rfl) ?_
     refine WD.skip (i := 31) rfl rfl rfl rfl rfl rfl rfl (by kernel_rfl) (by kernel_rfl) (by kernel_rfl) (fun _ _ _ h => h) (by kernel_rfl) ?_
     refine WD.skip (i := 32) rfl rfl rfl rfl rfl rfl rfl (by kernel_rfl) (by kernel_rfl) (by kernel_rfl) (fun _ _ _ h => h) (by kernel_rfl) ?_
     refine jT 33 rfl (Yl.pickT rfl rfl) ?_
     refine jD ?_
     refine jN 5 ?_
     refine WL.callB (β := Option Addr × Nat) (res := fun _ => .nilIface) (c1 := fun x => pt b3 [pp b3, .slice x.1 (((txK its i).1 ++ y.x.t ++ [10] : List UInt8)).length x.2] 149) (c2 := fun x => rowc (.slice x.1 (((txK its i).1 ++ y.x.t ++ [10] : List UInt8)).length x.2) (((txK its i).1 ++ y.x.t ++ [10] : List UInt8)).length 5 1 (bcells (((txK its i).1 ++ y.x.t ++ [10] : List UInt8)))) (q := pp b3) (v := .slice x17.1 ((txK its i).1 ++ y.x.t).length x17.2) (l := (txK its i).1 ++ y.x.t) (b := b3) F.fun80 rfl rfl jR jR (fun w hS hS2 => WriteByte_c b3 _ _ ((txK its i).1 ++ y.x.t) 10 (.inr rfl) (by simp only [List.length_append, List.length_cons, List.length_nil]; omega) w hS2) (fun x54 => ?_)
     refine jN 14 ?_
     have hs := txK_T hyi hbk
     refine WQ.chunks (C' := [pt b3 [pp b3, .slice x54.1 (((txK its i).1 ++ y.x.t ++ [10] : List UInt8)).length x54.2] 149, rowc (.slice x54.1 (((txK its i).1 ++ y.x.t ++ [10] : List UInt8)).length x54.2) (((txK its i).1 ++ y.x.t ++ [10] : List UInt8)).length 5 1 (bcells (((txK its i).1 ++ y.x.t ++ [10] : List UInt8))), pt b1 [.slice (some ⟨b, o, none⟩) ts.length tc, gv] 33]) (fun w hS => (jK hS)) ?_
     refine WQ.back (⟨i + 1, x54.1, x54.2⟩ : TeG) ?_ ?_ ?_ ?_
     ·exact ⟨by show i + 1 ≤ ts.length; omega, fun h => by cases h⟩
     ·show ts.length - (i + 1) < ts.length - i; omega
     ·simp only [hs]; exact ⟨rfl, rfl, rfl, rfl, rfl, rfl, trivial⟩
     ·simp only [hs]; rfl
    ·refine (show WD _ _ _ _ _ _ _ _ _ _ _ _ from ?_) hcl
     have hff : z.x.f = y.x.f := by simpa using g40
     refine WD.takeG (i := 19) rfl rfl rfl rfl rfl rfl (by kernel_rfl) (by kernel_rfl) (by kernel_rfl) (fun _ _ _ h => h) (by kernel_rfl) need_none (Yl.fieldAddr0 F.fld33_0 rfl) ?_
     refine WD.takeG (i := 20) rfl rfl rfl rfl rfl rfl (by kernel_rfl) (by kernel_rfl) (by kernel_rfl) (fun _ _ _ h => h) (by kernel_rfl) (need_at 4 34 rfl (by kernel_rfl)) (Yl.load1 F.one30 rfl) ?_
     refine WD.takeG (i := 21) rfl rfl rfl rfl rfl rfl (by kernel_rfl) (by kernel_rfl) (by kernel_rfl) (fun _ _ _ h => h) (by kernel_rfl) need_none (Yl.move rfl) ?_
     refine WD.takeG (i := 22) rfl rfl rfl rfl rfl rfl (by kernel_rfl) (by kernel_rfl) (by kernel_rfl) (fun _ _ _ h => h) (by kernel_rfl) need_none (Yl.bin (v := .int .i64 ((i + 1 : Nat) : Int)) rfl rfl (fun w => run_addN6 (n := 1) (by omega) (by decide) _ _ _ w)) ?_
     refine WD.takeG (i := 23) rfl rfl rfl rfl rfl rfl (by kernel_rfl) (by kernel_rfl) (by kernel_rfl) (fun _ _ _ h => h) (by kernel_rfl) need_none (Yl.indexAddr F.sl30 rfl rfl hlt2) ?_
     refine WD.takeG (i := 24) rfl rfl rfl rfl rfl rfl (by kernel_rfl) (by kernel_rfl) (by kernel_rfl) (fun _ _ _ h => h) (by kernel_rfl) need_none (Yl.fieldAddr F.fld105_4 rfl) ?_
     refine WD.takeG (i := 25) rfl rfl rfl rfl rfl rfl (by kernel_rfl) (by kernel_rfl) (by kernel_rfl) (fun _ _ _ h => h) (by kernel_rfl) (need_at 5 34 rfl (by kernel_rfl)) (Yl.load1 F.one3 rfl) ?_
     refine WD.takeG (i := 26) rfl rfl rfl rfl rfl rfl (by kernel_rfl) (by kernel_rfl) (by kernel_rfl) (fun _ _ _ h => h) (by kernel_rfl) need_none (Yl.fieldAddr0 F.fld105_4 rfl) ?_
     refine WD.takeG (i := 27) rfl rfl rfl rfl rfl rfl (by kernel_rfl) (by kernel_rfl) (by kernel_rfl) (fun _ _ _ h => h) (by kernel_rfl) (need_at 6 34 rfl (by kernel_rfl)) (Yl.load1 F.one3 rfl) ?_
     refine WD.takeG (i := 28) rfl rfl rfl rfl rfl rfl (by kernel_rfl) (by kernel_rfl) (by kernel_rfl) (fun _ _ _ h => h) (by kernel_rfl) need_none (Yl.neI rfl rfl) ?_
     refine jT 29 rfl (Yl.pickF rfl rfl) ?_
     refine jT 30 rfl (Yl.move rfl) ?_
     refine fun hcl => WA.splitB (i := 50) rfl (fun g54 => ?_) (fun g54 => ?_)
     ·refine (show WD _ _ _ _ _ _ _ _ _ _ _ _ from ?_) hcl
      have hbk : brkB its i y.x ((txK its i).2 + 1) = true := by unfold brkB; rw [hzi]; simp at g54; simp [g54]
      refine WD.skip (i := 31) rfl rfl rfl rfl rfl rfl rfl (by kernel_rfl) (by kernel_rfl) (by kernel_rfl) (fun _ _ _ h => h) (by kernel_rfl) ?_
      refine WD.skip (i := 32) rfl rfl rfl rfl rfl rfl rfl (by kernel_rfl) (by kernel_rfl) (by kernel_rfl) (fun _ _ _ h => h) (by kernel_rfl) ?_
      refine jT 33 rfl (Yl.pickT rfl rfl) ?_
      refine jD ?_
      refine jN 5 ?_
      refine WL.callB (β := Option Addr × Nat) (res := fun _ => .nilIface) (c1 := fun x => pt b3 [pp b3, .slice x.1 (((txK its i).1 ++ y.x.t ++ [10] : List UInt8)).length x.2] 149) (c2 := fun x => rowc (.slice x.1 (((txK its i).1 ++ y.x.t ++ [10] : List UInt8)).length x.2) (((txK its i).1 ++ y.x.t ++ [10] : List UInt8)).length 5 1 (bcells (((txK its i).1 ++ y.x.t ++ [10] : List UInt8)))) (q := pp b3) (v := .slice x17.1 ((txK its i).1 ++ y.x.t).length x17.2) (l := (txK its i).1 ++ y.x.t) (b := b3) F.fun80 rfl rfl jR jR (fun w hS hS2 => WriteByte_c b3 _ _ ((txK its i).1 ++ y.x.t) 10 (.inr rfl) (by simp only [List.length_append, List.length_cons, List.length_nil]; omega) w hS2) (fun x54 => ?_)
      refine jN 14 ?_
      have hs := txK_T hyi hbk
      refine WQ.chunks (C' := [pt b3 [pp b3, .slice x54.1 (((txK its i).1 ++ y.x.t ++ [10] : List UInt8)).length x54.2] 149, rowc (.slice x54.1 (((txK its i).1 ++ y.x.t ++ [10] : List UInt8)).length x54.2) (((txK its i).1 ++ y.x.t ++ [10] : List UInt8)).length 5 1 (bcells (((txK its i).1 ++ y.x.t ++ [10] : List UInt8))), pt b1 [.slice (some ⟨b, o, none⟩) ts.length tc, gv] 33]) (fun w hS => (jK hS)) ?_
      refine WQ.back (⟨i + 1, x54.1, x54.2⟩ : TeG) ?_ ?_ ?_ ?_
      ·exact ⟨by show i + 1 ≤ ts.length; omega, fun h => by cases h⟩
      ·show ts.length - (i + 1) < ts.length - i; omega
      ·simp only [hs]; exact ⟨rfl, rfl, rfl, rfl, rfl, rfl, trivial⟩
      ·simp only [hs]; rfl
     ·refine (show WD _ _ _ _ _ _ _ _ _ _ _ _ from ?_) hcl
      have hll9 : z.x.l = y.x.l := by simpa using g54
      refine WD.takeG (i := 31) rfl rfl rfl rfl rfl rfl (by kernel_rfl) (by kernel_rfl) (by kernel_rfl) (fun _ _ _ h => h) (by kernel_rfl) need_none (Yl.move rfl) ?_
      refine WD.takeG (i := 32) rfl rfl rfl rfl rfl rfl (by kernel_rfl) (by kernel_rfl) (by kernel_rfl) (fun _ _ _ h => h) (by kernel_rfl) need_none (Yl.eqI rfl rfl) ?_
      refine jT 33 rfl (Yl.pickF rfl rfl) ?_
      refine jD ?_
      refine jN 1 ?_
      refine WC.cond rfl (fun h57 => ?_) (fun h57 => ?_)
      ·have hbk : brkB its i y.x ((txK its i).2 + 1) = true := by unfold brkB; rw [decide_eq_true (show (txK its i).2 + 1 = 256 by simp at h57; omega)]; simp
       refine jN 3 ?_
       refine WL.callB (β := Option Addr × Nat) (res := fun _ => .nilIface) (c1 := fun x => pt b3 [pp b3, .slice x.1 (((txK its i).1 ++ y.x.t ++ [10] : List UInt8)).length x.2] 149) (c2 := fun x => rowc (.slice x.1 (((txK its i).1 ++ y.x.t ++ [10] : List UInt8)).length x.2) (((txK its i).1 ++ y.x.t ++ [10] : List UInt8)).length 5 1 (bcells (((txK its i).1 ++ y.x.t ++ [10] : List UInt8)))) (q := pp b3) (v := .slice x17.1 ((txK its i).1 ++ y.x.t).length x17.2) (l := (txK its i).1 ++ y.x.t) (b := b3) F.fun80 rfl rfl jR jR (fun w hS hS2 => WriteByte_c b3 _ _ ((txK its i).1 ++ y.x.t) 10 (.inr rfl) (by simp only [List.length_append, List.length_cons, List.length_nil]; omega) w hS2) (fun x54 => ?_)
       refine jN 14 ?_
       have hs := txK_T hyi hbk
       refine WQ.chunks (C' := [pt b3 [pp b3, .slice x54.1 (((txK its i).1 ++ y.x.t ++ [10] : List UInt8)).length x54.2] 149, rowc (.slice x54.1 (((txK its i).1 ++ y.x.t ++ [10] : List UInt8)).length x54.2) (((txK its i).1 ++ y.x.t ++ [10] : List UInt8)).length 5 1 (bcells (((txK its i).1 ++ y.x.t ++ [10] : List UInt8))), pt b1 [.slice (some ⟨b, o, none⟩) ts.length tc, gv] 33]) (fun w hS => (jK hS)) ?_
       refine WQ.back (⟨i + 1, x54.1, x54.2⟩ : TeG) ?_ ?_ ?_ ?_
       ·exact ⟨by show i + 1 ≤ ts.length; omega, fun h => by cases h⟩
       ·show ts.length - (i + 1) < ts.length - i; omega
       ·simp only [hs]; exact ⟨rfl, rfl, rfl, rfl, rfl, rfl, trivial⟩
       ·simp only [hs]; rfl
      ·have hbk : brkB its i y.x ((txK its i).2 + 1) = false := by unfold brkB; rw [hzi, decide_eq_false (show ¬ i + 1 = its.length by omega), decide_eq_false (show ¬ (txK its i).2 + 1 = 256 by intro e; rw [e] at h57; simp at h57)]; simp [hff, hll9]
       refine jN 2 ?_
       refine WL.callB (β := Option Addr × Nat) (res := fun _ => .nilIface) (c1 := fun x => pt b3 [pp b3, .slice x.1 (((txK its i).1 ++ y.x.t ++ [32] : List UInt8)).length x.2] 149) (c2 := fun x => rowc (.slice x.1 (((txK its i).1 ++ y.x.t ++ [32] : List UInt8)).length x.2) (((txK its i).1 ++ y.x.t ++ [32] : List UInt8)).length 5 1 (bcells (((txK its i).1 ++ y.x.t ++ [32] : List UInt8)))) (q := pp b3) (v := .slice x17.1 ((txK its i).1 ++ y.x.t).length x17.2) (l := (txK its i).1 ++ y.x.t) (b := b3) F.fun80 rfl rfl jR jR (fun w hS hS2 => WriteByte_c b3 _ _ ((txK its i).1 ++ y.x.t) 32 (.inr rfl) (by simp only [List.length_append, List.length_cons, List.length_nil]; omega) w hS2) (fun x55 => ?_)
       refine jN 9 ?_
       have hs := txK_F hyi hbk
       refine WQ.chunks (C' := [pt b3 [pp b3, .slice x55.1 (((txK its i).1 ++ y.x.t ++ [32] : List UInt8)).length x55.2] 149, rowc (.slice x55.1 (((txK its i).1 ++ y.x.t ++ [32] : List UInt8)).length x55.2) (((txK its i).1 ++ y.x.t ++ [32] : List UInt8)).length 5 1 (bcells (((txK its i).1 ++ y.x.t ++ [32] : List UInt8))), pt b1 [.slice (some ⟨b, o, none⟩) ts.length tc, gv] 33]) (fun w hS => (jK hS)) ?_
       refine WQ.back (⟨i + 1, x55.1, x55.2⟩ : TeG) ?_ ?_ ?_ ?_
       ·exact ⟨by show i + 1 ≤ ts.length; omega, fun h => by cases h⟩
       ·show ts.length - (i + 1) < ts.length - i; omega
       ·simp only [hs]; exact ⟨rfl, rfl, rfl, rfl, rfl, rfl, trivial⟩
       ·simp only [hs]; rfl
 ·have hie : i = ts.length := by simp at h11; omega
  subst hie
  have hbb : (txK its ts.length).1 ≠ [] ∨ ((txK its ts.length).1 = [] ∧ ba = none ∧ bc = 0) := by
   rcases Nat.eq_zero_or_pos ts.length with h0 | h0
   ·exact .inr ⟨by rw [h0]; rfl, hz9 h0⟩
   ·obtain ⟨k, hk⟩ : ∃ k, ts.length = k + 1 := ⟨ts.length - 1, by omega⟩
    rw [hk]; exact .inl (txK_ne (by omega))
  refine jN 8 ?_
  refine WL.callC (β := Unit) (res := fun _ => .string (str (txK its ts.length).1)) (cs := fun _ => [pt b3 [qB b3 ts.length, .slice ba ((txK its ts.length).1).length bc] 149]) (Cs := [pt b3 [qB b3 ts.length, .slice ba ((txK its ts.length).1).length bc] 149, rowc (.slice ba ((txK its ts.length).1).length bc) ((txK its ts.length).1).length 5 1 (bcells ((txK its ts.length).1))]) (O' := b3 :: ob (.slice ba ((txK its ts.length).1).length bc)) F.fun81 (fun d h => by cases h; rfl) rfl (List.Perm.refl _) bld_fp1 bld_fp2 (fun w hS hS2 => (StringB_c b3 _ ba bc (txK its ts.length).1 hbb (by omega) w hS2).mono (fun e w2 h => ⟨(), h⟩)) (fun _ => ?_)
  refine jN 5 ?_
  exact WQ.ret (rs := [.tmp 2]) rfl (.tmp rfl .nil) (fun w hS => ⟨by rw [hn]; rfl, hS.sublist (List.nil_sublist _)⟩)
theorem cmpP_zero : ∀ {l m : List Int}, cmpP l m = 0 ↔ l = m
 | [], [] => by simp [cmpP]
 | [], b :: s => by
  constructor
  ·intro h; simp [cmpP] at h; omega
  ·intro h; cases h
 | a :: r, [] => by
  constructor
  ·intro h; simp [cmpP] at h; omega
  ·intro h; cases h
 | a :: r, b :: s => by
  rw [cmpP]
  by_cases h : a = b
  ·rw [if_pos h, cmpP_zero, h]; simp
  ·rw [if_neg h]
   constructor
   ·intro h2; split at h2 <;> omega
   ·intro h2; cases h2; exact absurd rfl h
theorem or3_zero {a b c : Int} : orI [a, b, c] = 0 ↔ a = 0 ∧ b = 0 ∧ c = 0 := by
 simp only [orI]
 by_cases h1 : a = 0 <;> by_cases h2 : b = 0 <;> by_cases h3 : c = 0 <;> simp [h1, h2, h3]
theorem or2_zero {a b : Int} : orI [a, b] = 0 ↔ a = 0 ∧ b = 0 := by
 simp only [orI]
 by_cases h1 : a = 0 <;> by_cases h2 : b = 0 <;> simp [h1, h2]
theorem cmpT_zero {x y : ItV} : cmpT x y = 0 ↔ x.p = y.p ∧ x.k = y.k ∧ x.t = y.t := by
 unfold cmpT
 rw [or3_zero, cmpL_zero, cmpI_zero, cmpS_zero, Int.ofNat_inj]
theorem cmpD_zero {x y : NoV} : cmpD x y = 0 ↔ x.p = y.p ∧ x.k = y.k := by
 unfold cmpD
 rw [or2_zero, cmpL_zero, cmpI_zero, Int.ofNat_inj]
structure RdDL (w : World) (ds : List DV) (a : Option Addr) : Prop where
 hd : ∀ (j : Nat) (u : Value), (dcs ds)[j]? = some u → ∃ b off, a = some ⟨b, off, none⟩ ∧ w.cell? ⟨b, off + j, none⟩ = some u
 rd : ∀ x ∈ ds, RdD w x.1 x.2.1
theorem RdDL.next {w0 w : World} {C : List Chunk} {ds : List DV} {a : Option Addr} (h : RdDL w0 ds a) (hS : St w0 [] C w) : RdDL w ds a :=
 ⟨fun j u hu => by
  obtain ⟨b, off, h1, h2⟩ := h.hd j u hu
  exact ⟨b, off, h1, hS.oldc h2 (by simp)⟩, fun x hx => (h.rd x hx).next0 hS⟩
theorem RdDL.of_row {w : World} {ds : List DV} {a : Option Addr} {n cap : Nat} {e : TypeId} {F : List Nat} (hn : n = ds.length) (h : (rowc (.slice a n cap) n e 2 (dcs ds)).ok w) (h2 : (dsC F ds).ok w) : RdDL w ds a :=
 ⟨fun j u hu => by
  have hlt := (List.getElem?_eq_some_iff.1 hu).1
  rw [dcs_len] at hlt
  obtain ⟨g, hg, _, _⟩ := rowc_addr h (by omega)
  subst hg
  exact ⟨g, 0, rfl, by rw [Nat.zero_add]; exact rowc_cells h hu⟩, fun x hx => dsC_rd h2 hx⟩
theorem RdDL.at {w : World} {ds : List DV} {a : Option Addr} (h : RdDL w ds a) {i : Nat} {x : DV} (hx : ds[i]? = some x) : ∃ b off, a = some ⟨b, off, none⟩ ∧ (∀ j v, [Value.slice x.2.1 (canon x.1).1.length x.2.2, .int .i64 ((canon x.1).2 : Int)][j]? = some v → w.cell? ⟨b, off + i * 2 + j, none⟩ = some v) ∧ RdD w x.1 x.2.1 := by
 obtain ⟨b, off, h1, _⟩ := h.hd (i * 2 + 0) _ (dcs_at hx 0 _ rfl)
 refine ⟨b, off, h1, fun j v hv => ?_, h.rd x (List.mem_of_getElem? hx)⟩
 obtain ⟨b', off', h3, h4⟩ := h.hd (i * 2 + j) v (dcs_at hx j v hv)
 rw [h1] at h3
 injection h3 with h3
 injection h3 with h5 h6
 subst h5; subst h6
 rw [Nat.add_assoc]; exact h4
set_option maxRecDepth 100000 in
theorem IdxD_c (t : BT) (ta : Option Addr) (tc : Nat) (ds : List DV) (da : Option Addr) (dc : Nat) (hl : ds.length ≤ 1000000) (w : World) (ht : RdD w t ta) (hr : RdDL w ds da) :
  Calls Tryz.prog 119 [.slice da ds.length dc, .func (.func 42) [dval t ta tc].toArray [].toArray].toArray w fun e w' => ∃ r : Int, decide (0 ≤ r) = ds.any (fun z => sameB t z.1) ∧ e = .returned (.int .i64 r) ∧ St w [] [] w' := by
 refine enter Tryz.func119 rfl Tryz.ntmps119 rfl (St.init _) ?_
 refine jN 18 ?_
 refine WC.loop (α := Nat) (fun i => i ≤ ds.length ∧ ∀ z ∈ ds.take i, sameB t z.1 = false) (fun i => [(0, .slice da ds.length dc), (1, .func (.func 42) [dval t ta tc].toArray [].toArray), (7, .int .i64 (ds.length : Int)), (8, .int .i64 (i : Int))]) (fun _ => []) (fun i => ds.length - i) (0) ?_ ?_ ?_ ?_
 ·exact ⟨Nat.zero_le _, fun z hz => by simp at hz⟩
 ·exact ⟨rfl, rfl, rfl, rfl, trivial⟩
 ·rfl
 rintro i ⟨hi, hno⟩
 show WC _ _ _ _ _ _ _ [(0, .slice da ds.length dc), (1, .func (.func 42) [dval t ta tc].toArray [].toArray), (7, .int .i64 (ds.length : Int)), (8, .int .i64 (i : Int))] []
 refine jN 7 ?_
 refine WC.cond rfl (fun h9 => ?_) (fun h9 => ?_)
 ·have hlt : i < ds.length := by simpa using h9
  obtain ⟨x, hx⟩ : ∃ y, ds[i]? = some y := ⟨_, List.getElem?_eq_getElem hlt⟩
  obtain ⟨b, o, rfl, hcx, hdx⟩ := hr.at hx
  refine jN 21 ?_
  refine WL.indexAddr F.sl74 rfl rfl rfl hlt ?_
  refine jN 1 ?_
  refine WL.loadN F.agg50 rfl rfl (vs := [.slice x.2.1 (canon x.1).1.length x.2.2, .int .i64 ((canon x.1).2 : Int)]) rfl (fun w hS j v hv => hS.oldc (hcx j v hv) (by simp)) ?_
  refine jN 1 ?_
  refine WL.callFC (β := Unit) (res := fun _ => .bool (sameB t x.1)) (cs := fun _ => []) (Cs := []) (O' := []) (us := [dval t ta tc]) (cap := []) F.fun42 (fun d h => by cases h; rfl) rfl rfl (List.Perm.refl _) (by simp) (by simp) (fun w hS _ => (SameD_c t x.1 ta x.2.1 tc x.2.2 w (ht.next0 hS) (hdx.next0 hS)).mono (fun e w2 h => ⟨(), h⟩)) (fun _ => ?_)
  refine jN 2 ?_
  refine WC.cond rfl (fun h16 => ?_) (fun h16 => ?_)
  ·have hany : ds.any (fun z => sameB t z.1) = true := List.any_eq_true.2 ⟨x, List.mem_of_getElem? hx, h16⟩
   refine jN 14 ?_
   exact WQ.ret (rs := [.tmp 4]) rfl (.tmp rfl .nil) (fun w hS => ⟨(i : Int), by rw [hany]; exact decide_eq_true (by omega), rfl, hS⟩)
  ·have hsf : sameB t x.1 = false := h16
   refine jN 9 ?_
   refine WQ.back (i + 1) ?_ ?_ ?_ ?_
   ·exact ⟨by omega, all_next hx hno hsf⟩
   ·omega
   ·exact ⟨rfl, rfl, rfl, rfl, trivial⟩
   ·rfl
 ·have hie : i = ds.length := by simp at h9; omega
  have hany : ds.any (fun z => sameB t z.1) = false := by
   rw [hie, List.take_length] at hno
   rw [List.any_eq_false]
   intro z hz; rw [hno z hz]; decide
  refine jN 12 ?_
  exact WQ.ret (rs := [.tmp 4]) rfl (.tmp rfl .nil) (fun w hS => ⟨-1, by rw [hany]; decide, rfl, hS⟩)
set_option maxRecDepth 100000 in
theorem HasD_c (t : BT) (ta : Option Addr) (tc : Nat) (ds : List DV) (da : Option Addr) (dc : Nat) (hl : ds.length ≤ 1000000) (w : World) (ht : RdD w t ta) (hr : RdDL w ds da) :
  Pure Tryz.prog 82 [.slice da ds.length dc, .func (.func 42) [dval t ta tc].toArray [].toArray] w (.bool (ds.any (fun z => sameB t z.1))) := by
 refine enter Tryz.func82 rfl Tryz.ntmps82 rfl (St.init _) ?_
 refine jN 13 ?_
 refine WL.call0 (β := Int) (res := fun x => .returned (.int .i64 x)) (cs := fun _ => []) (ψ := fun r => decide (0 ≤ r) = ds.any (fun z => sameB t z.1)) F.fun119 (fun d h => by cases h; rfl) rfl (fun w hS => (IdxD_c t ta tc ds da dc hl w (ht.next0 hS) (hr.next hS)).mono (fun e w2 ⟨x, h0, h1, h2⟩ => ⟨x, h0, h1, h2⟩)) (fun r hrr => ?_)
 refine WL.step ?_
 refine WL.geI rfl rfl rfl ?_
 refine WL.step ?_
 refine WL.assign rfl rfl ?_
 refine WL.nil ?_
 refine WQ.then_normal ?_
 refine WC.ret ?_
 exact WQ.ret (rs := [.tmp 4]) rfl (.tmp rfl .nil) (fun w hS => ⟨by rw [← hrr]; rfl, hS⟩)
theorem RdDL.of_mix {w : World} {ds : List DV} {a : Option Addr} {cap : Nat} {e : TypeId} (h : (rowc (.slice a ds.length cap) ds.length e 2 (dcs ds)).ok w) (hd : ∀ x ∈ ds, RdD w x.1 x.2.1) : RdDL w ds a :=
 ⟨fun j u hu => by
  have hlt := (List.getElem?_eq_some_iff.1 hu).1
  rw [dcs_len] at hlt
  obtain ⟨g, hg, _, _⟩ := rowc_addr h (by omega)
  subst hg
  exact ⟨g, 0, rfl, by rw [Nat.zero_add]; exact rowc_cells h hu⟩, hd⟩
def cnK (ts : List TkV) : Nat → List DV
 | 0 => []
 | k + 1 => match ts[k]? with
  | none => cnK ts k
  | some y => if (cnK ts k).any (fun z => sameB y.d z.1) then cnK ts k else cnK ts k ++ [(y.d, y.da, y.dc)]
theorem cnK_T {ts : List TkV} {k : Nat} {y : TkV} (h : ts[k]? = some y) (hb : (cnK ts k).any (fun z => sameB y.d z.1) = true) : cnK ts (k + 1) = cnK ts k := by
 rw [cnK, h]
 exact if_pos hb
theorem cnK_F {ts : List TkV} {k : Nat} {y : TkV} (h : ts[k]? = some y) (hb : (cnK ts k).any (fun z => sameB y.d z.1) = false) : cnK ts (k + 1) = cnK ts k ++ [(y.d, y.da, y.dc)] := by
 rw [cnK, h]
 exact if_neg (by simp [hb])
theorem cnK_len (ts : List TkV) : ∀ k, (cnK ts k).length ≤ k ∧ ∀ z ∈ cnK ts k, ∃ y ∈ ts, z = (y.d, y.da, y.dc)
 | 0 => by simp [cnK]
 | k + 1 => by
  have ih := cnK_len ts k
  cases hk : ts[k]? with
  | none =>
   have e : cnK ts (k + 1) = cnK ts k := by rw [cnK, hk]
   rw [e]
   exact ⟨by omega, ih.2⟩
  | some y =>
   cases hb : (cnK ts k).any (fun z => sameB y.d z.1) with
   | true => rw [cnK_T hk hb]; exact ⟨by omega, ih.2⟩
   | false =>
    rw [cnK_F hk hb]
    refine ⟨by rw [List.length_append, List.length_singleton]; omega, fun z hz => ?_⟩
    rcases List.mem_append.1 hz with hz | hz
    ·exact ih.2 z hz
    ·rw [List.mem_singleton.1 hz]; exact ⟨y, List.mem_of_getElem? hk, rfl⟩
structure CnG where
 i : Nat
 a : Option Addr
 c : Nat
set_option maxRecDepth 100000 in
theorem Conditions_c (ts : List TkV) (hts : ts.length ≤ 1000) (ta : Option Addr) (tc : Nat) (gv : Value) (hgv : gv.oneCell' = true) (w : World) (hr : RdSl tkC 7 w ts ta) (hd : ∀ y ∈ ts, RdD w y.d y.da) :
  Calls Tryz.prog 30 [.agg [.slice ta ts.length tc, gv].toArray].toArray w fun e w' => ∃ x : Option Addr × Nat, e = .returned (.slice x.1 (cnK ts ts.length).length x.2) ∧ St w [] [rowc (.slice x.1 (cnK ts ts.length).length x.2) (cnK ts ts.length).length 50 2 (dcs (cnK ts ts.length))] w' := by
 refine enter Tryz.func30 rfl Tryz.ntmps30 rfl (St.init _) ?_
 refine jN 3 ?_
 refine WL.boxN rfl rfl (fun b1 => ?_)
 refine jN 24 ?_
 refine WC.chunks (C' := [rowc (.slice none 0 0) 0 50 2 []]) (fun w hS => (jK (hS.rowNil 50 2))) ?_
 refine WC.loop (α := CnG) (fun g => g.i ≤ ts.length) (fun g => [(3, .slice g.a (cnK ts g.i).length g.c), (7, .slice ta ts.length tc), (8, .int .i64 (ts.length : Int)), (9, .int .i64 (g.i : Int))]) (fun g => [rowc (.slice g.a (cnK ts g.i).length g.c) (cnK ts g.i).length 50 2 (dcs (cnK ts g.i))]) (fun g => ts.length - g.i) (⟨0, none, 0⟩) ?_ ?_ ?_ ?_
 ·exact Nat.zero_le _
 ·exact ⟨rfl, rfl, rfl, rfl, trivial⟩
 ·rfl
 rintro ⟨i, a, c⟩ hi
 dsimp only at hi
 show WC _ _ _ _ _ _ _ [(3, .slice a (cnK ts i).length c), (7, .slice ta ts.length tc), (8, .int .i64 (ts.length : Int)), (9, .int .i64 (i : Int))] [rowc (.slice a (cnK ts i).length c) (cnK ts i).length 50 2 (dcs (cnK ts i))]
 have hcl := cnK_len ts i
 refine jN 7 ?_
 refine WC.cond rfl (fun h10 => ?_) (fun h10 => ?_)
 ·have hlt : i < ts.length := by simpa using h10
  obtain ⟨y, hy⟩ : ∃ y, ts[i]? = some y := ⟨_, List.getElem?_eq_getElem hlt⟩
  have hym := List.mem_of_getElem? hy
  obtain ⟨b, o, rfl, hcy⟩ := hr i y hy
  refine jN 7 ?_
  refine WL.indexAddr F.sl30 rfl rfl rfl hlt ?_
  refine jN 1 ?_
  refine WL.loadN F.agg105 rfl rfl (vs := tkC y) rfl (fun w hS j v hv => hS.oldc (hcy j v hv) (by simp)) ?_
  refine jN 1 ?_
  refine WL.alloc F.zero105 rfl (fun b5 => ?_)
  refine jN 11 ?_
  refine WL.loadN F.agg50 rfl rfl (vs := [Value.slice y.da (canon y.d).1.length y.dc, .int .i64 ((canon y.d).2 : Int)]) rfl (fun w hS j v hv => (by (have h9 : (tkC y)[5 + j]? = some v := (by (show ([.int .u8 (y.x.k : Int), .string (str y.x.t), .slice y.x.pa y.x.p.length y.x.pc, .int .i64 y.x.f, .int .i64 y.x.l] ++ [Value.slice y.da (canon y.d).1.length y.dc, .int .i64 ((canon y.d).2 : Int)])[5 + j]? = some v); rw [List.getElem?_append_right (by simp)]; simpa using hv)); (show w.cell? ⟨b5, 5 + j, none⟩ = some v); exact hS.cell (cs := tkC y) jM h9)) ?_
  refine jN 3 ?_
  refine WL.callV F.fun82 rfl rfl (fun w hS => HasD_c y.d y.da y.dc (cnK ts i) a c (by omega) w ((hd y hym).next0 hS) (RdDL.of_mix (hS.ok (rowc (.slice a (cnK ts i).length c) (cnK ts i).length 50 2 (dcs (cnK ts i))) jM) (fun z hz => by obtain ⟨y9, h9, rfl⟩ := hcl.2 z hz; exact (hd y9 h9).next0 hS))) ?_
  refine jN 4 ?_
  refine WC.cond rfl (fun h18 => ?_) (fun h18 => ?_)
  ·have hb : (cnK ts i).any (fun z => sameB y.d z.1) = false := by simpa using h18
   refine jN 6 ?_
   refine WL.loadN F.agg50 rfl rfl (vs := [Value.slice y.da (canon y.d).1.length y.dc, .int .i64 ((canon y.d).2 : Int)]) rfl (fun w hS j v hv => (by (have h9 : (tkC y)[5 + j]? = some v := (by (show ([.int .u8 (y.x.k : Int), .string (str y.x.t), .slice y.x.pa y.x.p.length y.x.pc, .int .i64 y.x.f, .int .i64 y.x.l] ++ [Value.slice y.da (canon y.d).1.length y.dc, .int .i64 ((canon y.d).2 : Int)])[5 + j]? = some v); rw [List.getElem?_append_right (by simp)]; simpa using hv)); (show w.cell? ⟨b5, 5 + j, none⟩ = some v); exact hS.cell (cs := tkC y) jM h9)) ?_
   refine jN 1 ?_
   refine WL.buildSlice F.sl74 F.ez74 rfl rfl rfl rfl jB rfl (fun b22 => ?_)
   refine jN 1 ?_
   refine WL.appendE (news := [Value.slice y.da (canon y.d).1.length y.dc, .int .i64 ((canon y.d).2 : Int)]) F.el74 rfl rfl rfl jR (fun w hS jj u hu => by rw [Nat.zero_add]; exact hS.cell (cs := [Value.slice y.da (canon y.d).1.length y.dc, .int .i64 ((canon y.d).2 : Int)]) jM hu) rfl jO (Nat.le_trans (m := 2000) (by omega) (by decide)) (by omega) (fun a9 c9 => ?_)
   refine jN 11 ?_
   refine WQ.chunks (C' := [rowc (.slice a9 ((cnK ts i).length + 1) c9) ((cnK ts i).length + 1) 50 2 (dcs (cnK ts i) ++ [Value.slice y.da (canon y.d).1.length y.dc, .int .i64 ((canon y.d).2 : Int)])]) (fun w hS => (jK hS)) ?_
   have hs := cnK_F hy hb
   refine WQ.back (⟨i + 1, a9, c9⟩ : CnG) ?_ ?_ ?_ ?_
   ·show i + 1 ≤ ts.length; omega
   ·show ts.length - (i + 1) < ts.length - i; omega
   ·simp only [hs, List.length_append, List.length_cons, List.length_nil]; exact ⟨rfl, rfl, rfl, rfl, trivial⟩
   ·simp only [hs, List.length_append, List.length_cons, List.length_nil, dcs_append]; rfl
  ·have hb : (cnK ts i).any (fun z => sameB y.d z.1) = true := by simpa using h18
   refine jN 9 ?_
   refine WQ.chunks (C' := [rowc (.slice a (cnK ts i).length c) (cnK ts i).length 50 2 (dcs (cnK ts i))]) (fun w hS => (jK hS)) ?_
   have hs := cnK_T hy hb
   refine WQ.back (⟨i + 1, a, c⟩ : CnG) ?_ ?_ ?_ ?_
   ·show i + 1 ≤ ts.length; omega
   ·show ts.length - (i + 1) < ts.length - i; omega
   ·simp only [hs]; exact ⟨rfl, rfl, rfl, rfl, trivial⟩
   ·simp only [hs]
 ·have hie : i = ts.length := by simp at h10; omega
  subst hie
  refine jN 14 ?_
  exact WQ.ret (rs := [.tmp 2]) rfl (.tmp rfl .nil) (fun w hS => ⟨(a, c), rfl, (jK hS)⟩)
theorem sameB_cfg {t s : BT} {q r : List QB} {u : Nat} (ht : t.ok 0) (hs : s.ok 0) (et : ∀ c, t.ev c = setF q c) (es : ∀ c, s.ev c = setF r c) (hq : inU q u) (hr : inU r u) (hu : u < 4294967296) : sameB t s = decide (thoseL q u = thoseL r u) := by
 rw [Bool.eq_iff_iff, sameB_iff, decide_eq_true_eq, thoseL_F, thoseL_F]
 constructor
 ·intro h
  have e : setF q = setF r := funext fun c => by rw [← et, ← es, h]
  rw [e]
 ·intro h
  exact BT.unique ht hs fun c => by rw [et, es]; exact thoseF_ext (by simpa using hu) (setF_dep hq) (setF_dep hr) h c
theorem eqBy_map {α β : Type} {f : α → α → Bool} {g : β → β → Bool} {h : α → β} : ∀ {l m : List α}, (∀ x ∈ l, ∀ y ∈ m, f x y = g (h x) (h y)) → eqBy f l m = eqBy g (l.map h) (m.map h)
 | [], [], _ => rfl
 | [], _ :: _, _ => rfl
 | _ :: _, [], _ => rfl
 | x :: l, y :: m, hf => by
  simp only [List.map_cons, eqBy]
  rw [hf x (by simp) y (by simp), eqBy_map fun a ha b hb => hf a (by simp [ha]) b (by simp [hb])]
def itB (u : Nat) (x y : ItV) : Bool := decide (x.p = y.p ∧ x.k = y.k ∧ x.t = y.t ∧ x.f = y.f ∧ x.l = y.l ∧ thoseL x.q u = thoseL y.q u)
def noB (u : Nat) (x y : NoV) : Bool := decide (x.p = y.p ∧ x.k = y.k ∧ x.f = y.f ∧ x.l = y.l ∧ thoseL x.q u = thoseL y.q u)
theorem sameTB_it {u : Nat} (hu : u < 4294967296) {l m : List ItV} {ts ss : List TkV} {ds es : List DV} (h1 : TkG l ts ds) (h2 : TkG m ss es) (i1 : ∀ y ∈ l, inU y.q u) (i2 : ∀ y ∈ m, inU y.q u) : eqBy sameTB ts ss = eqBy (itB u) l m := by
 rw [← h1.x, ← h2.x]
 refine eqBy_map fun x hx y hy => ?_
 obtain ⟨a1, a2, _⟩ := h1.d x hx
 obtain ⟨b1, b2, _⟩ := h2.d y hy
 unfold sameTB itB
 rw [sameB_cfg a1 b1 a2 b2 (i1 _ (by rw [← h1.x]; exact List.mem_map_of_mem hx)) (i2 _ (by rw [← h2.x]; exact List.mem_map_of_mem hy)) hu, Bool.eq_iff_iff]
 simp only [Bool.and_eq_true, decide_eq_true_eq, cmpT_zero]
 constructor
 ·rintro ⟨⟨⟨⟨h1, h2, h3⟩, h4⟩, h5⟩, h6⟩; exact ⟨h1, h2, h3, h4, h5, h6⟩
 ·rintro ⟨h1, h2, h3, h4, h5, h6⟩; exact ⟨⟨⟨⟨h1, h2, h3⟩, h4⟩, h5⟩, h6⟩
theorem sameRt_it {u : Nat} {l m : List ItV} {ts ss : List RtV} {ds es : List (List Nat × Option Addr)} (h1 : RtG u l ts ds) (h2 : RtG u m ss es) : eqBy sameRt ts ss = eqBy (itB u) l m := by
 rw [← h1.x, ← h2.x]
 refine eqBy_map fun x hx y hy => ?_
 obtain ⟨a1, _⟩ := h1.d x hx
 obtain ⟨b1, _⟩ := h2.d y hy
 unfold sameRt itB
 rw [a1, b1, Bool.eq_iff_iff]
 simp only [Bool.and_eq_true, decide_eq_true_eq, beq_iff_eq, cmpP_zero]
 constructor
 ·rintro ⟨⟨⟨⟨⟨h1, h2⟩, h3⟩, h4⟩, h5⟩, h6⟩; exact ⟨h3, h1, h2, h4, h5, h6⟩
 ·rintro ⟨h3, h1, h2, h4, h5, h6⟩; exact ⟨⟨⟨⟨⟨h1, h2⟩, h3⟩, h4⟩, h5⟩, h6⟩
theorem sameDB_no {u : Nat} (hu : u < 4294967296) {l m : List NoV} {ts ss : List DgV} {ds es : List DV} (h1 : DgG l ts ds) (h2 : DgG m ss es) (i1 : ∀ y ∈ l, inU y.q u) (i2 : ∀ y ∈ m, inU y.q u) : eqBy sameDB ts ss = eqBy (noB u) l m := by
 rw [← h1.x, ← h2.x]
 refine eqBy_map fun x hx y hy => ?_
 obtain ⟨a1, a2, _⟩ := h1.d x hx
 obtain ⟨b1, b2, _⟩ := h2.d y hy
 unfold sameDB noB
 rw [sameB_cfg a1 b1 a2 b2 (i1 _ (by rw [← h1.x]; exact List.mem_map_of_mem hx)) (i2 _ (by rw [← h2.x]; exact List.mem_map_of_mem hy)) hu, Bool.eq_iff_iff]
 simp only [Bool.and_eq_true, decide_eq_true_eq, cmpD_zero]
 constructor
 ·rintro ⟨⟨⟨⟨h1, h2⟩, h4⟩, h5⟩, h6⟩; exact ⟨h1, h2, h4, h5, h6⟩
 ·rintro ⟨h1, h2, h4, h5, h6⟩; exact ⟨⟨⟨⟨h1, h2⟩, h4⟩, h5⟩, h6⟩
theorem sameRg_no {u : Nat} {l m : List NoV} {ts ss : List RgV} {ds es : List (List Nat × Option Addr)} (h1 : RgG u l ts ds) (h2 : RgG u m ss es) : eqBy sameRg ts ss = eqBy (noB u) l m := by
 rw [← h1.x, ← h2.x]
 refine eqBy_map fun x hx y hy => ?_
 obtain ⟨a1, _⟩ := h1.d x hx
 obtain ⟨b1, _⟩ := h2.d y hy
 unfold sameRg noB
 rw [a1, b1, Bool.eq_iff_iff]
 simp only [Bool.and_eq_true, decide_eq_true_eq, beq_iff_eq, cmpP_zero]
 constructor
 ·rintro ⟨⟨⟨⟨h1, h3⟩, h4⟩, h5⟩, h6⟩; exact ⟨h3, h1, h4, h5, h6⟩
 ·rintro ⟨h3, h1, h4, h5, h6⟩; exact ⟨⟨⟨⟨h1, h3⟩, h4⟩, h5⟩, h6⟩
def ptK (u : Nat) (ts : List TkV) : Nat → List TkV
 | 0 => []
 | k + 1 => match ts[k]? with
  | none => ptK u ts k
  | some y => if (ptK u ts k).any (fun z => decide (thoseL z.x.q u = thoseL y.x.q u)) then ptK u ts k else ptK u ts k ++ [y]
theorem ptK_T {u : Nat} {ts : List TkV} {k : Nat} {y : TkV} (h : ts[k]? = some y) (hb : (ptK u ts k).any (fun z => decide (thoseL z.x.q u = thoseL y.x.q u)) = true) : ptK u ts (k + 1) = ptK u ts k := by
 rw [ptK, h]
 exact if_pos hb
theorem ptK_F {u : Nat} {ts : List TkV} {k : Nat} {y : TkV} (h : ts[k]? = some y) (hb : (ptK u ts k).any (fun z => decide (thoseL z.x.q u = thoseL y.x.q u)) = false) : ptK u ts (k + 1) = ptK u ts k ++ [y] := by
 rw [ptK, h]
 exact if_neg (by simp [hb])
theorem ptK_len (u : Nat) (ts : List TkV) : ∀ k, (ptK u ts k).length ≤ k ∧ ∀ z ∈ ptK u ts k, z ∈ ts
 | 0 => by simp [ptK]
 | k + 1 => by
  have ih := ptK_len u ts k
  cases hk : ts[k]? with
  | none =>
   have e : ptK u ts (k + 1) = ptK u ts k := by rw [ptK, hk]
   rw [e]
   exact ⟨by omega, ih.2⟩
  | some y =>
   cases hb : (ptK u ts k).any (fun z => decide (thoseL z.x.q u = thoseL y.x.q u)) with
   | true => rw [ptK_T hk hb]; exact ⟨by omega, ih.2⟩
   | false =>
    rw [ptK_F hk hb]
    refine ⟨by rw [List.length_append, List.length_singleton]; omega, fun z hz => ?_⟩
    rcases List.mem_append.1 hz with hz | hz
    ·exact ih.2 z hz
    ·rw [List.mem_singleton.1 hz]; exact List.mem_of_getElem? hk
theorem cnK_pt {u : Nat} (hu : u < 4294967296) {l : List ItV} {ts : List TkV} {ds : List DV} (h1 : TkG l ts ds) (i1 : ∀ y ∈ l, inU y.q u) : ∀ k, cnK ts k = (ptK u ts k).map (fun y => (y.d, y.da, y.dc))
 | 0 => rfl
 | k + 1 => by
  have ih := cnK_pt hu h1 i1 k
  cases hk : ts[k]? with
  | none =>
   have e : ptK u ts (k + 1) = ptK u ts k := by rw [ptK, hk]
   have e2 : cnK ts (k + 1) = cnK ts k := by rw [cnK, hk]
   rw [e, e2, ih]
  | some y =>
   have hy := List.mem_of_getElem? hk
   have key : (cnK ts k).any (fun z => sameB y.d z.1) = (ptK u ts k).any (fun z => decide (thoseL z.x.q u = thoseL y.x.q u)) := by
    rw [ih, List.any_map, Bool.eq_iff_iff, List.any_eq_true, List.any_eq_true]
    have one : ∀ z ∈ ptK u ts k, sameB y.d z.d = decide (thoseL z.x.q u = thoseL y.x.q u) := fun z hz => by
     have hz2 := (ptK_len u ts k).2 z hz
     obtain ⟨a1, a2, _⟩ := h1.d y hy
     obtain ⟨b1, b2, _⟩ := h1.d z hz2
     rw [sameB_cfg a1 b1 a2 b2 (i1 _ (by rw [← h1.x]; exact List.mem_map_of_mem hy)) (i1 _ (by rw [← h1.x]; exact List.mem_map_of_mem hz2)) hu]
     exact decide_eq_decide.2 eq_comm
    constructor
    ·rintro ⟨z, hz, h⟩; exact ⟨z, hz, by rw [← one z hz]; exact h⟩
    ·rintro ⟨z, hz, h⟩; exact ⟨z, hz, by (show sameB y.d z.d = true); rw [one z hz]; exact h⟩
   cases hb : (ptK u ts k).any (fun z => decide (thoseL z.x.q u = thoseL y.x.q u)) with
   | true => rw [ptK_T hk hb, cnK_T hk (key.trans hb), ih]
   | false => rw [ptK_F hk hb, cnK_F hk (key.trans hb), ih, List.map_append]; rfl
theorem alike_pt {u : Nat} (hu : u < 4294967296) {l : List ItV} {ts : List TkV} {ds : List DV} (h1 : TkG l ts ds) (i1 : ∀ y ∈ l, inU y.q u) {y : TkV} (hy : y ∈ ts) : alikeF y.d (thoseL y.x.q u) u = true := by
 obtain ⟨a1, a2, _⟩ := h1.d y hy
 rw [thoseL_F]
 exact alike_good a1 a2 (setF_dep (i1 _ (by rw [← h1.x]; exact List.mem_map_of_mem hy))) (by simpa using hu)
section
variable {w0 w : World} {C : List Chunk} {x : RwV} {m : MdV} {u i k : Nat}
theorem MdG.tm (hm : MdG u x i k m) {t : TkV} (ht : t ∈ m.ts) : t.x ∈ x.i := List.mem_of_mem_take (by rw [← hm.t.x]; exact List.mem_map_of_mem ht)
theorem MdG.rm (hm : MdG u x i k m) {t : RtV} (ht : t ∈ m.rs) : t.x ∈ x.i := List.mem_of_mem_take (by rw [← hm.r.x]; exact List.mem_map_of_mem ht)
theorem MdG.gm (hm : MdG u x i k m) {t : DgV} (ht : t ∈ m.gs) : t.x ∈ x.n := List.mem_of_mem_take (by rw [← hm.g.x]; exact List.mem_map_of_mem ht)
theorem MdG.hm (hm : MdG u x i k m) {t : RgV} (ht : t ∈ m.hs) : t.x ∈ x.n := List.mem_of_mem_take (by rw [← hm.h.x]; exact List.mem_map_of_mem ht)
theorem thoseL_len {q : List QB} {u : Nat} : (thoseL q u).length ≤ 4294967296 := Nat.le_trans (List.length_filter_le _ _) (cfgs_len u)
theorem MdG.tsR (hm : MdG u x i k m) (hx : RwR w0 x) (hp : ∀ y ∈ x.i, y.p.length ≤ 1000000000) (hS : St w0 [] C w) (h1 : mdT m ∈ C) (h2 : dsC m.F m.ds ∈ C) : TsR w m.ts m.ta :=
 ⟨RdSl.of_row (fun _ _ => rfl) (fun h => h) (Nat.le_refl _) (hS.ok _ h1), fun t ht => ⟨(hx.io _ (hm.tm ht)).p.next hS, hp _ (hm.tm ht)⟩, fun t ht => dsC_rd (hS.ok _ h2) (hm.t.d t ht).2.2⟩
theorem MdG.dsR (hm : MdG u x i k m) (hx : RwR w0 x) (hp : ∀ y ∈ x.n, y.p.length ≤ 1000000000) (hS : St w0 [] C w) (h1 : mdD m ∈ C) (h2 : dsC m.F m.ds ∈ C) : DsR w m.gs m.ga :=
 ⟨RdSl.of_row (fun _ _ => rfl) (fun h => h) (Nat.le_refl _) (hS.ok _ h1), fun t ht => ⟨(hx.no _ (hm.gm ht)).p.next hS, hp _ (hm.gm ht)⟩, fun t ht => dsC_rd (hS.ok _ h2) (hm.g.d t ht).2.2⟩
theorem MdG.rsR (hm : MdG u x i k m) (hx : RwR w0 x) (hp : ∀ y ∈ x.i, y.p.length ≤ 1000000000) (hS : St w0 [] C w) (h1 : mdR m ∈ C) (h2 : insC m.G m.cs ∈ C) : RsR w m.rs m.ra :=
 ⟨RdSl.of_row (fun _ _ => rfl) (fun h => h) (Nat.le_refl _) (hS.ok _ h1), fun t ht => ⟨(hx.io _ (hm.rm ht)).p.next hS, hp _ (hm.rm ht)⟩, fun t ht => ⟨insC_rd (hS.ok _ h2) (hm.r.d t ht).2, by rw [(hm.r.d t ht).1]; exact Nat.le_trans thoseL_len (by decide)⟩⟩
theorem MdG.hsR (hm : MdG u x i k m) (hx : RwR w0 x) (hp : ∀ y ∈ x.n, y.p.length ≤ 1000000000) (hS : St w0 [] C w) (h1 : mdH m ∈ C) (h2 : insC m.G m.cs ∈ C) : HsR w m.hs m.ha :=
 ⟨RdSl.of_row (fun _ _ => rfl) (fun h => h) (Nat.le_refl _) (hS.ok _ h1), fun t ht => ⟨(hx.no _ (hm.hm ht)).p.next hS, hp _ (hm.hm ht)⟩, fun t ht => ⟨insC_rd (hS.ok _ h2) (hm.h.d t ht).2, by rw [(hm.h.d t ht).1]; exact Nat.le_trans thoseL_len (by decide)⟩⟩
end
end Go.Proofs.YtndpdhamadiopaaGreatDoor
namespace Fm
open Go
def splitC (c : UInt8) : List UInt8 → List (List UInt8)
 | [] => [[]]
 | x :: xs => if x = c then [] :: splitC c xs else match splitC c xs with
  | [] => [[x]]
  | p :: ps => (x :: p) :: ps
def splitOn (c : UInt8) (cur : List UInt8) (l : List UInt8) : List (List UInt8) := match splitC c l with
 | [] => [cur]
 | p :: ps => (cur ++ p) :: ps
def digV (l : List UInt8) : Nat := l.foldl (fun n c => 10 * n + (c.toNat - 48)) 0
theorem digV_snoc (l : List UInt8) (c : UInt8) : digV (l ++ [c]) = 10 * digV l + (c.toNat - 48) := by simp [digV]
def valD (s : List UInt8) : Int := if s.head? = some 45 then -(digV s.tail : Int) else (digV s : Int)
theorem u8_dig {d : Nat} (h : d < 10) : (UInt8.ofNat (48 + d)).toNat = 48 + d := by
 rw [UInt8.toNat_ofNat']; omega
theorem dec_ok : ∀ (k u : Nat), u < k → digV (Lib.decDigits u) = u ∧ (∀ c ∈ Lib.decDigits u, 48 ≤ c.toNat ∧ c.toNat ≤ 57) ∧ Lib.decDigits u ≠ []
 | 0, u, h => by omega
 | k + 1, u, h => by
  by_cases h1 : u < 10
  ·have hd := u8_dig h1
   rw [Lib.decDigits, dif_pos h1]
   refine ⟨by simp only [digV, List.foldl_cons, List.foldl_nil, hd]; omega, fun c hc => ?_, by simp⟩
   rw [List.mem_singleton.1 hc, hd]; omega
  ·have hd := u8_dig (Nat.mod_lt u (show 0 < 10 by decide))
   obtain ⟨e1, e2, e3⟩ := dec_ok k (u / 10) (by omega)
   rw [Lib.decDigits, dif_neg h1]
   refine ⟨by rw [digV_snoc, e1, hd]; omega, fun c hc => ?_, by simp⟩
   rcases List.mem_append.1 hc with hc | hc
   ·exact e2 c hc
   ·rw [List.mem_singleton.1 hc, hd]; omega
theorem dec_ne (u : Nat) : Lib.decDigits u ≠ [] := (dec_ok (u + 1) u (by omega)).2.2
theorem itoa_cases (x : Int) : (x < 0 ∧ Lib.itoa x = 45 :: Lib.decDigits x.natAbs) ∨ (0 ≤ x ∧ Lib.itoa x = Lib.decDigits x.natAbs) := by
 unfold Lib.itoa
 by_cases h : x < 0
 ·exact .inl ⟨h, if_pos h⟩
 ·refine .inr ⟨by omega, ?_⟩
  rw [if_neg h, show x.toNat = x.natAbs by omega]
def isNum (s : List UInt8) : Bool := decide (Lib.itoa (valD s) = s) && decide ((valD s).natAbs < 1000000000)
def unsign (s : List UInt8) : List UInt8 := if s.head? = some 45 then s.tail else s
end Fm
namespace Fm
open Go
def isLet (c : UInt8) : Bool := (decide (97 ≤ c.toNat) && decide (c.toNat ≤ 122)) || (decide (65 ≤ c.toNat) && decide (c.toNat ≤ 90))
def isDig (c : UInt8) : Bool := decide (48 ≤ c.toNat) && decide (c.toNat ≤ 57)
def isPrt (c : UInt8) : Bool := isLet c || isDig c || decide (c = 95)
def isBlk (c : UInt8) : Bool := decide (c = 32) || decide (c = 9)
def okC (c : UInt8) : Bool := decide (c = 9) || (decide (32 ≤ c.toNat) && decide (c.toNat ≤ 126))
def runP (s : List UInt8) : List UInt8 := s.takeWhile isPrt
def namB (s : List UInt8) : Bool := match s with
 | [] => false
 | c :: _ => decide (s.length ≤ 32) && !isDig c && s.all isPrt
def numB (s : List UInt8) : Bool := decide (Lib.itoa (digV s : Int) = s) && decide (digV s ≤ 2147483647)
def signs2 : List (List UInt8) := [[60, 61], [62, 61], [61, 61], [33, 61], [38, 38], [124, 124]]
def signs1 : List UInt8 := [43, 45, 42, 47, 37, 60, 62, 61, 33, 40, 41, 123, 125, 44, 59, 58]
def signsL : List (List UInt8) := signs2 ++ signs1.map fun c => [c]
def signF (s : List UInt8) : Option (List UInt8) := signsL.find? fun x => x.isPrefixOf s
def tok1 (s : List UInt8) : Option (Nat × List UInt8) :=
 if namB (runP s) then some (1, runP s) else if numB (runP s) then some (2, runP s) else (signF s).map fun x => (3, x)
def cmt (s : List UInt8) : Bool := ([47, 47] : List UInt8).isPrefixOf s
def toksN : Nat → List UInt8 → Option (List (Nat × List UInt8))
 | 0, _ => some []
 | _ + 1, [] => some []
 | n + 1, c :: r => if isBlk c then toksN n r else if cmt (c :: r) then some [] else match tok1 (c :: r) with
  | none => none
  | some t => match toksN n ((c :: r).drop t.2.length) with
   | none => none
   | some l => some (t :: l)
def toksL (s : List UInt8) : Option (List (Nat × List UInt8)) := if s.all okC then toksN s.length s else none
theorem runP_pre (s : List UInt8) : runP s <+: s := List.takeWhile_prefix _
theorem namB_ne {s : List UInt8} (h : namB s = true) : s ≠ [] := by rintro rfl; cases h
theorem numB_ne {s : List UInt8} (h : numB s = true) : s ≠ [] := by
 rintro rfl
 unfold numB at h
 rw [Bool.and_eq_true, decide_eq_true_eq] at h
 have h1 := h.1
 rcases itoa_cases (digV [] : Int) with ⟨h2, _⟩ | ⟨_, e⟩
 ·omega
 ·rw [e] at h1
  exact dec_ne _ h1
theorem signF_mem {s x : List UInt8} (h : signF s = some x) : x ∈ signsL ∧ x <+: s := by
 unfold signF at h
 refine ⟨List.mem_of_find?_eq_some h, ?_⟩
 have := List.find?_some h
 exact List.isPrefixOf_iff_prefix.1 this
theorem signsL_ne : ∀ x ∈ signsL, x ≠ [] ∧ x.length ≤ 2 := by decide
theorem tok1_pre {s : List UInt8} {t : Nat × List UInt8} (h : tok1 s = some t) : t.2 <+: s ∧ t.2 ≠ [] := by
 unfold tok1 at h
 split at h
 ·rename_i h1
  cases h
  exact ⟨runP_pre s, namB_ne h1⟩
 ·split at h
  ·rename_i h1
   cases h
   exact ⟨runP_pre s, numB_ne h1⟩
  ·cases hs : signF s with
   | none => rw [hs] at h; cases h
   | some x =>
    rw [hs] at h
    cases h
    obtain ⟨h1, h2⟩ := signF_mem hs
    exact ⟨h2, (signsL_ne x h1).1⟩
theorem tok1_len {s : List UInt8} {t : Nat × List UInt8} (h : tok1 s = some t) : 1 ≤ t.2.length ∧ t.2.length ≤ s.length := by
 obtain ⟨h1, h2⟩ := tok1_pre h
 exact ⟨List.length_pos_iff.2 h2, h1.length_le⟩
theorem toksN_more : ∀ {n m : Nat} {s : List UInt8}, s.length ≤ n → s.length ≤ m → toksN n s = toksN m s
 | 0, 0, _, _, _ => rfl
 | 0, m + 1, s, h, _ => by
  have : s = [] := List.length_eq_zero_iff.1 (by omega)
  subst this; rfl
 | n + 1, 0, s, _, h => by
  have : s = [] := List.length_eq_zero_iff.1 (by omega)
  subst this; rfl
 | n + 1, m + 1, [], _, _ => rfl
 | n + 1, m + 1, c :: r, h1, h2 => by
  simp only [List.length_cons] at h1 h2
  unfold toksN
  rw [toksN_more (n := n) (m := m) (s := r) (by omega) (by omega)]
  split
  ·rfl
  ·split
   ·rfl
   ·cases ht : tok1 (c :: r) with
    | none => rfl
    | some t =>
     have := tok1_len ht
     have hd : ((c :: r).drop t.2.length).length ≤ r.length := by rw [List.length_drop]; simp only [List.length_cons]; omega
     dsimp only
     rw [toksN_more (n := n) (m := m) (by omega) (by omega)]
theorem toksN_cmt {n : Nat} {c : UInt8} {r : List UInt8} (h : isBlk c = false) (hc : cmt (c :: r) = true) : toksN n (c :: r) = some [] := by
 cases n with
 | zero => rfl
 | succ n => rw [toksN, if_neg (by rw [h]; simp), if_pos hc]
theorem toksN_bad {n : Nat} {c : UInt8} {r : List UInt8} (hn : (c :: r).length ≤ n) (h : isBlk c = false) (hc : cmt (c :: r) = false) (ht : tok1 (c :: r) = none) : toksN n (c :: r) = none := by
 obtain ⟨k, rfl⟩ : ∃ k, n = k + 1 := ⟨n - 1, by simp only [List.length_cons] at hn; omega⟩
 rw [toksN, if_neg (by rw [h]; simp), if_neg (by rw [hc]; simp), ht]
theorem toksN_tok {n : Nat} {c : UInt8} {r : List UInt8} {t : Nat × List UInt8} (hn : (c :: r).length ≤ n) (h : isBlk c = false) (hc : cmt (c :: r) = false) (ht : tok1 (c :: r) = some t) : toksN n (c :: r) = (toksN n ((c :: r).drop t.2.length)).map (t :: ·) := by
 obtain ⟨k, rfl⟩ : ∃ k, n = k + 1 := ⟨n - 1, by simp only [List.length_cons] at hn; omega⟩
 simp only [List.length_cons] at hn
 have h1 := tok1_len ht
 have hd : ((c :: r).drop t.2.length).length ≤ k := by rw [List.length_drop]; simp only [List.length_cons]; omega
 rw [toksN, if_neg (by rw [h]; simp), if_neg (by rw [hc]; simp), ht]
 dsimp only
 rw [toksN_more (n := k) (m := k + 1) hd (by omega)]
 cases toksN (k + 1) ((c :: r).drop t.2.length) <;> rfl
def Lexd (s : List UInt8) (i : Nat) (out : List (Nat × List UInt8)) : Prop := toksN s.length s = (toksN s.length (s.drop i)).map (out ++ ·)
theorem Lexd.zero (s : List UInt8) : Lexd s 0 [] := by
 unfold Lexd
 rw [List.drop_zero]
 cases toksN s.length s <;> simp
theorem Lexd.stop {s : List UInt8} {i : Nat} {out : List (Nat × List UInt8)} (h : Lexd s i out) (hi : s.length ≤ i) : toksN s.length s = some out := by
 unfold Lexd at h
 rw [h, List.drop_eq_nil_of_le hi]
 cases hn : s.length with
 | zero => simp [toksN]
 | succ n => simp [toksN]
theorem drop_at {s : List UInt8} {i : Nat} {c : UInt8} (hc : s[i]? = some c) : s.drop i = c :: s.drop (i + 1) := by
 have hlt : i < s.length := (List.getElem?_eq_some_iff.1 hc).1
 rw [List.drop_eq_getElem_cons hlt]
 congr 1
 exact (List.getElem?_eq_some_iff.1 hc).2
theorem Lexd.cmt {s : List UInt8} {i : Nat} {out : List (Nat × List UInt8)} (h : Lexd s i out) {c : UInt8} (hc : s[i]? = some c) (hb : isBlk c = false) (hm : cmt (s.drop i) = true) : toksN s.length s = some out := by
 have e := drop_at hc
 unfold Lexd at h
 rw [e] at h hm
 rw [h, toksN_cmt hb hm]
 simp
theorem Lexd.bad {s : List UInt8} {i : Nat} {out : List (Nat × List UInt8)} (h : Lexd s i out) {c : UInt8} (hc : s[i]? = some c) (hb : isBlk c = false) (hm : Fm.cmt (s.drop i) = false) (ht : tok1 (s.drop i) = none) : toksN s.length s = none := by
 have e := drop_at hc
 have hl : (s.drop i).length ≤ s.length := by rw [List.length_drop]; omega
 unfold Lexd at h
 rw [e] at h hm ht hl
 rw [h, toksN_bad hl hb hm ht]
 rfl
theorem Lexd.tok {s : List UInt8} {i : Nat} {out : List (Nat × List UInt8)} (h : Lexd s i out) {c : UInt8} (hc : s[i]? = some c) (hb : isBlk c = false) (hm : Fm.cmt (s.drop i) = false) {t : Nat × List UInt8} (ht : tok1 (s.drop i) = some t) : Lexd s (i + t.2.length) (out ++ [t]) := by
 have e := drop_at hc
 have hl : (s.drop i).length ≤ s.length := by rw [List.length_drop]; omega
 unfold Lexd at h ⊢
 have e2 : s.drop (i + t.2.length) = (s.drop i).drop t.2.length := by rw [List.drop_drop]
 rw [e2]
 rw [e] at h hm ht hl ⊢
 rw [h, toksN_tok hl hb hm ht]
 cases toksN s.length ((c :: s.drop (i + 1)).drop t.2.length) <;> simp
end Fm
namespace Go.Proofs.YtndpdhamadiopaaGreatDoor
open Go Go.Eng Go.Proofs
open Fm
open Go Go.Eng Go.Proofs
open Fm
def namBad (l : List UInt8) : Bool := match l with
 | [] => true
 | c :: _ => decide (32 < l.length) || isDig c
end Go.Proofs.YtndpdhamadiopaaGreatDoor
namespace Fm
open Go
def numBad (s : List UInt8) : Bool := decide (s.length < 1) || decide (10 < s.length) || (decide (1 < s.length) && decide (s.head? = some 48))
end Fm
namespace Go.Proofs
open Go.Shelf
def Tryz.laysM171_ren : Go.Shelf.Ren := ⟨fun | 171 => 272 | 243 => 284 | 246 => 312 | 283 => 323 | 284 => 324 | 285 => 325 | 286 => 326 | 129 => 159 | 317 => 329 | 318 => 330 | 319 => 331 | 320 => 332 | 337 => 333 | 338 => 334 | n => n, fun | 3 => 3 | 9 => 9 | 2 => 2 | 4 => 4 | 171 => 440 | 0 => 0 | 53 => 270 | 37 => 147 | 5 => 5 | 173 => 442 | 212 => 449 | 51 => 24 | 20 => 20 | 213 => 450 | 46 => 215 | 232 => 451 | 233 => 452 | n => n, fun | 17 => 6 | 18 => 7 | 19 => 8 | n => n⟩
def Tryz.laysC172_ren : Go.Shelf.Ren := ⟨fun | 172 => 271 | 244 => 282 | 245 => 283 | 247 => 307 | 279 => 308 | 280 => 309 | 281 => 310 | 282 => 311 | 287 => 320 | 316 => 321 | 171 => 272 | 205 => 322 | 321 => 327 | 322 => 328 | 243 => 284 | 246 => 312 | 283 => 323 | 284 => 324 | 285 => 325 | 286 => 326 | 129 => 159 | 317 => 329 | 318 => 330 | 319 => 331 | 320 => 332 | 337 => 333 | 338 => 334 | n => n, fun | 9 => 9 | 3 => 3 | 75 => 151 | 76 => 152 | 4 => 4 | 5 => 5 | 167 => 421 | 37 => 147 | 0 => 0 | 85 => 422 | 2 => 2 | 168 => 424 | 53 => 270 | 175 => 435 | 46 => 215 | 210 => 438 | 127 => 207 | 145 => 447 | 143 => 445 | 21 => 21 | 171 => 440 | 173 => 442 | 212 => 449 | 51 => 24 | 20 => 20 | 213 => 450 | 232 => 451 | 233 => 452 | 80 => 155 | n => n, fun | 15 => 4 | 16 => 5 | 17 => 6 | 18 => 7 | 19 => 8 | n => n⟩
theorem Tryz.laysC172 : Go.Proofs.LaysC.n172 Tryz.prog Tryz.laysC172_ren := {
 mixed := by kernel_rfl
 f129 := Tryz.func159.trans (congrArg some (by kernel_rfl))
 f171 := Tryz.func272.trans (congrArg some (by kernel_rfl))
 f172 := Tryz.func271.trans (congrArg some (by kernel_rfl))
 f205 := Tryz.func322.trans (congrArg some (by kernel_rfl))
 f243 := Tryz.func284.trans (congrArg some (by kernel_rfl))
 f244 := Tryz.func282.trans (congrArg some (by kernel_rfl))
 f245 := Tryz.func283.trans (congrArg some (by kernel_rfl))
 f246 := Tryz.func312.trans (congrArg some (by kernel_rfl))
 f247 := Tryz.func307.trans (congrArg some (by kernel_rfl))
 f279 := Tryz.func308.trans (congrArg some (by kernel_rfl))
 f280 := Tryz.func309.trans (congrArg some (by kernel_rfl))
 f281 := Tryz.func310.trans (congrArg some (by kernel_rfl))
 f282 := Tryz.func311.trans (congrArg some (by kernel_rfl))
 f283 := Tryz.func323.trans (congrArg some (by kernel_rfl))
 f284 := Tryz.func324.trans (congrArg some (by kernel_rfl))
 f285 := Tryz.func325.trans (congrArg some (by kernel_rfl))
 f286 := Tryz.func326.trans (congrArg some (by kernel_rfl))
 f287 := Tryz.func320.trans (congrArg some (by kernel_rfl))
 f316 := Tryz.func321.trans (congrArg some (by kernel_rfl))
 f317 := Tryz.func329.trans (congrArg some (by kernel_rfl))
 f318 := Tryz.func330.trans (congrArg some (by kernel_rfl))
 f319 := Tryz.func331.trans (congrArg some (by kernel_rfl))
 f320 := Tryz.func332.trans (congrArg some (by kernel_rfl))
 f321 := Tryz.func327.trans (congrArg some (by kernel_rfl))
 f322 := Tryz.func328.trans (congrArg some (by kernel_rfl))
 f337 := Tryz.func333.trans (congrArg some (by kernel_rfl))
 f338 := Tryz.func334.trans (congrArg some (by kernel_rfl))
 t0 := Tryz.underlying0
 a0 := Tryz.isAgg0
 z0 := Tryz.sizeOf0
 v0 := Tryz.zeroValue0
 t2 := Tryz.underlying2
 a2 := Tryz.isAgg2
 z2 := Tryz.sizeOf2
 v2 := Tryz.zeroValue2
 t3 := Tryz.underlying3
 a3 := Tryz.isAgg3
 z3 := Tryz.sizeOf3
 v3 := Tryz.zeroValue3
 t4 := Tryz.underlying4
 a4 := Tryz.isAgg4
 z4 := Tryz.sizeOf4
 v4 := Tryz.zeroValue4
 t5 := Tryz.underlying5
 a5 := Tryz.isAgg5
 z5 := Tryz.sizeOf5
 v5 := Tryz.zeroValue5
 t9 := Tryz.underlying9
 a9 := Tryz.isAgg9
 z9 := Tryz.sizeOf9
 v9 := Tryz.zeroValue9
 t20 := Tryz.underlying20
 a20 := Tryz.isAgg20
 z20 := Tryz.sizeOf20
 v20 := Tryz.zeroValue20
 t21 := Tryz.underlying21
 a21 := Tryz.isAgg21
 z21 := Tryz.sizeOf21
 v21 := Tryz.zeroValue21
 t37 := Tryz.underlying147
 a37 := Tryz.isAgg147
 z37 := Tryz.sizeOf147
 v37 := Tryz.zeroValue147
 t46 := Tryz.underlying215
 a46 := Tryz.isAgg215
 z46 := Tryz.sizeOf215
 v46 := Tryz.zeroValue215
 t51 := Tryz.underlying24
 a51 := Tryz.isAgg24
 z51 := Tryz.sizeOf24
 v51 := Tryz.zeroValue24
 t53 := Tryz.underlying270
 a53 := Tryz.isAgg270
 z53 := Tryz.sizeOf270
 v53 := Tryz.zeroValue270
 t75 := Tryz.underlying151
 a75 := Tryz.isAgg151
 z75 := Tryz.sizeOf151
 v75 := Tryz.zeroValue151
 t76 := Tryz.underlying152
 a76 := Tryz.isAgg152
 z76 := Tryz.sizeOf152
 v76 := Tryz.zeroValue152
 t85 := Tryz.underlying422
 a85 := Tryz.isAgg422
 z85 := Tryz.sizeOf422
 v85 := Tryz.zeroValue422
 t127 := Tryz.underlying207
 a127 := Tryz.isAgg207
 z127 := Tryz.sizeOf207
 v127 := Tryz.zeroValue207
 t143 := Tryz.underlying445
 a143 := Tryz.isAgg445
 z143 := Tryz.sizeOf445
 v143 := Tryz.zeroValue445
 t145 := Tryz.underlying447
 a145 := Tryz.isAgg447
 z145 := Tryz.sizeOf447
 v145 := Tryz.zeroValue447
 t167 := Tryz.underlying421
 a167 := Tryz.isAgg421
 z167 := Tryz.sizeOf421
 v167 := Tryz.zeroValue421
 t168 := Tryz.underlying424
 a168 := Tryz.isAgg424
 z168 := Tryz.sizeOf424
 v168 := Tryz.zeroValue424
 t171 := Tryz.underlying440
 a171 := Tryz.isAgg440
 z171 := Tryz.sizeOf440
 v171 := Tryz.zeroValue440
 t173 := Tryz.underlying442
 a173 := Tryz.isAgg442
 z173 := Tryz.sizeOf442
 v173 := Tryz.zeroValue442
 t175 := Tryz.underlying435
 a175 := Tryz.isAgg435
 z175 := Tryz.sizeOf435
 v175 := Tryz.zeroValue435
 t210 := Tryz.underlying438
 a210 := Tryz.isAgg438
 z210 := Tryz.sizeOf438
 v210 := Tryz.zeroValue438
 t212 := Tryz.underlying449
 a212 := Tryz.isAgg449
 z212 := Tryz.sizeOf449
 v212 := Tryz.zeroValue449
 t213 := Tryz.underlying450
 a213 := Tryz.isAgg450
 z213 := Tryz.sizeOf450
 t232 := Tryz.underlying451
 a232 := Tryz.isAgg451
 z232 := Tryz.sizeOf451
 v232 := Tryz.zeroValue451
 t233 := Tryz.underlying452
 a233 := Tryz.isAgg452
 z233 := Tryz.sizeOf452
 v233 := Tryz.zeroValue452
 g15 := by kernel_rfl
 g16 := by kernel_rfl
 g17 := by kernel_rfl
 g18 := by kernel_rfl
 g19 := by kernel_rfl
 t80 := Tryz.underlying155
 a80 := Tryz.isAgg155
 z80 := Tryz.sizeOf155
 v80 := Tryz.zeroValue155
 i0 := by kernel_rfl
 i2 := by kernel_rfl
 i3 := by kernel_rfl
 i4 := by kernel_rfl
 i5 := by kernel_rfl
 i9 := by kernel_rfl
 i20 := by kernel_rfl
 i21 := by kernel_rfl
 i37 := by kernel_rfl
 i46 := by kernel_rfl
 i51 := by kernel_rfl
 i53 := by kernel_rfl
 i75 := by kernel_rfl
 i76 := by kernel_rfl
 i80 := by kernel_rfl
 i85 := by kernel_rfl
 i127 := by kernel_rfl
 i143 := by kernel_rfl
 i145 := by kernel_rfl
 i167 := by kernel_rfl
 i168 := by kernel_rfl
 i171 := by kernel_rfl
 i173 := by kernel_rfl
 i175 := by kernel_rfl
 i210 := by kernel_rfl
 i212 := by kernel_rfl
 i232 := by kernel_rfl
 i233 := by kernel_rfl
 m15 := by kernel_rfl
 m16 := by kernel_rfl
 m17 := by kernel_rfl
 m18 := by kernel_rfl
 m19 := by kernel_rfl
 c0 := by kernel_rfl
 c2 := by kernel_rfl
 c3 := by kernel_rfl
 c4 := by kernel_rfl
 c5 := by kernel_rfl
 c9 := by kernel_rfl
 c20 := by kernel_rfl
 c21 := by kernel_rfl
 c37 := by kernel_rfl
 c46 := by kernel_rfl
 c51 := by kernel_rfl
 c53 := by kernel_rfl
 c75 := by kernel_rfl
 c76 := by kernel_rfl
 c80 := by kernel_rfl
 c85 := by kernel_rfl
 c127 := by kernel_rfl
 c143 := by kernel_rfl
 c145 := by kernel_rfl
 c167 := by kernel_rfl
 c168 := by kernel_rfl
 c171 := by kernel_rfl
 c173 := by kernel_rfl
 c175 := by kernel_rfl
 c210 := by kernel_rfl
 c212 := by kernel_rfl
 c213 := by kernel_rfl
 c232 := by kernel_rfl
 c233 := by kernel_rfl }
open Go.RowKit in
theorem Tryz.strconv_Atoi_ok (s : ByteArray) (hmax : s.size ≤ 9223372036854775806) (v : Int) (h : Lib.atoiAll s.data.toList = .ok v) (w : World) :
  Calls Tryz.prog 271 #[.string s] w fun e w' => e = .returned (.tuple #[.int .i64 v, .nilIface]) ∧ (w' = w ∨ ∃ t, w' = Lib.bytesWorld w 5 t) := Any.strconv_Atoi_ok Tryz.laysC172 s hmax v h w
open Go.RowKit in
theorem Tryz.strconv_Atoi_syntax (s : ByteArray) (hlim : s.size ≤ 281474976710656) (h : Lib.atoiAll s.data.toList = Lib.NumEnd.syntax) (ev : Value) (w : World) (hv : w.cell? ⟨4, 0, none⟩ = some ev) (hev : ev = .nilIface ∨ ∃ te pe, ev = .iface te pe) :
  Calls Tryz.prog 271 #[.string s] w fun e w' => ∃ N, e = .returned (.tuple #[.int .i64 (0), .iface 424 (.pointer (some ⟨N, 0, none⟩))]) ∧ w.heap.size ≤ N ∧ w'.heap[N]? = some (.cells #[.string ⟨#[65, 116, 111, 105]⟩, .string s, ev] 438 (0, 0)) ∧ Below w.heap.size w w' := Any.strconv_Atoi_syntax Tryz.laysC172 s hlim h ev w hv hev
open Go.RowKit in
theorem Tryz.strconv_Atoi_range (s : ByteArray) (hlim : s.size ≤ 281474976710656) (h : Lib.atoiAll s.data.toList = .range) (ev : Value) (w : World) (hv : w.cell? ⟨5, 0, none⟩ = some ev) (hev : ev = .nilIface ∨ ∃ te pe, ev = .iface te pe) :
  Calls Tryz.prog 271 #[.string s] w fun e w' => ∃ N, e = .returned (.tuple #[.int .i64 (Lib.atoiSat s.data.toList), .iface 424 (.pointer (some ⟨N, 0, none⟩))]) ∧ w.heap.size ≤ N ∧ w'.heap[N]? = some (.cells #[.string ⟨#[65, 116, 111, 105]⟩, .string s, ev] 438 (0, 0)) ∧ Below w.heap.size w w' := Any.strconv_Atoi_range Tryz.laysC172 s hlim h ev w hv hev
end Go.Proofs
namespace Go.Proofs.YtndpdhamadiopaaGreatDoor
open Go Go.Eng Go.Proofs Go.RowKit Fm
def Tab (w : World) : Prop := Lib.TabIs Tryz.prog w "internal/strconv.uint64pow10" .u64 Lib.pow10Tab
theorem Tab.next {w0 w : World} {C : List Chunk} (h : Tab w0) (hS : St w0 [] C w) : Tab w := by
 unfold Tab Lib.TabIs World.var? at h ⊢
 cases hg : Tryz.prog.globalNamed "internal/strconv.uint64pow10" with
 | none => rw [hg] at h; cases h
 | some g =>
  rw [hg] at h
  simp only [Option.bind_some] at h ⊢
  have hlt : g < w0.heap.size := by
   rcases Nat.lt_or_ge g w0.heap.size with hl | hl
   ·exact hl
   ·rw [Array.getElem?_eq_none hl] at h; cases h
  rw [hS.old g hlt (by simp)]
  exact h
structure LibW (w : World) : Prop where
 tab : Tab w
 es : ∃ ev, w.cell? ⟨4, 0, none⟩ = some ev ∧ (ev = .nilIface ∨ ∃ te pe, ev = .iface te pe)
 er : ∃ ev, w.cell? ⟨5, 0, none⟩ = some ev ∧ (ev = .nilIface ∨ ∃ te pe, ev = .iface te pe)
theorem LibW.next {w0 w : World} {C : List Chunk} (h : LibW w0) (hS : St w0 [] C w) : LibW w := by
 obtain ⟨e1, h1, h1'⟩ := h.es
 obtain ⟨e2, h2, h2'⟩ := h.er
 exact ⟨h.tab.next hS, ⟨e1, hS.oldc h1 (by simp), h1'⟩, ⟨e2, hS.oldc h2 (by simp), h2'⟩⟩
def AtoiIs (s : List UInt8) (v : Int) (er : Value) : Prop := (er = .nilIface ∧ Lib.atoiAll s = .ok v) ∨ ((∃ t p, er = .iface t p) ∧ ∀ x, Lib.atoiAll s ≠ .ok x)
open Go Go.Eng Go.Proofs
open Fm
def namF (s : List UInt8) : Option (Nat × List UInt8) := if namB (runP s) then some (1, runP s) else none
def numF (s : List UInt8) : Option (Nat × List UInt8) := if numB (runP s) then some (2, runP s) else none
def sgnF (s : List UInt8) : Option (Nat × List UInt8) := (signF s).map fun x => (3, x)
abbrev kt (o : Option (Nat × List UInt8)) : Value := match o with
 | some t => .tuple #[.int .u8 (t.1 : Int), .string (str t.2)]
 | none => .tuple #[.int .u8 0, .string (str [])]
open Go Go.Eng Go.Proofs
open Fm
def sgV : List Value := signsL.map fun x => Value.string (str x)
def SgW (w : World) : Prop := ∀ j v, sgV[j]? = some v → w.cell? ⟨0, j, none⟩ = some v
theorem SgW.next {w0 w : World} {C : List Chunk} (h : SgW w0) (hS : St w0 [] C w) : SgW w := fun j v hv => hS.oldc (h j v hv) (by simp)
end Go.Proofs.YtndpdhamadiopaaGreatDoor
