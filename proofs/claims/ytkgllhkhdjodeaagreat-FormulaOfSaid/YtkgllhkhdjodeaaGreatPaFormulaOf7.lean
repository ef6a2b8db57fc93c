/- Parts of the walk, put together by a program. By an AI agent. -/
import Derived.Test.YtkgllhkhdjodeaaGreatPaFormulaOf6
set_option linter.unusedSimpArgs false
set_option linter.unusedVariables false
namespace Go.Proofs.YtkgllhkhdjodeaaGreat
open Go Go.Eng Go.Proofs Dg
theorem rLinear_s (l : List Int) (rel : Nat) (bound : Int) (hll : l.length ≤ 1099511627776) (a : Option Addr) (c : Nat) (L : List RowV) (w : World) (hr : RdC w l a) :
  Calls Tryz.prog 121 [.slice a l.length c,.int .u8 (rel : Int),.int .i64 bound].toArray w (SaidP L (fun z => RelS z (fun cf => costsB l && (decide (1 ≤ rel ∧ rel ≤ 3) && relB rel (tailN l cf 24) bound))) w) := by
 by_cases h : costsB l = true ∧ 1 ≤ rel ∧ rel ≤ 3
 ·obtain ⟨h1,h2⟩ := h
  have h24 : l.length ≤ 24 := by
   have := h1
   unfold costsB at this
   rw [Bool.and_eq_true,decide_eq_true_eq] at this
   exact this.2
  refine (rLinear_ok l rel bound h1 h2 a c w hr).mono ?_
  rintro e w' ⟨y,rfl,hS⟩
  have hS2 : SPost L (fun z => z.v = nzL l l.length ∧ ∀ M,z.has M = relB rel (costN l (confN z.v (hasN z.v M)) l.length) bound) w (.returned (.agg [.slice y.va (nzL l l.length).length y.vc,.slice (some ⟨y.b,0,none⟩) (2 ^ (nzL l l.length).length) (2 ^ (nzL l l.length).length)].toArray)) w' :=
   SPost.two (v := nzL l l.length) ⟨nzL_sorted _ _,fun x hx => Nat.lt_of_lt_of_le (nzL_lt hx) h24,Nat.le_trans (nzL_len _ _) h24,tabN_len _ _ _⟩ (tabN_len _ _ _) rfl ⟨rfl,fun M => SV.has_tab _ M⟩ hS
  obtain ⟨z,F,M,g1,⟨g2,g3⟩,g4,g5,g6⟩ := hS2
  refine ⟨z,F,M,0,g1,rel_linear h1 h2 g2 g3,g4,?_,g6⟩
  injection g5 with g5
  rw [g5]
 have hbad : costsB l = false ∨ rel < 1 ∨ 3 < rel := by
  cases hq : costsB l with
  | false => exact .inl rfl
  | true =>
   rw [hq] at h
   simp at h
   omega
 have hf : (fun cf : Cf => costsB l && (decide (1 ≤ rel ∧ rel ≤ 3) && relB rel (tailN l cf 24) bound)) = fun _ => false := by
  funext cf
  rcases hbad with h1 | h1
  ·rw [h1]; rfl
  ·rw [decide_eq_false (by omega),Bool.false_and,Bool.and_false]
 rw [hf]
 refine (rLinear_bad l rel bound hbad hll a c w hr).mono ?_
 rintro e w' ⟨b,rfl,hS⟩
 have hS2 : St w [] [rowc (.slice none 0 0) 0 3 1 (nums []),rowc (.slice (some ⟨b,0,none⟩) 1 1) 1 4 1 (bls [false])] w' := hS.rowNil _ _
 have hS3 : SPost L (fun z => ∀ M,z.has M = false) w (.returned (.agg [.slice none 0 0,.slice (some ⟨b,0,none⟩) 1 1].toArray)) w' := SPost.two (v := []) ⟨.nil,by simp,by simp,rfl⟩ rfl rfl (fun M => rfl) hS2
 obtain ⟨z,F,M,g1,g2,g4,g5,g6⟩ := hS3
 refine ⟨z,F,M,2,g1,fun cf M _ => g2 M,g4,?_,g6⟩
 injection g5 with g5
 rw [g5]
theorem rWith_out (s : SV) (i : Int) (on : Bool) (hi : i < 0 ∨ 24 ≤ i) (w : World) : Pure Tryz.prog 61 [s.val,.int .i64 i,.bool on] w s.val := by
 refine enter Tryz.func61 rfl Tryz.ntmps61 rfl (St.init _) ?_
 refine jN 3 ?_
 refine WL.boxN rfl rfl (fun b3 => ?_)
 refine jN 1 ?_
 refine WL.alloc F.zero44 rfl (fun b6 => ?_)
 refine jN 11 ?_
 refine WA.splitB (i := 12) rfl (fun g12 => ?_) (fun g12 => ?_)
 ·refine jN 19 ?_
  exact WQ.ret (rs := [.cell 6 44]) rfl (.cellN F.agg44 rfl jM rfl .nil) (fun w hS => ⟨rfl,hS.sublist (List.nil_sublist _)⟩)
 refine jN 10 ?_
 refine WC.cond rfl (fun h15 => ?_) (fun h15 => ?_)
 ·refine jN 10 ?_
  exact WQ.ret (rs := [.cell 6 44]) rfl (.cellN F.agg44 rfl jM rfl .nil) (fun w hS => ⟨rfl,hS.sublist (List.nil_sublist _)⟩)
 exfalso; simp at g12 h15; omega
structure AllG where
 i : Nat
 z : SV
 F : List Nat
 M : List RowV
theorem takeD_all {l : List (Cf → Bool)} {i : Nat} {e : Cf → Bool} (h : l[i]? = some e) (cf : Cf) : (l.take (i + 1)).all (fun g => g cf) = ((l.take i).all (fun g => g cf) && e cf) := by
 rw [List.take_add_one,h,List.all_append]; simp
theorem takeD_any {l : List (Cf → Bool)} {i : Nat} {e : Cf → Bool} (h : l[i]? = some e) (cf : Cf) : (l.take (i + 1)).any (fun g => g cf) = ((l.take i).any (fun g => g cf) || e cf) := by
 rw [List.take_add_one,h,List.any_append]; simp
set_option maxRecDepth 100000 in
theorem Said_c (x : OpV) (hw : x.wf) (hl40 : x.l.length ≤ 40) (ss : List SV) (eD : List (Cf → Bool)) (hRL : RelL ss eD) (L : List RowV) (hgd : ∀ s ∈ ss,s.good ∧ s.among L) (a : Option Addr) (c : Nat) (hsp : 0 < ss.length) (hsl : ss.length ≤ 1000) (w : World) (hr : RdSL w ss a) (hL : ∀ q ∈ L,RdRow w q) (hrl : RdC w x.l x.la) :
  Calls Tryz.prog 52 [x.val,.slice a ss.length c].toArray w (SaidP L (fun z => RelS z (opD x eD)) w) := by
 obtain ⟨bs,os,ha,hsc⟩ := hr.pos hsp
 subst ha
 obtain ⟨xa,hxa⟩ : ∃ y,ss[x.a % ss.length]? = some y := ⟨_,List.getElem?_eq_getElem (Nat.mod_lt _ hsp)⟩
 obtain ⟨xb,hxb⟩ : ∃ y,ss[x.b % ss.length]? = some y := ⟨_,List.getElem?_eq_getElem (Nat.mod_lt _ hsp)⟩
 obtain ⟨xc,hxc⟩ : ∃ y,ss[x.c % ss.length]? = some y := ⟨_,List.getElem?_eq_getElem (Nat.mod_lt _ hsp)⟩
 have hra := hRL.pick hxa
 have hrb := hRL.pick hxb
 have hrc2 := hRL.pick hxc
 obtain ⟨hga,haa⟩ := hgd xa (List.mem_of_getElem? hxa)
 obtain ⟨hgb,hab⟩ := hgd xb (List.mem_of_getElem? hxb)
 obtain ⟨hgc,hac⟩ := hgd xc (List.mem_of_getElem? hxc)
 refine enter Tryz.func52 rfl Tryz.ntmps52 rfl (St.init _) ?_
 refine jN 3 ?_
 refine WL.boxN rfl rfl (fun b2 => ?_)
 refine jN 1 ?_
 refine WL.alloc F.zero44 rfl (fun b4 => ?_)
 refine jN 5 ?_
 refine WC.cutPE (α := Nat × Nat × Nat) (fun z => [(2,pp b2),(1,.slice (some ⟨bs,os,none⟩) ss.length c),(4,pp b4),(6,pp z.1),(7,pp z.2.1),(8,pp z.2.2)]) (fun z => [pt z.1 (scl xa) 44,pt z.2.1 (scl xb) 44,pt z.2.2 (scl xc) 44,pt b2 x.cells 92,pt b4 [.slice none 0 0,.slice none 0 0] 44]) (fun c a d v w h => by cases d <;> exact h) (fun Q' hP hQ => ?_) (fun xE => ?_)
 ·refine WC.drawsL (by kernel_rfl) (FactsOk.cons (ds := [30,31,32]) (LoadOk.one (t := 2) (off := 2) rfl jM rfl) (FactsOk.cons (ds := [30,31,32]) (LoadOk.by (Y := fun w => ∀ j v,(scl xa)[j]? = some v → w.cell? ⟨bs,os + (x.a % ss.length) * 2 + j,none⟩ = some v) (fun w hS => fun j v hv => hS.oldc (hsc _ _ hxa j v hv) (by simp))) (FactsOk.cons (ds := [31,32]) (LoadOk.one (t := 2) (off := 3) rfl jM rfl) (FactsOk.cons (ds := [31,32]) (LoadOk.by (Y := fun w => ∀ j v,(scl xb)[j]? = some v → w.cell? ⟨bs,os + (x.b % ss.length) * 2 + j,none⟩ = some v) (fun w hS => fun j v hv => hS.oldc (hsc _ _ hxb j v hv) (by simp))) (FactsOk.cons (ds := [32]) (LoadOk.one (t := 2) (off := 4) rfl jM rfl) (FactsOk.cons (ds := [32]) (LoadOk.by (Y := fun w => ∀ j v,(scl xc)[j]? = some v → w.cell? ⟨bs,os + (x.c % ss.length) * 2 + j,none⟩ = some v) (fun w hS => fun j v hv => hS.oldc (hsc _ _ hxc j v hv) (by simp))) (FactsOk.nil))))))) ?_
  refine jT 0 rfl (Yl.move rfl) ?_
  refine jT 1 rfl (Yl.fieldAddr0 F.fld92_2 rfl) ?_
  refine jF 2 0 rfl rfl (Yl.load1 F.one5 rfl) ?_
  refine jT 3 rfl (Yl.convert rfl (v := .int .i64 (x.a : Int)) (fun w => conv8 hw.a w)) ?_
  refine jT 4 rfl (Yl.move rfl) ?_
  refine jT 5 rfl (Yl.lenSl F.und49 rfl) ?_
  refine jT 6 rfl (Yl.bin rfl rfl (fun w => run_remI (a := x.a) (m := ss.length) (by have := hw.a; omega) hsp (by omega) _ _ _ w)) ?_
  refine jT 7 rfl (Yl.indexAddr (i := x.a % ss.length) F.sl49 rfl rfl (Nat.mod_lt _ hsp)) ?_
  refine jF 8 1 rfl rfl (Yl.loadN F.agg44 rfl rfl) ?_
  refine jT 9 rfl (Yl.move rfl) ?_
  refine jT 10 rfl (Yl.fieldAddr0 F.fld92_3 rfl) ?_
  refine jF 11 2 rfl rfl (Yl.load1 F.one5 rfl) ?_
  refine jT 12 rfl (Yl.convert rfl (v := .int .i64 (x.b : Int)) (fun w => conv8 hw.b w)) ?_
  refine jT 13 rfl (Yl.move rfl) ?_
  refine jT 14 rfl (Yl.lenSl F.und49 rfl) ?_
  refine jT 15 rfl (Yl.bin rfl rfl (fun w => run_remI (a := x.b) (m := ss.length) (by have := hw.b; omega) hsp (by omega) _ _ _ w)) ?_
  refine jT 16 rfl (Yl.indexAddr (i := x.b % ss.length) F.sl49 rfl rfl (Nat.mod_lt _ hsp)) ?_
  refine jF 17 3 rfl rfl (Yl.loadN F.agg44 rfl rfl) ?_
  refine jT 18 rfl (Yl.move rfl) ?_
  refine jT 19 rfl (Yl.fieldAddr0 F.fld92_4 rfl) ?_
  refine jF 20 4 rfl rfl (Yl.load1 F.one5 rfl) ?_
  refine jT 21 rfl (Yl.convert rfl (v := .int .i64 (x.c : Int)) (fun w => conv8 hw.c w)) ?_
  refine jT 22 rfl (Yl.move rfl) ?_
  refine jT 23 rfl (Yl.lenSl F.und49 rfl) ?_
  refine jT 24 rfl (Yl.bin rfl rfl (fun w => run_remI (a := x.c) (m := ss.length) (by have := hw.c; omega) hsp (by omega) _ _ _ w)) ?_
  refine jT 25 rfl (Yl.indexAddr (i := x.c % ss.length) F.sl49 rfl rfl (Nat.mod_lt _ hsp)) ?_
  refine jF 26 5 rfl rfl (Yl.loadN F.agg44 rfl rfl) ?_
  refine WD.three (i := 27) (j := 28) (l := 29) (by decide +kernel) rfl rfl rfl ?_ ?_ ?_
  refine WL.alloc F.zero44 rfl (fun b6 => ?_)
  refine WD.on (closed_of (by decide +kernel)) (fun w hS => Sx.keep (hS.cell jM rfl) (Sx.keep (fun j v hv => hS.oldc (hsc _ _ hxa j v hv) (by simp)) (Sx.keep (hS.cell jM rfl) (Sx.keep (fun j v hv => hS.oldc (hsc _ _ hxb j v hv) (by simp)) (Sx.keep (hS.cell jM rfl) (Sx.keep (fun j v hv => hS.oldc (hsc _ _ hxc j v hv) (by simp)) (Sx.none))))))) ?_
  refine WD.two (i := 28) (j := 29) (by decide +kernel) rfl rfl ?_ ?_
  refine WL.alloc F.zero44 rfl (fun b7 => ?_)
  refine WD.on (closed_of (by decide +kernel)) (fun w hS => Sx.keep (hS.cell jM rfl) (Sx.keep (fun j v hv => hS.oldc (hsc _ _ hxa j v hv) (by simp)) (Sx.keep (hS.cell jM rfl) (Sx.keep (fun j v hv => hS.oldc (hsc _ _ hxb j v hv) (by simp)) (Sx.keep (hS.cell jM rfl) (Sx.keep (fun j v hv => hS.oldc (hsc _ _ hxc j v hv) (by simp)) (Sx.none))))))) ?_
  refine jA 29 rfl ?_
  refine WL.alloc F.zero44 rfl (fun b8 => ?_)
  rotate_left
  refine WL.alloc F.zero44 rfl (fun b8 => ?_)
  refine WD.on (closed_of (by decide +kernel)) (fun w hS => Sx.keep (hS.cell jM rfl) (Sx.keep (fun j v hv => hS.oldc (hsc _ _ hxa j v hv) (by simp)) (Sx.keep (hS.cell jM rfl) (Sx.keep (fun j v hv => hS.oldc (hsc _ _ hxb j v hv) (by simp)) (Sx.keep (hS.cell jM rfl) (Sx.keep (fun j v hv => hS.oldc (hsc _ _ hxc j v hv) (by simp)) (Sx.none))))))) ?_
  refine jA 28 rfl ?_
  refine WL.alloc F.zero44 rfl (fun b7 => ?_)
  rotate_left
  refine WL.alloc F.zero44 rfl (fun b7 => ?_)
  refine WD.on (closed_of (by decide +kernel)) (fun w hS => Sx.keep (hS.cell jM rfl) (Sx.keep (fun j v hv => hS.oldc (hsc _ _ hxa j v hv) (by simp)) (Sx.keep (hS.cell jM rfl) (Sx.keep (fun j v hv => hS.oldc (hsc _ _ hxb j v hv) (by simp)) (Sx.keep (hS.cell jM rfl) (Sx.keep (fun j v hv => hS.oldc (hsc _ _ hxc j v hv) (by simp)) (Sx.none))))))) ?_
  refine WD.two (i := 27) (j := 29) (by decide +kernel) rfl rfl ?_ ?_
  refine WL.alloc F.zero44 rfl (fun b6 => ?_)
  refine WD.on (closed_of (by decide +kernel)) (fun w hS => Sx.keep (hS.cell jM rfl) (Sx.keep (fun j v hv => hS.oldc (hsc _ _ hxa j v hv) (by simp)) (Sx.keep (hS.cell jM rfl) (Sx.keep (fun j v hv => hS.oldc (hsc _ _ hxb j v hv) (by simp)) (Sx.keep (hS.cell jM rfl) (Sx.keep (fun j v hv => hS.oldc (hsc _ _ hxc j v hv) (by simp)) (Sx.none))))))) ?_
  refine jA 29 rfl ?_
  refine WL.alloc F.zero44 rfl (fun b8 => ?_)
  rotate_left
  refine WL.alloc F.zero44 rfl (fun b8 => ?_)
  refine WD.on (closed_of (by decide +kernel)) (fun w hS => Sx.keep (hS.cell jM rfl) (Sx.keep (fun j v hv => hS.oldc (hsc _ _ hxa j v hv) (by simp)) (Sx.keep (hS.cell jM rfl) (Sx.keep (fun j v hv => hS.oldc (hsc _ _ hxb j v hv) (by simp)) (Sx.keep (hS.cell jM rfl) (Sx.keep (fun j v hv => hS.oldc (hsc _ _ hxc j v hv) (by simp)) (Sx.none))))))) ?_
  refine jA 27 rfl ?_
  refine WL.alloc F.zero44 rfl (fun b6 => ?_)
  rotate_left
  refine WL.alloc F.zero44 rfl (fun b8 => ?_)
  refine WD.on (closed_of (by decide +kernel)) (fun w hS => Sx.keep (hS.cell jM rfl) (Sx.keep (fun j v hv => hS.oldc (hsc _ _ hxa j v hv) (by simp)) (Sx.keep (hS.cell jM rfl) (Sx.keep (fun j v hv => hS.oldc (hsc _ _ hxb j v hv) (by simp)) (Sx.keep (hS.cell jM rfl) (Sx.keep (fun j v hv => hS.oldc (hsc _ _ hxc j v hv) (by simp)) (Sx.none))))))) ?_
  refine WD.two (i := 27) (j := 28) (by decide +kernel) rfl rfl ?_ ?_
  refine WL.alloc F.zero44 rfl (fun b6 => ?_)
  refine WD.on (closed_of (by decide +kernel)) (fun w hS => Sx.keep (hS.cell jM rfl) (Sx.keep (fun j v hv => hS.oldc (hsc _ _ hxa j v hv) (by simp)) (Sx.keep (hS.cell jM rfl) (Sx.keep (fun j v hv => hS.oldc (hsc _ _ hxb j v hv) (by simp)) (Sx.keep (hS.cell jM rfl) (Sx.keep (fun j v hv => hS.oldc (hsc _ _ hxc j v hv) (by simp)) (Sx.none))))))) ?_
  refine jA 28 rfl ?_
  refine WL.alloc F.zero44 rfl (fun b7 => ?_)
  rotate_left
  refine WL.alloc F.zero44 rfl (fun b7 => ?_)
  refine WD.on (closed_of (by decide +kernel)) (fun w hS => Sx.keep (hS.cell jM rfl) (Sx.keep (fun j v hv => hS.oldc (hsc _ _ hxa j v hv) (by simp)) (Sx.keep (hS.cell jM rfl) (Sx.keep (fun j v hv => hS.oldc (hsc _ _ hxb j v hv) (by simp)) (Sx.keep (hS.cell jM rfl) (Sx.keep (fun j v hv => hS.oldc (hsc _ _ hxc j v hv) (by simp)) (Sx.none))))))) ?_
  refine jA 27 rfl ?_
  refine WL.alloc F.zero44 rfl (fun b6 => ?_)
  rotate_left
  all_goals
   rotate_left
   all_goals
    refine WD.on (closed_of (by decide +kernel)) (fun w hS => Sx.keep (hS.cell jM rfl) (Sx.keep (fun j v hv => hS.oldc (hsc _ _ hxa j v hv) (by simp)) (Sx.keep (hS.cell jM rfl) (Sx.keep (fun j v hv => hS.oldc (hsc _ _ hxb j v hv) (by simp)) (Sx.keep (hS.cell jM rfl) (Sx.keep (fun j v hv => hS.oldc (hsc _ _ hxc j v hv) (by simp)) (Sx.none))))))) ?_
    refine jA 30 rfl ?_
    refine WL.storeN F.agg44 rfl rfl rfl jO jU jS ?_
    refine WD.on (closed_of (by decide +kernel)) (fun w hS => Sx.gone rfl (Sx.gone rfl (Sx.keep (hS.cell jM rfl) (Sx.keep (fun j v hv => hS.oldc (hsc _ _ hxb j v hv) (by simp)) (Sx.keep (hS.cell jM rfl) (Sx.keep (fun j v hv => hS.oldc (hsc _ _ hxc j v hv) (by simp)) (Sx.none))))))) ?_
    refine jA 31 rfl ?_
    refine WL.storeN F.agg44 rfl rfl rfl jO jU jS ?_
    refine WD.on (closed_of (by decide +kernel)) (fun w hS => Sx.gone rfl (Sx.gone rfl (Sx.gone rfl (Sx.gone rfl (Sx.keep (hS.cell jM rfl) (Sx.keep (fun j v hv => hS.oldc (hsc _ _ hxc j v hv) (by simp)) (Sx.none))))))) ?_
    refine jA 32 rfl ?_
    refine WL.storeN F.agg44 rfl rfl rfl jO jU jS ?_
    refine jG ?_
    refine jD ?_
    refine WQ.chunks (C' := [pt (b6,b7,b8).1 (scl xa) 44,pt (b6,b7,b8).2.1 (scl xb) 44,pt (b6,b7,b8).2.2 (scl xc) 44,pt b2 x.cells 92,pt b4 [.slice none 0 0,.slice none 0 0] 44]) (fun w hS => (jK hS)) ?_
    exact WQ.byCut (hQ (b6,b7,b8)) ⟨rfl,rfl,rfl,rfl,rfl,rfl,trivial⟩
 obtain ⟨b6,b7,b8⟩ := xE
 show WQ _ _ _ _ _ _ [(2,pp b2),(1,.slice (some ⟨bs,os,none⟩) ss.length c),(4,pp b4),(6,pp b6),(7,pp b7),(8,pp b8)] [pt b6 (scl xa) 44,pt b7 (scl xb) 44,pt b8 (scl xc) 44,pt b2 x.cells 92,pt b4 [.slice none 0 0,.slice none 0 0] 44]
 refine jN 19 ?_
 refine WC.cond rfl (fun h40 => ?_) (fun h40 => ?_)
 ·have hd : x.doo = 1 := by (simp at h40; omega)
  refine jN 3 ?_
  refine jC (β := SX (L) (fun z => z.v = [] ∧ ∀ M,z.has M = true)) (res := fun y => y.1.1.val) (cs := fun y => [rwC y.1.2.1 y.1.2.2]) F.fun50 rfl (fun w hS _ => (rConst_s true L w).mono (fun e w2 h => h.sx)) (fun y => ?_)
  refine jN 9 ?_
  refine WQ.ret (rs := [.cell 4 44,.tmp 5]) rfl (.cellN F.agg44 rfl jM rfl (.tmp rfl .nil)) (fun w hS => ?_)
  refine SaidP.of y _ (fun hg hq => ?_) (jK hS)
  intro cf M hM
  rw [hq.2]
  simp only [opD,hd]
  rfl
 have hn1 : ¬ x.doo = 1 := by (simp at h40; omega)
 refine jN 8 ?_
 refine WC.cond rfl (fun h43 => ?_) (fun h43 => ?_)
 ·have hd : x.doo = 2 := by (simp at h43; omega)
  refine jN 11 ?_
  refine WA.splitB (i := 48) rfl (fun g48 => ?_) (fun g48 => ?_)
  ·have hko : x.i < 0 ∨ 24 ≤ x.i := .inl (by simpa using g48)
   refine jN 14 ?_
   refine jC (β := SX (L) (fun z => z.v = [] ∧ ∀ M,z.has M = false)) (res := fun y => y.1.1.val) (cs := fun y => [rwC y.1.2.1 y.1.2.2]) F.fun50 rfl (fun w hS _ => (rConst_s false L w).mono (fun e w2 h => h.sx)) (fun y => ?_)
   refine jN 10 ?_
   refine WQ.ret (rs := [.cell 4 44,.tmp 5]) rfl (.cellN F.agg44 rfl jM rfl (.tmp rfl .nil)) (fun w hS => ?_)
   refine SaidP.of y _ (fun hg hq => ?_) (jK hS)
   intro cf M hM
   rw [hq.2]
   have e8 : decide (0 ≤ x.i ∧ x.i < 24) = false := decide_eq_false (by omega)
   simp only [opD,hd,e8,Bool.false_and]
   rfl
  refine jN 13 ?_
  refine WC.cond rfl (fun h52 => ?_) (fun h52 => ?_)
  ·have hko : x.i < 0 ∨ 24 ≤ x.i := .inr (by (simp at h52; omega))
   refine jN 3 ?_
   refine jC (β := SX (L) (fun z => z.v = [] ∧ ∀ M,z.has M = false)) (res := fun y => y.1.1.val) (cs := fun y => [rwC y.1.2.1 y.1.2.2]) F.fun50 rfl (fun w hS _ => (rConst_s false L w).mono (fun e w2 h => h.sx)) (fun y => ?_)
   refine jN 10 ?_
   refine WQ.ret (rs := [.cell 4 44,.tmp 5]) rfl (.cellN F.agg44 rfl jM rfl (.tmp rfl .nil)) (fun w hS => ?_)
   refine SaidP.of y _ (fun hg hq => ?_) (jK hS)
   intro cf M hM
   rw [hq.2]
   have e8 : decide (0 ≤ x.i ∧ x.i < 24) = false := decide_eq_false (by omega)
   simp only [opD,hd,e8,Bool.false_and]
   rfl
  have hki : 0 ≤ x.i ∧ x.i < 24 := by (simp at g48 h52; omega)
  obtain ⟨k,hk⟩ := Int.eq_ofNat_of_zero_le hki.1
  have hk24 : k < 24 := by omega
  have hp32 : 2 ^ k < 4294967296 := Nat.lt_of_lt_of_le (Nat.pow_lt_pow_right (by decide) (show k < 32 by omega)) (by decide)
  refine jN 8 ?_
  refine WA.say 55 (.int .i64 (k : Int)) (by rw [show (k : Int) = x.i from hk.symm]; rfl) ?_
  refine jN 1 ?_
  refine WL.convert rfl rfl (v := .int .u64 (k : Int)) (fun w hS => conv61 (by omega) w) ?_
  refine jN 1 ?_
  refine WL.bin rfl rfl rfl (fun w => run_shl1U (by omega) _ _ _ w) ?_
  refine jN 1 ?_
  refine jC (β := SX (L) (fun z => z.v = featL ((2 ^ k) ||| 0) ∧ ∀ M,z.has M = (decide (confN z.v (hasN z.v M) &&& (2 ^ k) = (2 ^ k) % 16777216) && decide (confN z.v (hasN z.v M) &&& 0 = 0)))) (res := fun y => y.1.1.val) (cs := fun y => [rwC y.1.2.1 y.1.2.2]) F.fun113 rfl (fun w hS _ => (rCube_s (2 ^ k) 0 hp32 (by decide) L w).mono (fun e w2 h => h.sx)) (fun y => ?_)
  refine jN 9 ?_
  refine WQ.ret (rs := [.cell 4 44,.tmp 5]) rfl (.cellN F.agg44 rfl jM rfl (.tmp rfl .nil)) (fun w hS => ?_)
  refine SaidP.of y _ (fun hg hq => ?_) (jK hS)
  intro cf M hM
  rw [rel_cube hg hq.1 hq.2 cf M hM,cube_one hk24]
  have e9 : x.i.toNat = k := by rw [hk]; rfl
  simp only [opD,hd]
  simp [e9,hki.1,hki.2]
 have hn2 : ¬ x.doo = 2 := by (simp at h43; omega)
 refine jN 8 ?_
 refine WC.cond rfl (fun h59 => ?_) (fun h59 => ?_)
 ·have hd : x.doo = 3 := by (simp at h59; omega)
  refine jN 11 ?_
  refine jC (β := SX (L) (fun z => z.v = featL (x.f ||| x.g) ∧ ∀ M,z.has M = (decide (confN z.v (hasN z.v M) &&& x.f = x.f % 16777216) && decide (confN z.v (hasN z.v M) &&& x.g = 0)))) (res := fun y => y.1.1.val) (cs := fun y => [rwC y.1.2.1 y.1.2.2]) F.fun113 rfl (fun w hS _ => (rCube_s x.f x.g hw.f hw.g L w).mono (fun e w2 h => h.sx)) (fun y => ?_)
  refine jN 9 ?_
  refine WQ.ret (rs := [.cell 4 44,.tmp 5]) rfl (.cellN F.agg44 rfl jM rfl (.tmp rfl .nil)) (fun w hS => ?_)
  refine SaidP.of y _ (fun hg hq => ?_) (jK hS)
  intro cf M hM
  rw [rel_cube hg hq.1 hq.2 cf M hM]
  simp only [opD,hd]
  rfl
 have hn3 : ¬ x.doo = 3 := by (simp at h59; omega)
 refine jN 8 ?_
 refine WC.cond rfl (fun h66 => ?_) (fun h66 => ?_)
 ·have hd : x.doo = 4 := by (simp at h66; omega)
  refine jN 5 ?_
  refine jC (β := SX (L) (fun z => z.v = xa.v ∧ ∀ M,z.has M = !xa.has M)) (res := fun y => y.1.1.val) (cs := fun y => [rwC y.1.2.1 y.1.2.2]) F.fun114 rfl (fun w hS _ => (rNot_s xa hga L haa w (fun x hx => (hL x hx).next hS)).mono (fun e w2 h => h.sx)) (fun y => ?_)
  refine jN 9 ?_
  refine WQ.ret (rs := [.cell 4 44,.tmp 5]) rfl (.cellN F.agg44 rfl jM rfl (.tmp rfl .nil)) (fun w hS => ?_)
  refine SaidP.of y _ (fun hg hq => ?_) (jK hS)
  intro cf M hM
  rw [hq.2,hra cf M hM]
  simp only [opD,hd]
  rfl
 have hn4 : ¬ x.doo = 4 := by (simp at h66; omega)
 refine jN 8 ?_
 refine WC.cond rfl (fun h70 => ?_) (fun h70 => ?_)
 ·have hd : x.doo = 5 := by (simp at h70; omega)
  refine jN 7 ?_
  refine jC (β := SX (L) (fun z => z.v = featL (numN xa.v ||| numN xb.v) ∧ ∀ M,z.has M = (xa.has M && xb.has M))) (res := fun y => y.1.1.val) (cs := fun y => [rwC y.1.2.1 y.1.2.2]) F.fun115 rfl (fun w hS _ => (rAnd_s xa xb hga hgb L haa hab w (fun x hx => (hL x hx).next hS)).mono (fun e w2 h => h.sx)) (fun y => ?_)
  refine jN 9 ?_
  refine WQ.ret (rs := [.cell 4 44,.tmp 5]) rfl (.cellN F.agg44 rfl jM rfl (.tmp rfl .nil)) (fun w hS => ?_)
  refine SaidP.of y _ (fun hg hq => ?_) (jK hS)
  intro cf M hM
  rw [hq.2,hra cf M hM,hrb cf M hM]
  simp only [opD,hd]
  simp
 have hn5 : ¬ x.doo = 5 := by (simp at h70; omega)
 refine jN 8 ?_
 refine WC.cond rfl (fun h75 => ?_) (fun h75 => ?_)
 ·have hd : x.doo = 6 := by (simp at h75; omega)
  refine jN 7 ?_
  refine jC (β := SX (L) (fun z => z.v = featL (numN xa.v ||| numN xb.v) ∧ ∀ M,z.has M = (xa.has M || xb.has M))) (res := fun y => y.1.1.val) (cs := fun y => [rwC y.1.2.1 y.1.2.2]) F.fun116 rfl (fun w hS _ => (rOr_s xa xb hga hgb L haa hab w (fun x hx => (hL x hx).next hS)).mono (fun e w2 h => h.sx)) (fun y => ?_)
  refine jN 9 ?_
  refine WQ.ret (rs := [.cell 4 44,.tmp 5]) rfl (.cellN F.agg44 rfl jM rfl (.tmp rfl .nil)) (fun w hS => ?_)
  refine SaidP.of y _ (fun hg hq => ?_) (jK hS)
  intro cf M hM
  rw [hq.2,hra cf M hM,hrb cf M hM]
  simp only [opD,hd]
  simp
 have hn6 : ¬ x.doo = 6 := by (simp at h75; omega)
 refine jN 8 ?_
 refine WC.cond rfl (fun h80 => ?_) (fun h80 => ?_)
 ·have hd : x.doo = 7 := by (simp at h80; omega)
  refine jN 7 ?_
  refine jC (β := SX (L) (fun z => z.v = featL (numN xa.v ||| numN xb.v) ∧ ∀ M,z.has M = (xa.has M != xb.has M))) (res := fun y => y.1.1.val) (cs := fun y => [rwC y.1.2.1 y.1.2.2]) F.fun117 rfl (fun w hS _ => (rXor_s xa xb hga hgb L haa hab w (fun x hx => (hL x hx).next hS)).mono (fun e w2 h => h.sx)) (fun y => ?_)
  refine jN 9 ?_
  refine WQ.ret (rs := [.cell 4 44,.tmp 5]) rfl (.cellN F.agg44 rfl jM rfl (.tmp rfl .nil)) (fun w hS => ?_)
  refine SaidP.of y _ (fun hg hq => ?_) (jK hS)
  intro cf M hM
  rw [hq.2,hra cf M hM,hrb cf M hM]
  simp only [opD,hd]
  simp
 have hn7 : ¬ x.doo = 7 := by (simp at h80; omega)
 refine jN 8 ?_
 refine WC.cond rfl (fun h85 => ?_) (fun h85 => ?_)
 ·have hd : x.doo = 8 := by (simp at h85; omega)
  refine jN 9 ?_
  refine jC (β := SX (L) (fun z => (∀ q ∈ z.v,q ∈ xa.v ∨ q ∈ xb.v ∨ q ∈ xc.v) ∧ ∀ M,z.has M = ((xa.has M && xb.has M) || (!xa.has M && xc.has M)))) (res := fun y => y.1.1.val) (cs := fun y => [rwC y.1.2.1 y.1.2.2]) F.fun118 rfl (fun w hS _ => (rIte_s xa xb xc hga hgb hgc L haa hab hac w (fun x hx => (hL x hx).next hS)).mono (fun e w2 h => h.sx)) (fun y => ?_)
  refine jN 9 ?_
  refine WQ.ret (rs := [.cell 4 44,.tmp 5]) rfl (.cellN F.agg44 rfl jM rfl (.tmp rfl .nil)) (fun w hS => ?_)
  refine SaidP.of y _ (fun hg hq => ?_) (jK hS)
  intro cf M hM
  rw [hq.2,hra cf M hM,hrb cf M hM,hrc2 cf M hM]
  simp only [opD,hd]
  simp
 have hn8 : ¬ x.doo = 8 := by (simp at h85; omega)
 refine jN 8 ?_
 refine WC.cond rfl (fun h91 => ?_) (fun h91 => ?_)
 ·have hd : x.doo = 9 := by (simp at h91; omega)
  refine jN 1 ?_
  rcases (show (0 ≤ x.i ∧ x.i < 24) ∨ (x.i < 0 ∨ 24 ≤ x.i) by omega) with hki | hko
  ·obtain ⟨k,hk⟩ := Int.eq_ofNat_of_zero_le hki.1
   have hk24 : k < 24 := by omega
   refine jN 7 ?_
   refine WA.say 95 (.int .i64 (k : Int)) (by rw [show (k : Int) = x.i from hk.symm]; rfl) ?_
   refine jN 5 ?_
   refine jC (β := SX (L) (fun z => z.v = xa.v ∧ ∀ M,z.has M = xa.has (updN (confN xa.v (hasN xa.v M)) k x.on))) (res := fun y => y.1.1.val) (cs := fun y => [rwC y.1.2.1 y.1.2.2]) F.fun61 rfl (fun w hS _ => (rWith_s xa hga k x.on hk24 L haa w (fun x hx => (hL x hx).next hS)).mono (fun e w2 h => h.sx)) (fun y => ?_)
   refine jN 9 ?_
   refine WQ.ret (rs := [.cell 4 44,.tmp 5]) rfl (.cellN F.agg44 rfl jM rfl (.tmp rfl .nil)) (fun w hS => ?_)
   refine SaidP.of y _ (fun hg hq => ?_) (jK hS)
   intro cf M hM
   rw [rel_with hga hk24 hra hq.2 cf M hM]
   simp only [opD,hd]
   rw [show ((k : Nat) : Int) = x.i from hk.symm]
   simp
  refine jN 12 ?_
  refine WL.callV F.fun61 rfl rfl (fun w hS => rWith_out xa x.i x.on hko w) ?_
  refine jN 9 ?_
  refine WQ.ret (rs := [.cell 4 44,.tmp 5]) rfl (.cellN F.agg44 rfl jM rfl (.tmp rfl .nil)) (fun w hS => ?_)
  refine ⟨xa,[],[],0,hga,?_,haa.mono (fun q hq => List.mem_append_left _ hq),rfl,St.rwNil (hS.sublist (List.nil_sublist _))⟩
  intro cf M hM
  rw [rel_with_out (on := x.on) hko hra cf M hM]
  simp only [opD,hd]
  simp
 have hn9 : ¬ x.doo = 9 := by (simp at h91; omega)
 refine jN 8 ?_
 refine WC.cond rfl (fun h99 => ?_) (fun h99 => ?_)
 ·have hd : x.doo = 10 := by (simp at h99; omega)
  refine jN 9 ?_
  refine jC (β := SX (L) (fun z => z.v = xa.v ∧ ∀ N,z.has N = chgF false x.f xa.v xa.bs (hasN xa.v N) xa.bs.length)) (res := fun y => y.1.1.val) (cs := fun y => [rwC y.1.2.1 y.1.2.2]) F.fun119 rfl (fun w hS _ => (rChanged_s xa hga x.f false L haa w (fun x hx => (hL x hx).next hS)).mono (fun e w2 h => h.sx)) (fun y => ?_)
  refine jN 9 ?_
  refine WQ.ret (rs := [.cell 4 44,.tmp 5]) rfl (.cellN F.agg44 rfl jM rfl (.tmp rfl .nil)) (fun w hS => ?_)
  refine SaidP.of y _ (fun hg hq => ?_) (jK hS)
  intro cf M hM
  rw [rel_or hga hw.f hra hq.2 cf M hM]
  simp only [opD,hd]
  rfl
 have hn10 : ¬ x.doo = 10 := by (simp at h99; omega)
 refine jN 8 ?_
 refine WC.cond rfl (fun h105 => ?_) (fun h105 => ?_)
 ·have hd : x.doo = 11 := by (simp at h105; omega)
  refine jN 9 ?_
  refine jC (β := SX (L) (fun z => z.v = xa.v ∧ ∀ N,z.has N = chgF true x.f xa.v xa.bs (hasN xa.v N) xa.bs.length)) (res := fun y => y.1.1.val) (cs := fun y => [rwC y.1.2.1 y.1.2.2]) F.fun119 rfl (fun w hS _ => (rChanged_s xa hga x.f true L haa w (fun x hx => (hL x hx).next hS)).mono (fun e w2 h => h.sx)) (fun y => ?_)
  refine jN 9 ?_
  refine WQ.ret (rs := [.cell 4 44,.tmp 5]) rfl (.cellN F.agg44 rfl jM rfl (.tmp rfl .nil)) (fun w hS => ?_)
  refine SaidP.of y _ (fun hg hq => ?_) (jK hS)
  intro cf M hM
  rw [rel_and hga hw.f hra hq.2 cf M hM]
  simp only [opD,hd]
  rfl
 have hn11 : ¬ x.doo = 11 := by (simp at h105; omega)
 refine jN 8 ?_
 refine WC.cond rfl (fun h111 => ?_) (fun h111 => ?_)
 ·have hd : x.doo = 12 := by (simp at h111; omega)
  refine jN 15 ?_
  refine jC (β := SX (L) (fun z => z.v = featL x.f ∧ ∀ N,z.has N = (decide (x.i ≤ ((featL (confN z.v (hasN z.v N))).length : Int)) && decide (((featL (confN z.v (hasN z.v N))).length : Int) ≤ x.j)))) (res := fun y => y.1.1.val) (cs := fun y => [rwC y.1.2.1 y.1.2.2]) F.fun120 rfl (fun w hS _ => (rBetween_s x.f x.i x.j hw.f L w).mono (fun e w2 h => h.sx)) (fun y => ?_)
  refine jN 9 ?_
  refine WQ.ret (rs := [.cell 4 44,.tmp 5]) rfl (.cellN F.agg44 rfl jM rfl (.tmp rfl .nil)) (fun w hS => ?_)
  refine SaidP.of y _ (fun hg hq => ?_) (jK hS)
  intro cf M hM
  rw [rel_between hg hq.1 hq.2 cf M hM]
  simp only [opD,hd]
  rfl
 have hn12 : ¬ x.doo = 12 := by (simp at h111; omega)
 refine jN 8 ?_
 refine WC.cond rfl (fun h120 => ?_) (fun h120 => ?_)
 ·have hd : x.doo = 13 := by (simp at h120; omega)
  refine jN 15 ?_
  refine jC (β := SaidX L (fun z => RelS z (fun cf => costsB x.l && (decide (1 ≤ x.rel ∧ x.rel ≤ 3) && relB x.rel (tailN x.l cf 24) x.bound)))) (res := fun y => .tuple #[y.1.1.val,.int .i64 y.1.2.2.2]) (cs := fun y => [rwC y.1.2.1 y.1.2.2.1]) F.fun121 rfl (fun w hS _ => (rLinear_s x.l x.rel x.bound (by omega) x.la x.lc L w (RdC.nextO hrl hS)).mono (fun e w2 h => h.sx)) (fun y => ?_)
  refine jN 13 ?_
  refine WQ.ret (rs := [.cell 4 44,.tmp 5]) rfl (.cellN F.agg44 rfl jM rfl (.tmp rfl .nil)) (fun w hS => ?_)
  refine ⟨y.1.1,_,_,_,y.2.1,?_,y.2.2.2,rfl,(jK hS)⟩
  intro cf M hM
  rw [y.2.2.1 cf M hM]
  simp only [opD,hd,linD]
  rfl
 have hn13 : ¬ x.doo = 13 := by (simp at h120; omega)
 refine jN 9 ?_
 refine WC.splitB (i := 131) rfl (fun h131 => ?_) (fun h131 => ?_)
 ·refine jN 1 ?_
  have hd : x.doo = 14 := by (simp at h131; omega)
  refine jN 11 ?_
  refine WA.say 136 (.bool true) (by rw [hd]; rfl) ?_
  refine jN 1 ?_
  refine jC (β := SX (L) (fun z => z.v = [] ∧ ∀ M,z.has M = true)) (res := fun y => y.1.1.val) (cs := fun y => [rwC y.1.2.1 y.1.2.2]) F.fun50 rfl (fun w hS _ => (rConst_s true L w).mono (fun e w2 h => h.sx)) (fun y => ?_)
  refine jN 1 ?_
  refine WL.alloc F.zero44 rfl (fun b9 => ?_)
  refine jN 12 ?_
  refine WC.chunks (C' := [pt b9 (scl y.1.1) 44,rwC y.1.2.1 y.1.2.2,pt b2 x.cells 92,pt b4 [.slice none 0 0,.slice none 0 0] 44]) (fun w hS => (jK hS)) ?_
  refine WC.loop (α := AllG) (fun g => g.i ≤ ss.length ∧ g.z.good ∧ g.z.among (L ++ g.M) ∧ RelS g.z (fun cf => (eD.take g.i).all (fun e => e cf))) (fun g => [(1,.slice (some ⟨bs,os,none⟩) ss.length c),(2,pp b2),(4,pp b4),(9,pp b9),(10,.int .i64 (g.i : Int))]) (fun g => [pt b9 (scl g.z) 44,rwC g.F g.M,pt b2 x.cells 92,pt b4 [.slice none 0 0,.slice none 0 0] 44]) (fun g => ss.length - g.i) (⟨0,y.1.1,y.1.2.1,y.1.2.2⟩) ?_ ?_ ?_ ?_
  ·exact ⟨Nat.zero_le _,y.2.1,y.2.2.2,fun cf M _ => by rw [y.2.2.1.2]; rfl⟩
  ·exact ⟨rfl,rfl,rfl,rfl,rfl,trivial⟩
  ·rfl
  rintro ⟨i,z,F9,M9⟩ ⟨hi,hgz,haz,hrz⟩
  dsimp only at hi hgz haz hrz
  show WC _ _ _ _ _ _ _ [(1,.slice (some ⟨bs,os,none⟩) ss.length c),(2,pp b2),(4,pp b4),(9,pp b9),(10,.int .i64 (i : Int))] [pt b9 (scl z) 44,rwC F9 M9,pt b2 x.cells 92,pt b4 [.slice none 0 0,.slice none 0 0] 44]
  refine jN 13 ?_
  refine WC.cond rfl (fun h141 => ?_) (fun h141 => ?_)
  ·have hlt : i < ss.length := by simpa using h141
   obtain ⟨s,hs⟩ : ∃ s,ss[i]? = some s := ⟨_,List.getElem?_eq_getElem hlt⟩
   obtain ⟨e,he⟩ : ∃ e,eD[i]? = some e := ⟨_,List.getElem?_eq_getElem (by rw [← hRL.len]; exact hlt)⟩
   have hrs := hRL.at' i s e hs he
   obtain ⟨hgs,has⟩ := hgd s (List.mem_of_getElem? hs)
   refine jN 14 ?_
   refine WC.cond rfl (fun h146 => ?_) (fun h146 => ?_)
   ·refine WC.drawsL (by kernel_rfl) (FactsOk.cons (ds := [5,6]) (LoadOk.whole (t := 9) rfl jM) (FactsOk.cons (ds := [5,6]) (LoadOk.by (Y := fun w => ∀ j v,(scl s)[j]? = some v → w.cell? ⟨bs,os + i * 2 + j,none⟩ = some v) (fun w hS => fun j v hv => hS.oldc (hsc _ _ hs j v hv) (by simp))) (FactsOk.nil))) ?_
    refine jF 0 0 rfl rfl (Yl.loadN F.agg44 rfl rfl) ?_
    refine jT 1 rfl (Yl.move rfl) ?_
    refine jT 2 rfl (Yl.move rfl) ?_
    refine jT 3 rfl (Yl.indexAddr (i := i) F.sl49 rfl rfl hlt) ?_
    refine jF 4 1 rfl rfl (Yl.loadN F.agg44 rfl rfl) ?_
    refine jA 5 rfl ?_
    refine jC (β := SX (L ++ M9) (fun q => q.v = featL (numN z.v ||| numN s.v) ∧ ∀ M,q.has M = (z.has M && s.has M))) (res := fun y => y.1.1.val) (cs := fun y => [rwC y.1.2.1 y.1.2.2]) F.fun115 rfl (fun w hS _ => (rAnd_s z s hgz hgs (L ++ M9) haz (has.mono fun q hq => List.mem_append_left _ hq) w (rows_more hL hS jM)).mono (fun e w2 h => h.sx)) (fun y2 => ?_)
    refine jG ?_
    refine jA 6 rfl ?_
    refine WL.storeN F.agg44 rfl rfl rfl jO jU jS ?_
    refine jG ?_
    refine jD ?_
    refine jN 10 ?_
    have hst : RelS y2.1.1 (fun cf => (eD.take (i + 1)).all (fun e => e cf)) := fun cf M hM => by
     rw [y2.2.2.1.2,hrz cf M hM,hrs cf M hM]; exact (takeD_all he cf).symm
    refine WQ.chunks (C' := [pt b9 (scl y2.1.1) 44,rwC (F9 ++ y2.1.2.1) (M9 ++ y2.1.2.2),pt b2 x.cells 92,pt b4 [.slice none 0 0,.slice none 0 0] 44]) (fun w hS => ?_) ?_
    ·have hS1 := St.rwJoin (St.pick (St.pick hS (c := rwC y2.1.2.1 y2.1.2.2) jR) (c := rwC F9 M9) jR)
     exact (jK hS1)
    refine WQ.back (⟨i + 1,y2.1.1,F9 ++ y2.1.2.1,M9 ++ y2.1.2.2⟩) ?_ ?_ ?_ ?_
    ·exact ⟨by (show i + 1 ≤ ss.length; omega),y2.2.1,(by rw [← List.append_assoc]; exact y2.2.2.2),hst⟩
    ·(show ss.length - (i + 1) < ss.length - i; omega)
    ·exact ⟨rfl,rfl,rfl,rfl,rfl,trivial⟩
    rfl
   exfalso; rw [hd] at h146; simp at h146
  have hie : i = ss.length := by simp at h141; omega
  subst hie
  rw [hRL.len,List.take_length] at hrz
  refine jN 18 ?_
  refine WQ.ret (rs := [.cell 4 44,.tmp 5]) rfl (.cellN F.agg44 rfl jM rfl (.tmp rfl .nil)) (fun w hS => ?_)
  refine ⟨z,F9,M9,0,hgz,?_,haz,rfl,(jK hS)⟩
  intro cf M hM
  rw [hrz cf M hM]
  simp only [opD,hd]
  rfl
 refine jN 1 ?_
 have hn14 : ¬ x.doo = 14 := by (simp at h131; omega)
 refine jN 7 ?_
 refine WC.splitB (i := 131) rfl (fun h131b => ?_) (fun h131b => ?_)
 ·refine jN 1 ?_
  have hd : x.doo = 15 := by (simp at h131b; omega)
  refine jN 8 ?_
  refine WA.say 136 (.bool false) (by rw [hd]; rfl) ?_
  refine jN 1 ?_
  refine jC (β := SX (L) (fun z => z.v = [] ∧ ∀ M,z.has M = false)) (res := fun y => y.1.1.val) (cs := fun y => [rwC y.1.2.1 y.1.2.2]) F.fun50 rfl (fun w hS _ => (rConst_s false L w).mono (fun e w2 h => h.sx)) (fun y => ?_)
  refine jN 1 ?_
  refine WL.alloc F.zero44 rfl (fun b9 => ?_)
  refine jN 12 ?_
  refine WC.chunks (C' := [pt b9 (scl y.1.1) 44,rwC y.1.2.1 y.1.2.2,pt b2 x.cells 92,pt b4 [.slice none 0 0,.slice none 0 0] 44]) (fun w hS => (jK hS)) ?_
  refine WC.loop (α := AllG) (fun g => g.i ≤ ss.length ∧ g.z.good ∧ g.z.among (L ++ g.M) ∧ RelS g.z (fun cf => (eD.take g.i).any (fun e => e cf))) (fun g => [(1,.slice (some ⟨bs,os,none⟩) ss.length c),(2,pp b2),(4,pp b4),(9,pp b9),(10,.int .i64 (g.i : Int))]) (fun g => [pt b9 (scl g.z) 44,rwC g.F g.M,pt b2 x.cells 92,pt b4 [.slice none 0 0,.slice none 0 0] 44]) (fun g => ss.length - g.i) (⟨0,y.1.1,y.1.2.1,y.1.2.2⟩) ?_ ?_ ?_ ?_
  ·exact ⟨Nat.zero_le _,y.2.1,y.2.2.2,fun cf M _ => by rw [y.2.2.1.2]; rfl⟩
  ·exact ⟨rfl,rfl,rfl,rfl,rfl,trivial⟩
  ·rfl
  rintro ⟨i,z,F9,M9⟩ ⟨hi,hgz,haz,hrz⟩
  dsimp only at hi hgz haz hrz
  show WC _ _ _ _ _ _ _ [(1,.slice (some ⟨bs,os,none⟩) ss.length c),(2,pp b2),(4,pp b4),(9,pp b9),(10,.int .i64 (i : Int))] [pt b9 (scl z) 44,rwC F9 M9,pt b2 x.cells 92,pt b4 [.slice none 0 0,.slice none 0 0] 44]
  refine jN 13 ?_
  refine WC.cond rfl (fun h141 => ?_) (fun h141 => ?_)
  ·have hlt : i < ss.length := by simpa using h141
   obtain ⟨s,hs⟩ : ∃ s,ss[i]? = some s := ⟨_,List.getElem?_eq_getElem hlt⟩
   obtain ⟨e,he⟩ : ∃ e,eD[i]? = some e := ⟨_,List.getElem?_eq_getElem (by rw [← hRL.len]; exact hlt)⟩
   have hrs := hRL.at' i s e hs he
   obtain ⟨hgs,has⟩ := hgd s (List.mem_of_getElem? hs)
   refine jN 14 ?_
   refine WC.cond rfl (fun h146 => ?_) (fun h146 => ?_)
   ·exfalso; rw [hd] at h146; simp at h146
   refine WC.drawsL (by kernel_rfl) (FactsOk.cons (ds := [5,6]) (LoadOk.whole (t := 9) rfl jM) (FactsOk.cons (ds := [5,6]) (LoadOk.by (Y := fun w => ∀ j v,(scl s)[j]? = some v → w.cell? ⟨bs,os + i * 2 + j,none⟩ = some v) (fun w hS => fun j v hv => hS.oldc (hsc _ _ hs j v hv) (by simp))) (FactsOk.nil))) ?_
   refine jF 0 0 rfl rfl (Yl.loadN F.agg44 rfl rfl) ?_
   refine jT 1 rfl (Yl.move rfl) ?_
   refine jT 2 rfl (Yl.move rfl) ?_
   refine jT 3 rfl (Yl.indexAddr (i := i) F.sl49 rfl rfl hlt) ?_
   refine jF 4 1 rfl rfl (Yl.loadN F.agg44 rfl rfl) ?_
   refine jA 5 rfl ?_
   refine jC (β := SX (L ++ M9) (fun q => q.v = featL (numN z.v ||| numN s.v) ∧ ∀ M,q.has M = (z.has M || s.has M))) (res := fun y => y.1.1.val) (cs := fun y => [rwC y.1.2.1 y.1.2.2]) F.fun116 rfl (fun w hS _ => (rOr_s z s hgz hgs (L ++ M9) haz (has.mono fun q hq => List.mem_append_left _ hq) w (rows_more hL hS jM)).mono (fun e w2 h => h.sx)) (fun y2 => ?_)
   refine jG ?_
   refine jA 6 rfl ?_
   refine WL.storeN F.agg44 rfl rfl rfl jO jU jS ?_
   refine jG ?_
   refine jD ?_
   refine jN 10 ?_
   have hst : RelS y2.1.1 (fun cf => (eD.take (i + 1)).any (fun e => e cf)) := fun cf M hM => by
    rw [y2.2.2.1.2,hrz cf M hM,hrs cf M hM]; exact (takeD_any he cf).symm
   refine WQ.chunks (C' := [pt b9 (scl y2.1.1) 44,rwC (F9 ++ y2.1.2.1) (M9 ++ y2.1.2.2),pt b2 x.cells 92,pt b4 [.slice none 0 0,.slice none 0 0] 44]) (fun w hS => ?_) ?_
   ·have hS1 := St.rwJoin (St.pick (St.pick hS (c := rwC y2.1.2.1 y2.1.2.2) jR) (c := rwC F9 M9) jR)
    exact (jK hS1)
   refine WQ.back (⟨i + 1,y2.1.1,F9 ++ y2.1.2.1,M9 ++ y2.1.2.2⟩) ?_ ?_ ?_ ?_
   ·exact ⟨by (show i + 1 ≤ ss.length; omega),y2.2.1,(by rw [← List.append_assoc]; exact y2.2.2.2),hst⟩
   ·(show ss.length - (i + 1) < ss.length - i; omega)
   ·exact ⟨rfl,rfl,rfl,rfl,rfl,trivial⟩
   rfl
  have hie : i = ss.length := by simp at h141; omega
  subst hie
  rw [hRL.len,List.take_length] at hrz
  refine jN 18 ?_
  refine WQ.ret (rs := [.cell 4 44,.tmp 5]) rfl (.cellN F.agg44 rfl jM rfl (.tmp rfl .nil)) (fun w hS => ?_)
  refine ⟨z,F9,M9,0,hgz,?_,haz,rfl,(jK hS)⟩
  intro cf M hM
  rw [hrz cf M hM]
  simp only [opD,hd]
  rfl
 refine jN 1 ?_
 have hn15 : ¬ x.doo = 15 := by (simp at h131b; omega)
 refine jN 6 ?_
 refine jC (β := SX (L) (fun z => z.v = [] ∧ ∀ M,z.has M = false)) (res := fun y => y.1.1.val) (cs := fun y => [rwC y.1.2.1 y.1.2.2]) F.fun50 rfl (fun w hS _ => (rConst_s false L w).mono (fun e w2 h => h.sx)) (fun y => ?_)
 refine jN 7 ?_
 refine WQ.ret (rs := [.cell 4 44,.tmp 5]) rfl (.cellN F.agg44 rfl jM rfl (.tmp rfl .nil)) (fun w hS => ?_)
 refine SaidP.of y _ (fun hg hq => ?_) (jK hS)
 intro cf M hM
 rw [hq.2]
 simp only [opD,hn1,hn2,hn3,hn4,hn5,hn6,hn7,hn8,hn9,hn10,hn11,hn12,hn13,hn14,hn15]
 simp
structure BothG where
 i : Nat
 ds : List DV
 sa : Option Addr
 sc : Nat
 F : List Nat
 ss : List SV
 ta : Option Addr
 tc : Nat
 G : List Nat
 M : List RowV
 b : Bool
structure BothZ (l : List OpV) (z : BothG) : Prop where
 ev : evs' z.ds = mkD l
 len : z.ds.length = l.length + 1
 rel : RelL z.ss (mkD l)
 gd : ∀ s ∈ z.ss,s.good ∧ s.among z.M
set_option maxRecDepth 100000 in
theorem Both_c (l : List OpV) (a : Option Addr) (c : Nat) (hwf : ∀ x ∈ l,x.wf) (hl12 : l.length ≤ 12) (f : Nat) (hin : ∀ x ∈ l,OpIn x f ∧ x.l.length ≤ 40) (w : World) (hr : RdOps w l a) :
  Calls Tryz.prog 19 [.slice a l.length c].toArray w fun e w' => ∃ z : { z : BothG // BothZ l z },e = .returned (.tuple #[.slice z.1.sa z.1.ds.length z.1.sc,.slice z.1.ta z.1.ss.length z.1.tc,.bool z.1.b]) ∧ St w [] [rowc (.slice z.1.sa z.1.ds.length z.1.sc) z.1.ds.length 35 2 (dcs z.1.ds),dsC z.1.F z.1.ds,rowc (.slice z.1.ta z.1.ss.length z.1.tc) z.1.ss.length 44 2 (svs z.1.ss),rwC z.1.G z.1.M] w' := by
 refine enter Tryz.func19 rfl Tryz.ntmps19 rfl (St.init _) ?_
 refine jN 15 ?_
 refine WL.buildSlice F.sl48 F.ez48 rfl rfl rfl rfl jB rfl (fun b14 => ?_)
 refine jN 7 ?_
 refine jC (β := SX ([]) (fun z => z.v = [] ∧ ∀ M,z.has M = false)) (res := fun y => y.1.1.val) (cs := fun y => [rwC y.1.2.1 y.1.2.2]) F.fun50 rfl (fun w hS _ => (rConst_s false [] w).mono (fun e w2 h => h.sx)) (fun y => ?_)
 refine jN 1 ?_
 refine WL.buildSlice F.sl49 F.ez49 rfl rfl rfl rfl jB rfl (fun b16 => ?_)
 refine jN 18 ?_
 have hR0 : RelL [y.1.1] (mkD (l.take 0)) := by
  rw [List.take_zero]
  refine ⟨rfl,fun i s e h1 h2 => ?_⟩
  have hi0 : i = 0 := by have := (List.getElem?_eq_some_iff.1 h1).1; simp at this; exact this
  subst hi0
  cases h1
  cases h2
  intro cf M hM
  exact y.2.2.1.2 M
 have hG0 : ∀ s ∈ [y.1.1],s.good ∧ s.among y.1.2.2 := fun s hs => by rw [List.mem_singleton.1 hs]; exact ⟨y.2.1,y.2.2.2⟩
 refine WC.chunks (C' := [rowc (.slice (⟨0,[(.lf false,none,0)],some ⟨b14,0,none⟩,1,[],[y.1.1],some ⟨b16,0,none⟩,1,y.1.2.1,y.1.2.2,true⟩ : BothG).sa (⟨0,[(.lf false,none,0)],some ⟨b14,0,none⟩,1,[],[y.1.1],some ⟨b16,0,none⟩,1,y.1.2.1,y.1.2.2,true⟩ : BothG).ds.length (⟨0,[(.lf false,none,0)],some ⟨b14,0,none⟩,1,[],[y.1.1],some ⟨b16,0,none⟩,1,y.1.2.1,y.1.2.2,true⟩ : BothG).sc) (⟨0,[(.lf false,none,0)],some ⟨b14,0,none⟩,1,[],[y.1.1],some ⟨b16,0,none⟩,1,y.1.2.1,y.1.2.2,true⟩ : BothG).ds.length 35 2 (dcs (⟨0,[(.lf false,none,0)],some ⟨b14,0,none⟩,1,[],[y.1.1],some ⟨b16,0,none⟩,1,y.1.2.1,y.1.2.2,true⟩ : BothG).ds),dsC (⟨0,[(.lf false,none,0)],some ⟨b14,0,none⟩,1,[],[y.1.1],some ⟨b16,0,none⟩,1,y.1.2.1,y.1.2.2,true⟩ : BothG).F (⟨0,[(.lf false,none,0)],some ⟨b14,0,none⟩,1,[],[y.1.1],some ⟨b16,0,none⟩,1,y.1.2.1,y.1.2.2,true⟩ : BothG).ds,rowc (.slice (⟨0,[(.lf false,none,0)],some ⟨b14,0,none⟩,1,[],[y.1.1],some ⟨b16,0,none⟩,1,y.1.2.1,y.1.2.2,true⟩ : BothG).ta (⟨0,[(.lf false,none,0)],some ⟨b14,0,none⟩,1,[],[y.1.1],some ⟨b16,0,none⟩,1,y.1.2.1,y.1.2.2,true⟩ : BothG).ss.length (⟨0,[(.lf false,none,0)],some ⟨b14,0,none⟩,1,[],[y.1.1],some ⟨b16,0,none⟩,1,y.1.2.1,y.1.2.2,true⟩ : BothG).tc) (⟨0,[(.lf false,none,0)],some ⟨b14,0,none⟩,1,[],[y.1.1],some ⟨b16,0,none⟩,1,y.1.2.1,y.1.2.2,true⟩ : BothG).ss.length 44 2 (svs (⟨0,[(.lf false,none,0)],some ⟨b14,0,none⟩,1,[],[y.1.1],some ⟨b16,0,none⟩,1,y.1.2.1,y.1.2.2,true⟩ : BothG).ss),rwC (⟨0,[(.lf false,none,0)],some ⟨b14,0,none⟩,1,[],[y.1.1],some ⟨b16,0,none⟩,1,y.1.2.1,y.1.2.2,true⟩ : BothG).G (⟨0,[(.lf false,none,0)],some ⟨b14,0,none⟩,1,[],[y.1.1],some ⟨b16,0,none⟩,1,y.1.2.1,y.1.2.2,true⟩ : BothG).M]) (fun w hS => ?_) ?_
 ·have hS1 := St.dsZero (St.rowOf (n := 1) (sz := 2) ((St.pick hS (c := pt b14 [.slice none 0 0,.int .i64 0] 35) jR)) rfl (by decide))
  have hS2 := St.rowOf (n := 1) (sz := 2) ((St.pick hS1 (c := pt b16 (scl y.1.1) 44) jR)) rfl (by decide)
  exact (jK hS2)
 refine WC.loop (α := BothG) (fun g => g.i ≤ l.length ∧ g.ds.length = g.i + 1 ∧ evs' g.ds = mkD (l.take g.i) ∧ RelL g.ss (mkD (l.take g.i)) ∧ ∀ s ∈ g.ss,s.good ∧ s.among g.M) (fun g => [(0,.slice a l.length c),(5,.slice g.sa g.ds.length g.sc),(6,.slice g.ta g.ss.length g.tc),(7,.bool g.b),(8,.int .i64 (g.i : Int))]) (fun g => [rowc (.slice g.sa g.ds.length g.sc) g.ds.length 35 2 (dcs g.ds),dsC g.F g.ds,rowc (.slice g.ta g.ss.length g.tc) g.ss.length 44 2 (svs g.ss),rwC g.G g.M]) (fun g => l.length - g.i) (⟨0,[(.lf false,none,0)],some ⟨b14,0,none⟩,1,[],[y.1.1],some ⟨b16,0,none⟩,1,y.1.2.1,y.1.2.2,true⟩) ?_ ?_ ?_ ?_
 ·exact ⟨Nat.zero_le _,rfl,rfl,hR0,hG0⟩
 ·exact ⟨rfl,rfl,rfl,rfl,rfl,trivial⟩
 ·rfl
 rintro ⟨i,ds,sa,sc,F9,ss,ta,tc,G,M,b⟩ ⟨hi,hdl,hev,hRL,hgd⟩
 dsimp only at hi hdl hev hRL hgd
 show WC _ _ _ _ _ _ _ [(0,.slice a l.length c),(5,.slice sa ds.length sc),(6,.slice ta ss.length tc),(7,.bool b),(8,.int .i64 (i : Int))] [rowc (.slice sa ds.length sc) ds.length 35 2 (dcs ds),dsC F9 ds,rowc (.slice ta ss.length tc) ss.length 44 2 (svs ss),rwC G M]
 have hsl : ss.length = i + 1 := by rw [hRL.len,← hev]; unfold evs'; rw [List.length_map,hdl]
 refine jN 13 ?_
 refine WC.cond rfl (fun h20 => ?_) (fun h20 => ?_)
 ·have hlt : i < l.length := by simpa using h20
  obtain ⟨x,hx⟩ : ∃ x,l[i]? = some x := ⟨_,List.getElem?_eq_getElem hlt⟩
  obtain ⟨⟨bq,oq,ha,hcell⟩,hrc⟩ := hr i x hx
  subst ha
  have hw := hwf x (List.mem_of_getElem? hx)
  obtain ⟨_,hl40⟩ := hin x (List.mem_of_getElem? hx)
  refine jN 11 ?_
  refine WL.indexAddr F.sl46 rfl rfl rfl hlt ?_
  refine jN 1 ?_
  refine WL.loadN F.agg92 rfl rfl (vs := x.cells) rfl (fun w hS j u hu => hS.oldc (hcell j u hu) (by simp)) ?_
  refine jN 3 ?_
  refine jC (β := OneX ds (opD x (evs' ds))) (res := fun y => .tuple #[dval y.1.1.x.1 y.1.1.x.2.1 y.1.1.x.2.2,.int .i64 y.1.2]) (cs := fun y => [dsC y.1.1.F y.1.1.Bs]) F.fun51 rfl (fun w hS _ => (opOne_c x hw hl40 ds sa sc (by omega) (by omega) w (RdDL.of_row rfl (hS.ok (rowc (.slice sa ds.length sc) ds.length 35 2 (dcs ds)) jM) (hS.ok (dsC F9 ds) jM)) (RdC.nextO hrc hS)).mono (fun e w2 ⟨y,k,h1,h2,h3,h4,h5⟩ => ⟨⟨(y,k),h1,h2,h3⟩,h4,h5⟩)) (fun ⟨⟨y,k⟩,hy1,hy2,hy3⟩ => ?_)
  refine jN 7 ?_
  refine WL.alloc F.zero35 rfl (fun b9 => ?_)
  refine jN 13 ?_
  refine WL.indexAddr F.sl46 rfl rfl rfl hlt ?_
  refine jN 1 ?_
  refine WL.loadN F.agg92 rfl rfl (vs := x.cells) rfl (fun w hS j u hu => hS.oldc (hcell j u hu) (by simp)) ?_
  refine jN 3 ?_
  refine jC (β := SaidX M (fun q => RelS q (opD x (mkD (l.take i))))) (res := fun z => .tuple #[z.1.1.val,.int .i64 z.1.2.2.2]) (cs := fun z => [rwC z.1.2.1 z.1.2.2.1]) F.fun52 rfl (fun w hS _ => (Said_c x hw hl40 ss (mkD (l.take i)) hRL M hgd ta tc (by omega) (by omega) w (RdSL.of_row rfl (hS.ok (rowc (.slice ta ss.length tc) ss.length 44 2 (svs ss)) jM)) (fun q hq => rwC_rd (hS.ok (rwC G M) jM) hq) (RdC.nextO hrc hS)).mono (fun e w2 h => h.sx)) (fun z => ?_)
  refine jN 7 ?_
  refine WL.alloc F.zero44 rfl (fun b11 => ?_)
  refine jN 7 ?_
  refine WC.cutFE (α := Bool) (fun xE => [(0,.slice (some ⟨bq,oq,none⟩) l.length c),(5,.slice sa ds.length sc),(6,.slice ta ss.length tc),(7,.bool xE),(8,.int .i64 (i : Int)),(9,pp b9),(11,pp b11)]) (fun xE => [pt b11 (scl z.1.1) 44,rwC z.1.2.1 z.1.2.2.1,pt b9 (dvl y.x) 35,dsC y.F y.Bs,rowc (.slice sa ds.length sc) ds.length 35 2 (dcs ds),dsC F9 ds,rowc (.slice ta ss.length tc) ss.length 44 2 (svs ss),rwC G M]) (fun Q' hQ => ?_) (fun xE => ?_)
  ·refine jN 5 ?_
   refine WA.splitB (i := 42) rfl (fun g42 => ?_) (fun g42 => ?_)
   refine jN 14 ?_
   rotate_left
   refine jN 11 ?_
   rotate_left
   all_goals
    refine WQ.chunks (C' := [pt b11 (scl z.1.1) 44,rwC z.1.2.1 z.1.2.2.1,pt b9 (dvl y.x) 35,dsC y.F y.Bs,rowc (.slice sa ds.length sc) ds.length 35 2 (dcs ds),dsC F9 ds,rowc (.slice ta ss.length tc) ss.length 44 2 (svs ss),rwC G M]) (fun w hS => (jK hS)) ?_
    first | exact WQ.byCut (hQ (k == z.1.2.2.2)) ⟨rfl,rfl,rfl,rfl,rfl,rfl,rfl,trivial⟩ | exact WQ.byCut (hQ false) ⟨rfl,rfl,rfl,rfl,rfl,rfl,rfl,trivial⟩
  show WQ _ _ _ _ _ _ [(0,.slice (some ⟨bq,oq,none⟩) l.length c),(5,.slice sa ds.length sc),(6,.slice ta ss.length tc),(7,.bool xE),(8,.int .i64 (i : Int)),(9,pp b9),(11,pp b11)] [pt b11 (scl z.1.1) 44,rwC z.1.2.1 z.1.2.2.1,pt b9 (dvl y.x) 35,dsC y.F y.Bs,rowc (.slice sa ds.length sc) ds.length 35 2 (dcs ds),dsC F9 ds,rowc (.slice ta ss.length tc) ss.length 44 2 (svs ss),rwC G M]
  refine jN 8 ?_
  refine WL.buildSlice F.sl48 F.ez48 rfl rfl rfl rfl jB rfl (fun b49 => ?_)
  refine jN 1 ?_
  refine WL.appendE (news := dvl y.x) F.el48 rfl rfl rfl jR (fun w hS jj u hu => by rw [Nat.zero_add]; exact hS.cell (cs := dvl y.x) jM hu) rfl (by simp [dvl,Value.oneCell']) (Nat.le_trans (m := 1000) (by omega) (by decide)) (by omega) (fun a2 c2 => ?_)
  refine jN 10 ?_
  refine WL.buildSlice F.sl49 F.ez49 rfl rfl rfl rfl jB rfl (fun b53 => ?_)
  refine jN 1 ?_
  refine WL.appendE (news := scl z.1.1) F.el49 rfl rfl rfl jR (fun w hS jj u hu => by rw [Nat.zero_add]; exact hS.cell (cs := scl z.1.1) jM hu) rfl jO (Nat.le_trans (m := 1000) (by omega) (by decide)) (by omega) (fun a3 c3 => ?_)
  refine jN 13 ?_
  have e9 := snoc_len ds y.x
  have e7 := snoc_len ss z.1.1
  refine WQ.chunks (C' := [rowc (.slice a2 (ds ++ [y.x]).length c2) (ds ++ [y.x]).length 35 2 (dcs (ds ++ [y.x])),dsC (F9 ++ y.F) (ds ++ [y.x]),rowc (.slice a3 (ss ++ [z.1.1]).length c3) (ss ++ [z.1.1]).length 44 2 (svs (ss ++ [z.1.1])),rwC (G ++ z.1.2.1) (M ++ z.1.2.2.1)]) (fun w hS => ?_) ?_
  ·have hS1 := St.dsSub (m := ds ++ [y.x]) (St.dsJoin (St.pick (St.pick hS (c := dsC y.F y.Bs) jR) (c := dsC F9 ds) jR)) (fun z hz => (List.mem_append.1 hz).elim (fun h => List.mem_append_left _ h) (fun h => by rw [List.mem_singleton.1 h]; exact hy1.elim (fun h => List.mem_append_left _ h) (fun h => List.mem_append_right _ h)))
   have hS2 := St.rwJoin (St.pick (St.pick hS1 (c := rwC z.1.2.1 z.1.2.2.1) jR) (c := rwC G M) jR)
   have e8 : rowc (.slice a2 (ds ++ [y.x]).length c2) (ds ++ [y.x]).length 35 2 (dcs (ds ++ [y.x])) = rowc (.slice a2 (ds.length + 1) c2) (ds.length + 1) 35 2 (dcs ds ++ dvl y.x) := by rw [e9,dcs_append]; simp [dcs]
   have e6 : rowc (.slice a3 (ss ++ [z.1.1]).length c3) (ss ++ [z.1.1]).length 44 2 (svs (ss ++ [z.1.1])) = rowc (.slice a3 (ss.length + 1) c3) (ss.length + 1) 44 2 (svs ss ++ scl z.1.1) := by rw [e7,svs_append,svs_one]
   rw [e8,e6]
   exact (jK hS2)
  refine WQ.say 5 (.slice a2 (ds ++ [y.x]).length c2) (by rw [e9]; rfl) ?_
  refine WQ.say 6 (.slice a3 (ss ++ [z.1.1]).length c3) (by rw [e7]; rfl) ?_
  have hR2 : RelL (ss ++ [z.1.1]) (mkD (l.take (i + 1))) := by rw [mkD_take hx]; exact hRL.snoc z.2.2.1
  have hG2 : ∀ s ∈ ss ++ [z.1.1],s.good ∧ s.among (M ++ z.1.2.2.1) := fun s hs => by
   rcases List.mem_append.1 hs with h | h
   ·exact ⟨(hgd s h).1,(hgd s h).2.mono fun q hq => List.mem_append_left _ hq⟩
   ·rw [List.mem_singleton.1 h]; exact ⟨z.2.1,z.2.2.2⟩
  refine WQ.back (⟨i + 1,ds ++ [y.x],a2,c2,F9 ++ y.F,ss ++ [z.1.1],a3,c3,G ++ z.1.2.1,M ++ z.1.2.2.1,xE⟩) ?_ ?_ ?_ ?_
  ·exact ⟨by (show i + 1 ≤ l.length; omega),by (show (ds ++ [y.x]).length = i + 1 + 1; omega),mk_step hx hev hy3,hR2,hG2⟩
  ·(show l.length - (i + 1) < l.length - i; omega)
  ·exact ⟨rfl,rfl,rfl,rfl,rfl,trivial⟩
  rfl
 have hie : i = l.length := by simp at h20; omega
 subst hie
 rw [List.take_length] at hev hRL
 refine jN 22 ?_
 exact WQ.ret (rs := [.tmp 2,.tmp 3,.tmp 4]) rfl (.tmp rfl (.tmp rfl (.tmp rfl .nil))) (fun w hS => ⟨⟨⟨l.length,ds,sa,sc,F9,ss,ta,tc,G,M,b⟩,⟨hev,hdl,hRL,hgd⟩⟩,rfl,(jK hS)⟩)
theorem rFull_c (v : List Nat) (bs : List Bool) (hll : bs.length ≤ 1099511627776) (a ta : Option Addr) (c tc : Nat) (w : World) (hrb : RdB w bs ta) :
  Pure Tryz.prog 60 [sval v a c bs ta tc] w (.bool (bs.all id)) := by
 refine enter Tryz.func60 rfl Tryz.ntmps60 rfl (St.init _) ?_
 refine jN 3 ?_
 refine WL.boxN rfl rfl (fun b1 => ?_)
 refine jN 5 ?_
 refine WC.drawsL (by kernel_rfl) (FactsOk.cons (ds := [1]) (LoadOk.whole (t := 1) rfl jM) (FactsOk.cons (ds := []) (LoadOk.one (t := 1) (off := 1) rfl jM rfl) (FactsOk.nil))) ?_
 refine jF 0 0 rfl rfl (Yl.loadN F.agg44 rfl rfl) ?_
 refine jT 2 rfl (Yl.fieldAddr0 F.fld44_1 rfl) ?_
 refine jF 3 1 rfl rfl (Yl.load1 F.one42 rfl) ?_
 refine jT 4 rfl (Yl.lenSl F.und42 rfl) ?_
 refine jA 1 rfl ?_
 refine WL.callV F.fun123 rfl rfl (fun w hS => Many_c v bs hll a ta c tc w (hrb.next hS)) ?_
 refine WD.on (closed_of (by kernel_rfl)) (fun w hS => Sx.gone rfl (Sx.keep (hS.cell jM rfl) (Sx.none))) ?_
 refine jT 5 rfl (Yl.eqI rfl rfl) ?_
 refine jT 6 rfl (Yl.assign rfl) ?_
 refine jD ?_
 refine jN 2 ?_
 refine WQ.ret (rs := [.tmp 2]) rfl (.tmp rfl .nil) (fun w hS => ⟨?_,hS.sublist (List.nil_sublist _)⟩)
 have e : ((cntB bs : Int) == (bs.length : Int)) = bs.all id := by
  rw [Bool.eq_iff_iff,beq_iff_eq,← cnt_all]
  omega
 rw [e]
 rfl
theorem SV.good.len {s : SV} (h : s.good) : s.bs.length ≤ 1099511627776 := by
 rw [h.bl]
 exact Nat.le_trans (Nat.pow_le_pow_right (by decide) h.vl) (by decide)
theorem few_step {f v m : Nat} (hm : m ≤ v) (hv : v < 24) (hb : f.testBit v = true) : ((featL f).filter (fun x => decide (v + 1 ≤ x))).length + 1 ≤ ((featL f).filter (fun x => decide (m ≤ x))).length := by
 have hmem : v ∈ (featL f).filter (fun x => decide (m ≤ x)) := List.mem_filter.2 ⟨feat_mem.2 ⟨hv,hb⟩,decide_eq_true hm⟩
 have e : (featL f).filter (fun x => decide (v + 1 ≤ x)) = ((featL f).filter (fun x => decide (m ≤ x))).filter (fun x => decide (v + 1 ≤ x)) := by
  rw [List.filter_filter]
  refine List.filter_congr fun x _ => ?_
  rw [Bool.eq_iff_iff,Bool.and_eq_true,decide_eq_true_eq,decide_eq_true_eq]
  omega
 rw [e]
 generalize hq : (featL f).filter (fun x => decide (m ≤ x)) = l at hmem
 have key : ∀ l : List Nat,v ∈ l → (l.filter (fun x => decide (v + 1 ≤ x))).length + 1 ≤ l.length := by
  intro l
  induction l with
  | nil => intro h; cases h
  | cons y l ih =>
   intro h
   rcases List.mem_cons.1 h with rfl | h
   ·rw [List.filter_cons,if_neg (by simp),List.length_cons]
    exact Nat.succ_le_succ (List.length_filter_le _ _)
   ·have := ih h
    rw [List.filter_cons]
    split <;> simp only [List.length_cons] <;> omega
 exact key l hmem
theorem last_few {l : List OpV} {f : Nat} (hin : ∀ x ∈ l,OpIn x f ∧ x.l.length ≤ 40) {ds : List DV} (h : evs' ds = mkD l) {x : DV} (hx : x ∈ ds) (ho : x.1.ok 0) : ∀ k,hasVar k x.1 → f.testBit k = true := fun k hk => by
 have hd : dep f x.1.ev := by
  refine mkD_dep l [fun _ => false] (fun y hy => (hin y hy).1) (fun e he => by rw [List.mem_singleton.1 he]; exact dep_const f false) _ ?_
  have : x.1.ev ∈ evs' ds := List.mem_map.2 ⟨x,hx,rfl⟩
  rw [h] at this
  exact this
 exact sup_in ho hd ((sup_var ho k).2 hk)
def ofT (names : List (List UInt8)) : BT → Tree
 | .lf b => .mk (bif b then 2 else 1) [] []
 | .nd v lo hi => shapeT (.mk 3 (names.getD v []) []) (ofT names lo) (ofT names hi)
def subT (s : BT) : BT → Prop
 | .lf b => s = .lf b
 | .nd v lo hi => s = .nd v lo hi ∨ subT s lo ∨ subT s hi
theorem subT_self : ∀ t : BT,subT t t
 | .lf _ => rfl
 | .nd _ _ _ => .inl rfl
theorem visitT_sub : ∀ (t : BT) (out : List Dec) (p : Nat),p < (visitT t out).1.length + 2 → p < out.length + 2 ∨ subT (trs (visitT t out).1 p) t
 | .lf b,out,p,h => .inl h
 | .nd v lo hi,out,p,h => by
  unfold visitT at h ⊢
  cases hl : Dg.look out (BT.nd v lo hi) with
  | some q => rw [hl] at h; exact .inl h
  | none =>
   rw [hl] at h
   simp only [List.length_append,List.length_cons,List.length_nil] at h ⊢
   by_cases hp : p = (visitT hi (visitT lo out).1).1.length + 2
   ·right
    subst hp
    obtain ⟨a1,a2⟩ := visitT_at lo out
    obtain ⟨b1,b2⟩ := visitT_at hi (visitT lo out).1
    obtain ⟨r,hr⟩ := visitT_pre hi (visitT lo out).1
    rw [trs_snoc_new,b2]
    have : trs (visitT hi (visitT lo out).1).1 (visitT lo out).2 = lo := by rw [hr,trs_append a1,a2]
    simp only [this]
    exact .inl rfl
   ·have hp' : p < (visitT hi (visitT lo out).1).1.length + 2 := by omega
    rw [trs_snoc_old hp']
    rcases visitT_sub hi (visitT lo out).1 p hp' with h2 | h2
    ·rcases visitT_sub lo out p h2 with h3 | h3
     ·exact .inl h3
     ·obtain ⟨r,hr⟩ := visitT_pre hi (visitT lo out).1
      rw [hr,trs_append h2]
      exact .inr (.inr (.inl h3))
    ·exact .inr (.inr (.inr h2))
theorem canon_sub {t : BT} {k : Nat} (hk : k < (canon t).1.length) : subT (trs (canon t).1 (k + 2)) t := by
 rcases visitT_sub t [] (k + 2) (by have : (visitT t []).1.length = (canon t).1.length := rfl; omega) with h | h
 ·exfalso
  have e : ([] : List Dec).length = 0 := rfl
  omega
 exact h
theorem subT_ok : ∀ {t s : BT} {m : Nat},t.ok m → subT s t → s.ok m
 | .lf b,s,m,h,hs => by rw [show s = .lf b from hs]; trivial
 | .nd v lo hi,s,m,h,hs => by
  rcases hs with rfl | hs | hs
  ·exact h
  ·exact BT.ok_mono (subT_ok h.2.2.2.1 hs) (Nat.le_succ_of_le h.1)
  ·exact BT.ok_mono (subT_ok h.2.2.2.2 hs) (Nat.le_succ_of_le h.1)
theorem subT_var : ∀ {t s : BT} {x : Nat},subT s t → hasVar x s → hasVar x t
 | .lf b,s,x,hs,h => by rw [show s = .lf b from hs] at h; exact h
 | .nd v lo hi,s,x,hs,h => by
  rcases hs with rfl | hs | hs
  ·exact h
  ·exact .inr (.inl (subT_var hs h))
  ·exact .inr (.inr (subT_var hs h))
theorem shape_nT {nm : List UInt8} (lo hi : Tree) : nT (shapeT (.mk 3 nm []) lo hi) ≤ 2 + nT hi + nT lo := by
 have h1 := nT_pos lo
 have h2 := nT_pos hi
 have hx : nT (.mk 3 nm [] : Tree) = 1 := by simp [nT,Fm.rowT,Fm.rowL]
 have hn : nT (.mk 4 [] [.mk 3 nm []] : Tree) = 2 := by simp [nT,Fm.rowT,Fm.rowL]
 have e2 : ∀ op a b,nT (.mk op [] [a,b] : Tree) = 1 + nT a + nT b := fun op a b => by simp [nT,Fm.rowT,Fm.rowL]; omega
 have e3 : ∀ op a b c,nT (.mk op [] [a,b,c] : Tree) = 1 + nT a + nT b + nT c := fun op a b c => by simp [nT,Fm.rowT,Fm.rowL]; omega
 unfold shapeT
 repeat (split; · first | (rw [hx]; omega) | (rw [hn]; omega) | (rw [e2,hx]; omega) | (rw [e2,hn]; omega))
 rw [e3,hx]; omega
theorem of_nT {names : List (List UInt8)} {f : Nat} : ∀ {t : BT} {m : Nat},t.ok m → (∀ x,hasVar x t → f.testBit x = true) → nT (ofT names t) + 2 ≤ 3 * 2 ^ ((featL f).filter (fun x => decide (m ≤ x))).length
 | .lf b,m,_,_ => by
  have h2 : 1 ≤ 2 ^ ((featL f).filter (fun x => decide (m ≤ x))).length := Nat.one_le_two_pow
  have : nT (ofT names (.lf b)) = 1 := by simp [ofT,nT,Fm.rowT,Fm.rowL]
  omega
 | .nd v lo hi,m,h,hv => by
  have h1 := of_nT (names := names) (t := lo) h.2.2.2.1 (fun x hx => hv x (.inr (.inl hx)))
  have h2 := of_nT (names := names) (t := hi) h.2.2.2.2 (fun x hx => hv x (.inr (.inr hx)))
  have hlt := few_step (f := f) h.1 h.2.1 (hv v (.inl rfl))
  have h3 : 2 ^ (((featL f).filter (fun x => decide (v + 1 ≤ x))).length + 1) ≤ 2 ^ ((featL f).filter (fun x => decide (m ≤ x))).length := Nat.pow_le_pow_right (by decide) hlt
  rw [Nat.pow_succ] at h3
  have h4 := shape_nT (nm := names.getD v []) (ofT names lo) (ofT names hi)
  show nT (shapeT _ _ _) + 2 ≤ _
  omega
theorem shape_lev {nm : List UInt8} (lo hi : Tree) {n : Nat} (h3 : 2 ≤ n) (h1 : Fm.levT lo ≤ n) (h2 : Fm.levT hi ≤ n) : Fm.levT (shapeT (.mk 3 nm []) lo hi) ≤ n + 1 := by
 have hx : Fm.levT (.mk 3 nm [] : Tree) = 1 := by simp [Fm.levT,Fm.levL]
 have hn : Fm.levT (.mk 4 [] [.mk 3 nm []] : Tree) = 2 := by simp [Fm.levT,Fm.levL]
 have e2 : ∀ op a b,Fm.levT (.mk op [] [a,b] : Tree) = max (Fm.levT a) (Fm.levT b) + 1 := fun op a b => by simp [Fm.levT,Fm.levL]
 have e3 : ∀ op a b c,Fm.levT (.mk op [] [a,b,c] : Tree) = max (Fm.levT a) (max (Fm.levT b) (Fm.levT c)) + 1 := fun op a b c => by simp [Fm.levT,Fm.levL]
 unfold shapeT
 repeat (split; · first | (rw [hx]; omega) | (rw [hn]; omega) | (rw [e2,hx]; omega) | (rw [e2,hn]; omega))
 rw [e3,hx]; omega
theorem of_lev {names : List (List UInt8)} : ∀ {t : BT} {m : Nat},t.ok m → m ≤ 24 → Fm.levT (ofT names t) ≤ 27 - m
 | .lf b,m,_,hm => by
  have : Fm.levT (ofT names (.lf b)) = 1 := by simp [ofT,Fm.levT,Fm.levL]
  omega
 | .nd v lo hi,m,h,hm => by
  have e1 := h.1
  have e2 := h.2.1
  have h1 := of_lev (names := names) (t := lo) h.2.2.2.1 (by omega)
  have h2 := of_lev (names := names) (t := hi) h.2.2.2.2 (by omega)
  have h3 := shape_lev (nm := names.getD v []) (ofT names lo) (ofT names hi) (n := 27 - (v + 1)) (by omega) h1 h2
  show Fm.levT (shapeT _ _ _) ≤ _
  omega
theorem shape_all {P : Tree → Prop} {nm : List UInt8} {lo hi : Tree} (hx : P (.mk 3 nm [])) (hn : P (.mk 4 [] [.mk 3 nm []])) (h5 : ∀ op a b,op = 5 ∨ op = 6 → P (.mk op [] [a,b])) (h10 : ∀ a b c,P (.mk 10 [] [a,b,c]))
  (hlo : ∀ k ∈ Fm.rowT lo,P k) (hhi : ∀ k ∈ Fm.rowT hi,P k) : ∀ k ∈ Fm.rowT (shapeT (.mk 3 nm []) lo hi),P k := by
 have kx : ∀ k ∈ Fm.rowT (.mk 3 nm [] : Tree),P k := by simp [Fm.rowT,Fm.rowL]; exact hx
 have kn : ∀ k ∈ Fm.rowT (.mk 4 [] [.mk 3 nm []] : Tree),P k := by simp [Fm.rowT,Fm.rowL]; exact ⟨hn,hx⟩
 have e2 : ∀ op a b,op = 5 ∨ op = 6 → (∀ k ∈ Fm.rowT a,P k) → (∀ k ∈ Fm.rowT b,P k) → ∀ k ∈ Fm.rowT (.mk op [] [a,b] : Tree),P k := fun op a b ho ha hb k hk => by
  simp only [Fm.rowT,Fm.rowL,List.append_nil,List.mem_cons,List.mem_append] at hk
  rcases hk with rfl | hk | hk
  ·exact h5 op a b ho
  ·exact ha k hk
  ·exact hb k hk
 unfold shapeT
 split
 ·exact kx
 split
 ·exact kn
 split
 ·exact e2 5 _ _ (.inl rfl) kx hhi
 split
 ·exact e2 6 _ _ (.inr rfl) kx hlo
 split
 ·exact e2 5 _ _ (.inl rfl) kn hlo
 split
 ·exact e2 6 _ _ (.inr rfl) kn hhi
 intro k hk
 simp only [Fm.rowT,Fm.rowL,List.append_nil,List.nil_append,List.mem_cons,List.mem_append,List.not_mem_nil,or_false] at hk
 rcases hk with rfl | rfl | hk | hk
 ·exact h10 _ _ _
 ·exact hx
 ·exact hhi k hk
 exact hlo k hk
theorem of_all {P : Tree → Prop} {names : List (List UInt8)} (hlf : ∀ b : Bool,P (.mk (bif b then 2 else 1) [] [])) (hn : ∀ nm,P (.mk 4 [] [.mk 3 nm []])) (h5 : ∀ op a b,op = 5 ∨ op = 6 → P (.mk op [] [a,b])) (h10 : ∀ a b c,P (.mk 10 [] [a,b,c])) :
  ∀ t : BT,(∀ x,hasVar x t → P (.mk 3 (names.getD x []) [])) → ∀ k ∈ Fm.rowT (ofT names t),P k
 | .lf b,_,k,hk => by
  simp only [ofT,Fm.rowT,Fm.rowL,List.mem_singleton] at hk
  rw [hk]; exact hlf b
 | .nd v lo hi,h,k,hk => shape_all (h v (.inl rfl)) (hn _) h5 h10 (of_all hlf hn h5 h10 lo fun x hx => h x (.inr (.inl hx))) (of_all hlf hn h5 h10 hi fun x hx => h x (.inr (.inr hx))) k hk
theorem names_good : ∀ (l pre : List (List UInt8)),namesG pre l = 0 → ∀ (i : Nat) (s : List UInt8),l[i]? = some s → Fm.isNameB s = true ∧ pre.contains s = false ∧ (l.take i).contains s = false
 | [],_,_,i,s,h => by simp at h
 | x :: l,pre,h0,i,s,h => by
  unfold namesG at h0
  split at h0
  ·cases h0
  split at h0
  ·cases h0
  rename_i a1 a2
  have a1 : Fm.isNameB x = true := by simpa using a1
  have a2 : pre.contains x = false := by simpa using a2
  cases i with
  | zero =>
   simp only [List.getElem?_cons_zero,Option.some.injEq] at h
   subst h
   exact ⟨a1,a2,rfl⟩
  | succ i =>
   simp only [List.getElem?_cons_succ] at h
   obtain ⟨b1,b2,b3⟩ := names_good l (pre ++ [x]) h0 i s h
   have b2' : pre.contains s = false ∧ (s == x) = false := by
    simp only [List.contains_eq_mem,List.mem_append,List.mem_singleton,decide_eq_false_iff_not,not_or] at b2 ⊢
    exact ⟨b2.1,by simpa using b2.2⟩
   refine ⟨b1,b2'.1,?_⟩
   rw [List.take_succ_cons,List.contains_cons,b2'.2,b3]
   rfl
theorem names_at {names : List (List UInt8)} (h : namesE names = 0) {x : Nat} (hx : x < names.length) : Fm.isNameB (names.getD x []) = true ∧ (idxS names (names.getD x [])).toNat = x ∧ names.contains (names.getD x []) = true := by
 unfold namesE at h
 split at h
 ·cases h
 obtain ⟨s,hs⟩ : ∃ s,names[x]? = some s := ⟨_,List.getElem?_eq_getElem hx⟩
 have hg : names.getD x [] = s := by rw [List.getD_eq_getElem?_getD,hs]; rfl
 obtain ⟨a1,_,a3⟩ := names_good names [] h x s hs
 rw [hg]
 refine ⟨a1,by rw [idxS_hit a3 hs]; rfl,?_⟩
 rw [List.contains_iff_exists_mem_beq]
 exact ⟨s,List.mem_of_getElem? hs,by simp⟩
theorem used_of : ∀ (ts : List Tree) (acc : List (List UInt8)) (s : List UInt8),s ∈ ts.foldl usedStep acc → s ∈ acc ∨ ∃ k ∈ ts,k.op = 3 ∧ k.name = s
 | [],acc,s,h => .inl h
 | t :: ts,acc,s,h => by
  rcases used_of ts _ s h with h | ⟨k,hk,h3⟩
  ·unfold usedStep at h
   split at h
   ·rename_i hc
    rcases List.mem_append.1 h with h | h
    ·exact .inl h
    ·refine .inr ⟨t,List.mem_cons_self ..,?_,(List.mem_singleton.1 h).symm⟩
     simp at hc
     exact hc.1
   ·exact .inl h
  ·exact .inr ⟨k,List.mem_cons_of_mem _ hk,h3⟩
theorem of_may {names : List (List UInt8)} {t : BT} {f : Nat} (hn : namesE names = 0) (ho : t.ok 0) (hl : ∀ x,hasVar x t → x < names.length) (hf : ∀ x,hasVar x t → f.testBit x = true) (hf7 : (featL f).length ≤ 7) :
  Fm.validB (ofT names t) = true ∧ knownB (ofT names t) names = true ∧ nT (ofT names t) ≤ 382 := by
 have hsz := of_nT (names := names) (m := 0) ho hf
 have h2 : (featL f).filter (fun k => decide (0 ≤ k)) = featL f := List.filter_eq_self.2 (fun k _ => by simp)
 rw [h2] at hsz
 have h3 : 2 ^ (featL f).length ≤ 2 ^ 7 := Nat.pow_le_pow_right (by decide) hf7
 have hsz2 : nT (ofT names t) ≤ 382 := by omega
 have hlv := of_lev (names := names) (m := 0) ho (by decide)
 refine ⟨?_,?_,hsz2⟩
 ·rw [← Fm.refValid_eq]
  unfold Fm.refValid
  have ha : (Fm.rowT (ofT names t)).all Fm.oneB = true := by
   rw [List.all_eq_true]
   refine of_all (P := fun k => Fm.oneB k = true) (fun b => by cases b <;> rfl) (fun nm => rfl) (fun op a b h => by rcases h with rfl | rfl <;> rfl) (fun a b c => rfl) t fun x hx => ?_
   have := (names_at hn (hl x hx)).1
   show (if (3 : Int) = 3 then decide (([] : List Tree).length = 0) && Fm.isNameB (names.getD x []) else _) = true
   rw [if_pos rfl,this]
   rfl
  have hl2 : (Fm.rowT (ofT names t)).length ≤ 1000 := Nat.le_trans hsz2 (by decide)
  have hl3 : Fm.levT (ofT names t) ≤ 64 := by omega
  rw [ha,decide_eq_true hl2,decide_eq_true hl3]
  rfl
 unfold knownB
 rw [List.all_eq_true]
 intro s hs
 unfold usedF at hs
 rcases used_of _ [] s hs with h | ⟨k,hk,h3,rfl⟩
 ·cases h
 have key := of_all (P := fun k => k.op = 3 → names.contains k.name = true) (names := names) (fun b => by cases b <;> simp [Tree.op]) (fun nm => by simp [Tree.op]) (fun op a b h => by rcases h with rfl | rfl <;> simp [Tree.op]) (fun a b c => by simp [Tree.op]) t (fun x hx _ => (names_at hn (hl x hx)).2.2) k hk
 exact key h3
set_option maxRecDepth 100000 in
theorem Of1_c (names : List (List UInt8)) (na : Option Addr) (nc bn i : Nat) (nm : List UInt8) (hnm : names[i]? = some nm) (lo hi : Tree) (la ha : Option Addr) (lc hc : Nat) (Gl Gh E : List Nat) (hsz : 2 + nT hi + nT lo ≤ 1000) (wb w : World) (hbn : w.cell? ⟨bn,0,none⟩ = some (.slice na names.length nc)) (hnr : RdS w names na)
  (hrl : rdT wb lo Gl (tv lo la lc)) (hrh : rdT wb hi Gh (tv hi ha hc)) (hbl : ∀ k ∈ Gl,k < wb.heap.size ∧ k ∈ E) (hbh : ∀ k ∈ Gh,k < wb.heap.size ∧ k ∈ E) :
  Calls Tryz.prog 64 ([] ++ [Value.int .i64 (i : Int),.agg (szL (lo,la,lc)).toArray,.agg (szL (hi,ha,hc)).toArray] ++ [pp bn]).toArray w fun e w' => ∃ y : ShZ,e = .returned (.agg (szL ((shapeT (.mk 3 nm []) lo hi),y.2.1,y.2.2)).toArray) ∧ St w [] [shrE E wb y.1 (shapeT (.mk 3 nm []) lo hi) (tv (shapeT (.mk 3 nm []) lo hi) y.2.1 y.2.2)] w' := by
 obtain ⟨nb,off,hna,hcell⟩ := hnr i nm hnm
 subst hna
 refine enter Tryz.func64 rfl Tryz.ntmps64 rfl (St.init _) ?_
 refine jN 3 ?_
 refine WL.boxN rfl rfl (fun b5 => ?_)
 refine jN 1 ?_
 refine WL.boxN rfl rfl (fun b6 => ?_)
 refine jN 1 ?_
 refine WL.alloc F.zero108 rfl (fun b7 => ?_)
 refine jN 3 ?_
 refine WC.drawsL (by kernel_rfl) (FactsOk.cons (ds := [7,8]) (LoadOk.by (Y := fun w => w.cell? ⟨bn,0,none⟩ = some (.slice (some ⟨nb,off,none⟩) names.length nc)) (fun w hS => hS.oldc hbn (by simp))) (FactsOk.cons (ds := [7,8]) (LoadOk.by (Y := fun w => w.cell? ⟨nb,off + i * 1,none⟩ = some (.string (str nm))) (fun w hS => by rw [Nat.mul_one]; exact hS.oldc hcell (by simp))) (FactsOk.cons (ds := [7,8]) (LoadOk.whole (t := 5) rfl jM) (FactsOk.cons (ds := [7,8]) (LoadOk.whole (t := 6) rfl jM) (FactsOk.nil))))) ?_
 refine jF 0 0 rfl rfl (Yl.load1 F.one25 rfl) ?_
 refine jT 1 rfl (Yl.move rfl) ?_
 refine jT 2 rfl (Yl.indexAddr (i := i) F.sl25 rfl rfl (List.getElem?_eq_some_iff.1 hnm).1) ?_
 refine jF 3 1 rfl rfl (Yl.load1 F.one9 rfl) ?_
 refine jT 4 rfl (Yl.build F.stT24 rfl jB) ?_
 refine jF 5 2 rfl rfl (Yl.loadN F.agg108 rfl rfl) ?_
 refine jF 6 3 rfl rfl (Yl.loadN F.agg108 rfl rfl) ?_
 refine jA 7 rfl ?_
 refine jC (β := ShZ) (res := fun y => .agg (szL ((shapeT (.mk 3 nm []) lo hi),y.2.1,y.2.2)).toArray) (cs := fun y => [shrE E wb y.1 (shapeT (.mk 3 nm []) lo hi) (tv (shapeT (.mk 3 nm []) lo hi) y.2.1 y.2.2)]) F.fun65 rfl (fun w hS _ => shape_c nm none 0 lo hi la ha lc hc Gl Gh E hsz wb w hrl hrh hbl hbh) (fun y => ?_)
 refine jG ?_
 refine jA 8 rfl ?_
 refine WL.storeN F.agg108 rfl rfl rfl (szL_one _) jU (by repeat constructor) ?_
 refine jG ?_
 refine jD ?_
 refine jN 2 ?_
 refine WQ.ret (rs := [.cell 7 108]) rfl (.cellN F.agg108 rfl jM rfl .nil) (fun w hS => ⟨y,rfl,(jK hS)⟩)
theorem names_24 {names : List (List UInt8)} (h : namesE names = 0) : names.length ≤ 24 := by
 unfold namesE at h
 split at h
 ·cases h
 omega
theorem rd_none {w : World} {l : List Dec} {a : Option Addr} (h : RdDec w l a) : RdDecO w l a [] := fun j u hu => by
 obtain ⟨b,off,e1,e2⟩ := h j u hu
 exact ⟨b,off,e1,e2,by simp⟩
theorem sub_trans : ∀ {t s r : BT},subT r s → subT s t → subT r t
 | .lf b,s,r,h,hs => by rw [show s = .lf b from hs] at h; exact h
 | .nd v lo hi,s,r,h,hs => by
  rcases hs with rfl | hs | hs
  ·exact h
  ·exact .inr (.inl (sub_trans h hs))
  ·exact .inr (.inr (sub_trans h hs))
structure OfI (names : List (List UInt8)) (la : List Dec) (out : List SzT) (s : List Nat × List SzT) : Prop where
 eq : s.2 = out
 two : 2 ≤ out.length
 at' : ∀ (k : Nat) (z : SzT),out[k]? = some z → z.1 = ofT names (trs la k)
theorem OfI.nil (names : List (List UInt8)) (la : List Dec) : OfI names la [(.mk 1 [] [],none,0),(.mk 2 [] [],none,0)] ([],[(.mk 1 [] [],none,0),(.mk 2 [] [],none,0)]) := by
 refine ⟨rfl,by simp,fun k z hk => ?_⟩
 have hl := (List.getElem?_eq_some_iff.1 hk).1
 simp at hl
 rcases k with _ | _ | k
 ·simp only [List.getElem?_cons_zero,Option.some.injEq] at hk; subst hk; rw [(trs_zero la).1]; rfl
 ·simp only [Nat.zero_add,List.getElem?_cons_succ,List.getElem?_cons_zero,Option.some.injEq] at hk; subst hk; rw [(trs_zero la).2]; rfl
 omega
theorem ts_init (w : World) : St w [] [tsC [] [(.mk 1 [] [],none,0),(.mk 2 [] [],none,0)]] w := by
 have hr : ∀ op : Int,rdT w (.mk op [] []) [] (tv (.mk op [] []) none 0) := fun op => by
  simp only [rdT]
  exact ⟨_,rfl,.inl ⟨trivial,trivial,none,0,rfl⟩⟩
 refine ⟨rfl,rfl,rfl,Nat.le_refl _,fun _ _ _ => rfl,fun c hc => ?_,fun c hc k hk => ?_,List.pairwise_singleton _ _⟩
 ·rw [List.mem_singleton.1 hc]
  intro x hx
  simp only [List.mem_cons,List.not_mem_nil,or_false] at hx
  rcases hx with rfl | rfl
  ·exact ⟨[],by simp,hr 1⟩
  exact ⟨[],by simp,hr 2⟩
 rw [List.mem_singleton.1 hc] at hk
 cases hk
theorem of_join (names : List (List UInt8)) (na : Option Addr) (nc bn : Nat) (t : BT) (ho : t.ok 0) (hl : ∀ x,hasVar x t → x < names.length) (hsz : ∀ s,subT s t → nT (ofT names s) ≤ 382) (w0 : World) (hbn : w0.cell? ⟨bn,0,none⟩ = some (.slice na names.length nc)) (hnr : RdS w0 names na)
  (out : List SzT) (s : List Nat × List SzT) (x : Dec) (z1 z2 : SzT) (w1 : World) (hx : (canon t).1[out.length - 2]? = some x) (hI : OfI names (canon t).1 out s) (h1 : out[x.2.1]? = some z1) (h2 : out[x.2.2]? = some z2) (hS0 : St w0 [] [] w1) (hS : St w1 s.1 [tsC s.1 s.2] w1) :
  Calls Tryz.prog 64 ([] ++ [Value.int .i64 (x.1 : Int),.agg (szL z1).toArray,.agg (szL z2).toArray] ++ [pp bn]).toArray w1 fun e w' => ∃ y : { y : (List Nat × List SzT) × SzT // OfI names (canon t).1 (out ++ [y.2]) y.1 },e = .returned (.agg (szL y.1.2).toArray) ∧ St w1 s.1 [tsC y.1.1.1 y.1.1.2] w' := by
 have hmk := canon_mk ho
 have hk9 := (List.getElem?_eq_some_iff.1 hx).1
 have htr := hmk.at hx
 have h2o := hI.two
 rw [show out.length - 2 + 2 = out.length by omega] at htr
 have hsub : subT (trs (canon t).1 out.length) t := by
  have := canon_sub (t := t) hk9
  rwa [show out.length - 2 + 2 = out.length by omega] at this
 rw [htr] at hsub
 have hv : x.1 < names.length := hl x.1 (subT_var hsub (.inl rfl))
 have hs1 : subT (trs (canon t).1 x.2.1) t := sub_trans (show subT (trs (canon t).1 x.2.1) (.nd x.1 (trs (canon t).1 x.2.1) (trs (canon t).1 x.2.2)) from .inr (.inl (subT_self _))) hsub
 have hs2 : subT (trs (canon t).1 x.2.2) t := sub_trans (show subT (trs (canon t).1 x.2.2) (.nd x.1 (trs (canon t).1 x.2.1) (trs (canon t).1 x.2.2)) from .inr (.inr (subT_self _))) hsub
 have e1 := hI.at' _ _ h1
 have e2 := hI.at' _ _ h2
 have b1 := hsz _ hs1
 have b2 := hsz _ hs2
 rw [← e1] at b1
 rw [← e2] at b2
 obtain ⟨F,l⟩ := s
 have hl2 : l = out := hI.eq
 subst hl2
 have hok := hS.ok _ (List.mem_cons_self ..)
 obtain ⟨G1,g1,r1⟩ := hok z1 (List.mem_of_getElem? h1)
 obtain ⟨G2,g2,r2⟩ := hok z2 (List.mem_of_getElem? h2)
 have hbd : ∀ k ∈ F,k < w1.heap.size := fun k hk => (hS.bnd _ (List.mem_cons_self ..) k hk).1
 obtain ⟨t1,a1,c1⟩ := z1
 obtain ⟨t2,a2,c2⟩ := z2
 refine (Of1_c names na nc bn x.1 (names.getD x.1 []) (by rw [List.getD_eq_getElem?_getD,List.getElem?_eq_getElem hv]; rfl) t1 t2 a1 a2 c1 c2 G1 G2 F (by dsimp only at b1 b2; omega) w1 w1 (hS0.oldc hbn (by simp)) (hnr.next hS0) r1 r2 (fun k hk => ⟨hbd k (g1 k hk),g1 k hk⟩) (fun k hk => ⟨hbd k (g2 k hk),g2 k hk⟩)).mono ?_
 rintro e w' ⟨y,he,hS2⟩
 refine ⟨⟨((F ++ y.1,l ++ [(shapeT (.mk 3 (names.getD x.1 []) []) t1 t2,y.2.1,y.2.2)]),(shapeT (.mk 3 (names.getD x.1 []) []) t1 t2,y.2.1,y.2.2)),⟨rfl,by simp; omega,fun k z hk => ?_⟩⟩,he,tsC_more hS hS2⟩
 by_cases hkl : k < l.length
 ·rw [List.getElem?_append_left hkl] at hk
  exact hI.at' k z hk
 rw [List.getElem?_append_right (by omega)] at hk
 have hl9 := (List.getElem?_eq_some_iff.1 hk).1
 simp at hl9
 have hke : k = l.length := by omega
 subst hke
 rw [Nat.sub_self,List.getElem?_cons_zero] at hk
 cases hk
 rw [htr]
 show shapeT _ t1 t2 = shapeT _ (ofT names _) (ofT names _)
 rw [show t1 = _ from e1,show t2 = _ from e2]
set_option maxRecDepth 100000 in
theorem Of_names (t : BT) (a : Option Addr) (c : Nat) (names : List (List UInt8)) (na : Option Addr) (nc : Nat) (hcap : names.length ≤ nc) (hll : names.length ≤ 1099511627776) (hn : namesE names ≠ 0) (w : World) (ht : RdD w t a) (hnr : RdS w names na) :
  Calls Tryz.prog 23 [dval t a c,.slice na names.length nc].toArray w fun e w' => e = .returned (.tuple #[.agg #[.int .u8 0,.string (str []),.slice none 0 0],.int .i64 (namesE names)]) ∧ St w [] [] w' := by
 refine enter Tryz.func23 rfl Tryz.ntmps23 rfl (St.init _) ?_
 refine jN 3 ?_
 refine WL.boxN rfl rfl (fun b2 => ?_)
 refine jN 1 ?_
 refine WL.box1 rfl rfl rfl (fun b3 => ?_)
 refine jN 1 ?_
 refine WL.alloc F.zero24 rfl (fun b4 => ?_)
 refine jN 10 ?_
 refine WL.callV F.fun43 rfl rfl (fun w hS => check_c names na nc hcap (by omega) w (hnr.next hS)) ?_
 refine jN 12 ?_
 refine WC.cond rfl (fun h11 => ?_) (fun h11 => ?_)
 ·refine jN 14 ?_
  exact WQ.ret (rs := [.cell 4 24,.tmp 5]) rfl (.cellN F.agg24 rfl jM rfl (.tmp rfl .nil)) (fun w hS => ⟨rfl,hS.sublist (List.nil_sublist _)⟩)
 exfalso; simp at h11; exact hn h11
set_option maxRecDepth 100000 in
theorem Of_wide (t : BT) (a : Option Addr) (c : Nat) (names : List (List UInt8)) (na : Option Addr) (nc : Nat) (hcap : names.length ≤ nc) (hll : names.length ≤ 1099511627776) (hn : namesE names = 0) (hs : supT (canon t).1 >>> names.length ≠ 0) (w : World) (ht : RdD w t a) (hnr : RdS w names na) :
  Calls Tryz.prog 23 [dval t a c,.slice na names.length nc].toArray w fun e w' => e = .returned (.tuple #[.agg #[.int .u8 0,.string (str []),.slice none 0 0],.int .i64 2]) ∧ St w [] [] w' := by
 have hl24 := names_24 hn
 refine enter Tryz.func23 rfl Tryz.ntmps23 rfl (St.init _) ?_
 refine jN 3 ?_
 refine WL.boxN rfl rfl (fun b2 => ?_)
 refine jN 1 ?_
 refine WL.box1 rfl rfl rfl (fun b3 => ?_)
 refine jN 1 ?_
 refine WL.alloc F.zero24 rfl (fun b4 => ?_)
 refine jN 10 ?_
 refine WL.callV F.fun43 rfl rfl (fun w hS => check_c names na nc hcap (by omega) w (hnr.next hS)) ?_
 rw [hn]
 refine jN 17 ?_
 refine WC.drawsL (by kernel_rfl) (FactsOk.cons (ds := [1]) (LoadOk.whole (t := 2) rfl jM) (FactsOk.cons (ds := []) (LoadOk.one (t := 3) (off := 0) rfl jM rfl) (FactsOk.nil))) ?_
 refine jF 0 0 rfl rfl (Yl.loadN F.agg35 rfl rfl) ?_
 refine jF 2 1 rfl rfl (Yl.load1 F.one25 rfl) ?_
 refine jT 3 rfl (Yl.lenSl F.und25 rfl) ?_
 refine jA 1 rfl ?_
 refine WL.callV F.fun35 rfl rfl (fun w hS => Support_c t a c w (ht.next0 hS)) ?_
 refine WD.on (closed_of (by kernel_rfl)) (fun w hS => Sx.gone rfl (Sx.keep (hS.cell jM rfl) (Sx.none))) ?_
 refine jT 4 rfl (Yl.bin rfl rfl (fun w => run_shr (by omega) _ _ _ w)) ?_
 refine jT 5 rfl (Yl.neI rfl rfl) ?_
 refine jD ?_
 refine jN 1 ?_
 refine WC.cond rfl (fun h19 => ?_) (fun h19 => ?_)
 ·refine jN 12 ?_
  exact WQ.ret (rs := [.cell 4 24,.tmp 5]) rfl (.cellN F.agg24 rfl jM rfl (.tmp rfl .nil)) (fun w hS => ⟨rfl,hS.sublist (List.nil_sublist _)⟩)
 exfalso
 have h9 := bne_eq_false_iff_eq.1 h19
 exact hs (by omega)
set_option maxRecDepth 100000 in
theorem Of_ok (t : BT) (a : Option Addr) (c : Nat) (names : List (List UInt8)) (na : Option Addr) (nc : Nat) (hcap : names.length ≤ nc) (hll : names.length ≤ 1099511627776) (hn : namesE names = 0) (hs : supT (canon t).1 >>> names.length = 0) (hl : ∀ x,hasVar x t → x < names.length) (hsz : ∀ s,subT s t → nT (ofT names s) ≤ 382) (hmay : Fm.validB (ofT names t) = true ∧ knownB (ofT names t) names = true ∧ nT (ofT names t) ≤ 382) (w : World) (ht : RdD w t a) (hnr : RdS w names na) :
  Calls Tryz.prog 23 [dval t a c,.slice na names.length nc].toArray w fun e w' => ∃ y : List Nat × Option Addr × Nat,e = .returned (.tuple #[tv (ofT names t) y.2.1 y.2.2,.int .i64 0]) ∧ St w [] [own y.1 (ofT names t) (tv (ofT names t) y.2.1 y.2.2)] w' := by
 have hl24 := names_24 hn
 have hmk := canon_mk ht.1
 have hcl := canon_len ht.1
 refine enter Tryz.func23 rfl Tryz.ntmps23 rfl (St.init _) ?_
 refine jN 3 ?_
 refine WL.boxN rfl rfl (fun b2 => ?_)
 refine jN 1 ?_
 refine WL.box1 rfl rfl rfl (fun b3 => ?_)
 refine jN 1 ?_
 refine WL.alloc F.zero24 rfl (fun b4 => ?_)
 refine jN 10 ?_
 refine WL.callV F.fun43 rfl rfl (fun w hS => check_c names na nc hcap (by omega) w (hnr.next hS)) ?_
 rw [hn]
 refine jN 17 ?_
 refine WC.drawsL (by kernel_rfl) (FactsOk.cons (ds := [1]) (LoadOk.whole (t := 2) rfl jM) (FactsOk.cons (ds := []) (LoadOk.one (t := 3) (off := 0) rfl jM rfl) (FactsOk.nil))) ?_
 refine jF 0 0 rfl rfl (Yl.loadN F.agg35 rfl rfl) ?_
 refine jF 2 1 rfl rfl (Yl.load1 F.one25 rfl) ?_
 refine jT 3 rfl (Yl.lenSl F.und25 rfl) ?_
 refine jA 1 rfl ?_
 refine WL.callV F.fun35 rfl rfl (fun w hS => Support_c t a c w (ht.next0 hS)) ?_
 refine WD.on (closed_of (by decide +kernel)) (fun w hS => Sx.gone rfl (Sx.keep (hS.cell jM rfl) (Sx.none))) ?_
 refine jT 4 rfl (Yl.bin rfl rfl (fun w => run_shr (by omega) _ _ _ w)) ?_
 refine jT 5 rfl (Yl.neI rfl rfl) ?_
 refine jD ?_
 refine jN 1 ?_
 refine WC.cond rfl (fun h19 => ?_) (fun h19 => ?_)
 ·exfalso; rw [hs] at h19; simp at h19
 refine jN 3 ?_
 refine WC.cutPE (α := Nat × { q : (List Nat × List SzT) × SzT // q.1.2 = q.1.2 ∧ q.2 ∈ q.1.2 ∧ q.2.1 = (ofT names t) }) (fun z => [(2,pp b2),(3,pp b3),(4,pp b4),(5,.int .i64 0),(7,pp z.1)]) (fun z => [pt z.1 (szL z.2.1.2) 108,tsC z.2.1.1.1 z.2.1.1.2,pt b3 [.slice na names.length nc] 25,pt b2 [.slice a (canon t).1.length c,.int .i64 ((canon t).2 : Int)] 35,pt b4 [.int .u8 0,.string (str []),.slice none 0 0] 24]) (fun c a d v w h => by cases d <;> exact h) (fun Q' hP hQ => ?_) (fun xE => ?_)
 ·refine WC.drawsL (by kernel_rfl) (FactsOk.cons (ds := [6,8]) (LoadOk.whole (t := 2) rfl jM) (FactsOk.nil)) ?_
  refine jF 0 0 rfl rfl (Yl.loadN F.agg35 rfl rfl) ?_
  refine jT 5 rfl (Yl.makeFunc (us := []) (vs := [pp b3]) rfl rfl) ?_
  refine WD.two (i := 1) (j := 7) (by decide +kernel) rfl rfl ?_ ?_
  ·refine WL.callV F.fun63 rfl rfl (fun w hS => node_c 1 none 0 0 w) ?_
   refine WD.on (closed_of (by decide +kernel)) (fun w hS => Sx.keep ((fun j v hv => by rw [Nat.zero_add]; exact hS.cell jM hv)) (Sx.none)) ?_
   refine jT 2 rfl (Yl.build F.stT108 rfl jB) ?_
   refine WD.two (i := 3) (j := 7) (by decide +kernel) rfl rfl ?_ ?_
   ·refine WL.callV F.fun63 rfl rfl (fun w hS => node_c 2 none 0 0 w) ?_
    refine WD.on (closed_of (by decide +kernel)) (fun w hS => Sx.keep ((fun j v hv => by rw [Nat.zero_add]; exact hS.cell jM hv)) (Sx.none)) ?_
    refine jT 4 rfl (Yl.build F.stT108 rfl jB) ?_
    refine WD.two (i := 6) (j := 7) (by decide +kernel) rfl rfl ?_ ?_
    refine jC (β := { y : List SzT × (List Nat × List SzT) × SzT // OfI names (canon t).1 y.1 y.2.1 ∧ y.1.length = (canon t).1.length + 2 ∧ y.1[(canon t).2]? = some y.2.2 }) (res := fun y => .agg (szL y.1.2.2).toArray) (cs := fun y => [tsC y.1.2.1.1 y.1.2.1.2]) F.fun62 rfl (fun w hS _ => FoldS_c (σ := List Nat × List SzT) (τ := SzT) _ _ _ _ szL_one (fun s => tsC s.1 s.2) (fun s => s.1) (fun s => tsC_fp s.1 s.2) 64 F.fun64 [] [pp b3] (canon t).1 a c (canon t).2 (.mk 1 [] [],none,0) (.mk 2 [] [],none,0) (OfI names (canon t).1) (Nat.le_of_lt hcl) (fun k x hx => ⟨(hmk.kid k x hx).2.1,(hmk.kid k x hx).2.2.1⟩) (canon_at t).1 ([],[(.mk 1 [] [],none,0),(.mk 2 [] [],none,0)]) (OfI.nil _ _) w (fun out s x z1 z2 w1 hx hI h1 h2 hS0 hS1 => of_join names na nc b3 t ht.1 hl hsz w (hS.cell (cs := [.slice na names.length nc]) jM rfl) (hnr.next hS) out s x z1 z2 w1 hx hI h1 h2 hS0 hS1) (rd_none (ht.next0 hS).2) (ts_init w)) (fun ⟨⟨out,⟨F9,l9⟩,z⟩,hI,hol,hz⟩ => ?_)
    refine jG ?_
    refine jA 7 rfl ?_
    refine WL.alloc F.zero108 rfl (fun b7 => ?_)
    rotate_left
    refine WL.alloc F.zero108 rfl (fun b7 => ?_)
    refine WD.on (closed_of (by decide +kernel)) (fun w hS => Sx.keep ((fun j v hv => by rw [Nat.zero_add]; exact hS.cell jM hv)) (Sx.none)) ?_
    refine jA 6 rfl ?_
    refine jC (β := { y : List SzT × (List Nat × List SzT) × SzT // OfI names (canon t).1 y.1 y.2.1 ∧ y.1.length = (canon t).1.length + 2 ∧ y.1[(canon t).2]? = some y.2.2 }) (res := fun y => .agg (szL y.1.2.2).toArray) (cs := fun y => [tsC y.1.2.1.1 y.1.2.1.2]) F.fun62 rfl (fun w hS _ => FoldS_c (σ := List Nat × List SzT) (τ := SzT) _ _ _ _ szL_one (fun s => tsC s.1 s.2) (fun s => s.1) (fun s => tsC_fp s.1 s.2) 64 F.fun64 [] [pp b3] (canon t).1 a c (canon t).2 (.mk 1 [] [],none,0) (.mk 2 [] [],none,0) (OfI names (canon t).1) (Nat.le_of_lt hcl) (fun k x hx => ⟨(hmk.kid k x hx).2.1,(hmk.kid k x hx).2.2.1⟩) (canon_at t).1 ([],[(.mk 1 [] [],none,0),(.mk 2 [] [],none,0)]) (OfI.nil _ _) w (fun out s x z1 z2 w1 hx hI h1 h2 hS0 hS1 => of_join names na nc b3 t ht.1 hl hsz w (hS.cell (cs := [.slice na names.length nc]) jM rfl) (hnr.next hS) out s x z1 z2 w1 hx hI h1 h2 hS0 hS1) (rd_none (ht.next0 hS).2) (ts_init w)) (fun ⟨⟨out,⟨F9,l9⟩,z⟩,hI,hol,hz⟩ => ?_)
    rotate_left
    all_goals
     refine jG ?_
     refine jA 8 rfl ?_
     refine WL.storeN F.agg108 rfl rfl rfl (szL_one _) jU (by repeat constructor) ?_
     refine jG ?_
     refine jD ?_
     have hzt : z.1 = (ofT names t) := by rw [hI.at' _ _ hz,(canon_at t).2]
     have hle : l9 = out := hI.eq
     dsimp only
     refine WQ.chunks (C' := [pt b7 (szL z) 108,tsC F9 l9,pt b3 [.slice na names.length nc] 25,pt b2 [.slice a (canon t).1.length c,.int .i64 ((canon t).2 : Int)] 35,pt b4 [.int .u8 0,.string (str []),.slice none 0 0] 24]) (fun w hS => (jK hS)) ?_
     exact WQ.byCut (hQ (b7,⟨((F9,l9),z),rfl,(by dsimp only; rw [hle]; exact List.mem_of_getElem? hz),hzt⟩)) ⟨rfl,rfl,rfl,rfl,rfl,trivial⟩
   refine WL.alloc F.zero108 rfl (fun b7 => ?_)
   refine WD.on (closed_of (by decide +kernel)) (fun w hS => Sx.keep ((fun j v hv => by rw [Nat.zero_add]; exact hS.cell jM hv)) (Sx.none)) ?_
   refine jA 3 rfl ?_
   refine WL.callV F.fun63 rfl rfl (fun w hS => node_c 2 none 0 0 w) ?_
   refine WD.on (closed_of (by decide +kernel)) (fun w hS => Sx.keep ((fun j v hv => by rw [Nat.zero_add]; exact hS.cell jM hv)) (Sx.none)) ?_
   refine jT 4 rfl (Yl.build F.stT108 rfl jB) ?_
   refine jA 6 rfl ?_
   refine jC (β := { y : List SzT × (List Nat × List SzT) × SzT // OfI names (canon t).1 y.1 y.2.1 ∧ y.1.length = (canon t).1.length + 2 ∧ y.1[(canon t).2]? = some y.2.2 }) (res := fun y => .agg (szL y.1.2.2).toArray) (cs := fun y => [tsC y.1.2.1.1 y.1.2.1.2]) F.fun62 rfl (fun w hS _ => FoldS_c (σ := List Nat × List SzT) (τ := SzT) _ _ _ _ szL_one (fun s => tsC s.1 s.2) (fun s => s.1) (fun s => tsC_fp s.1 s.2) 64 F.fun64 [] [pp b3] (canon t).1 a c (canon t).2 (.mk 1 [] [],none,0) (.mk 2 [] [],none,0) (OfI names (canon t).1) (Nat.le_of_lt hcl) (fun k x hx => ⟨(hmk.kid k x hx).2.1,(hmk.kid k x hx).2.2.1⟩) (canon_at t).1 ([],[(.mk 1 [] [],none,0),(.mk 2 [] [],none,0)]) (OfI.nil _ _) w (fun out s x z1 z2 w1 hx hI h1 h2 hS0 hS1 => of_join names na nc b3 t ht.1 hl hsz w (hS.cell (cs := [.slice na names.length nc]) jM rfl) (hnr.next hS) out s x z1 z2 w1 hx hI h1 h2 hS0 hS1) (rd_none (ht.next0 hS).2) (ts_init w)) (fun ⟨⟨out,⟨F9,l9⟩,z⟩,hI,hol,hz⟩ => ?_)
   refine jG ?_
   refine jA 8 rfl ?_
   refine WL.storeN F.agg108 rfl rfl rfl (szL_one _) jU (by repeat constructor) ?_
   refine jG ?_
   refine jD ?_
   have hzt : z.1 = (ofT names t) := by rw [hI.at' _ _ hz,(canon_at t).2]
   have hle : l9 = out := hI.eq
   dsimp only
   refine WQ.chunks (C' := [pt b7 (szL z) 108,tsC F9 l9,pt b3 [.slice na names.length nc] 25,pt b2 [.slice a (canon t).1.length c,.int .i64 ((canon t).2 : Int)] 35,pt b4 [.int .u8 0,.string (str []),.slice none 0 0] 24]) (fun w hS => (jK hS)) ?_
   exact WQ.byCut (hQ (b7,⟨((F9,l9),z),rfl,(by dsimp only; rw [hle]; exact List.mem_of_getElem? hz),hzt⟩)) ⟨rfl,rfl,rfl,rfl,rfl,trivial⟩
  refine WL.alloc F.zero108 rfl (fun b7 => ?_)
  refine WD.on (closed_of (by decide +kernel)) (fun w hS => Sx.keep ((fun j v hv => by rw [Nat.zero_add]; exact hS.cell jM hv)) (Sx.none)) ?_
  refine jA 1 rfl ?_
  refine WL.callV F.fun63 rfl rfl (fun w hS => node_c 1 none 0 0 w) ?_
  refine WD.on (closed_of (by decide +kernel)) (fun w hS => Sx.keep ((fun j v hv => by rw [Nat.zero_add]; exact hS.cell jM hv)) (Sx.none)) ?_
  refine jT 2 rfl (Yl.build F.stT108 rfl jB) ?_
  refine jA 3 rfl ?_
  refine WL.callV F.fun63 rfl rfl (fun w hS => node_c 2 none 0 0 w) ?_
  refine WD.on (closed_of (by decide +kernel)) (fun w hS => Sx.keep ((fun j v hv => by rw [Nat.zero_add]; exact hS.cell jM hv)) (Sx.none)) ?_
  refine jT 4 rfl (Yl.build F.stT108 rfl jB) ?_
  refine jA 6 rfl ?_
  refine jC (β := { y : List SzT × (List Nat × List SzT) × SzT // OfI names (canon t).1 y.1 y.2.1 ∧ y.1.length = (canon t).1.length + 2 ∧ y.1[(canon t).2]? = some y.2.2 }) (res := fun y => .agg (szL y.1.2.2).toArray) (cs := fun y => [tsC y.1.2.1.1 y.1.2.1.2]) F.fun62 rfl (fun w hS _ => FoldS_c (σ := List Nat × List SzT) (τ := SzT) _ _ _ _ szL_one (fun s => tsC s.1 s.2) (fun s => s.1) (fun s => tsC_fp s.1 s.2) 64 F.fun64 [] [pp b3] (canon t).1 a c (canon t).2 (.mk 1 [] [],none,0) (.mk 2 [] [],none,0) (OfI names (canon t).1) (Nat.le_of_lt hcl) (fun k x hx => ⟨(hmk.kid k x hx).2.1,(hmk.kid k x hx).2.2.1⟩) (canon_at t).1 ([],[(.mk 1 [] [],none,0),(.mk 2 [] [],none,0)]) (OfI.nil _ _) w (fun out s x z1 z2 w1 hx hI h1 h2 hS0 hS1 => of_join names na nc b3 t ht.1 hl hsz w (hS.cell (cs := [.slice na names.length nc]) jM rfl) (hnr.next hS) out s x z1 z2 w1 hx hI h1 h2 hS0 hS1) (rd_none (ht.next0 hS).2) (ts_init w)) (fun ⟨⟨out,⟨F9,l9⟩,z⟩,hI,hol,hz⟩ => ?_)
  refine jG ?_
  refine jA 8 rfl ?_
  refine WL.storeN F.agg108 rfl rfl rfl (szL_one _) jU (by repeat constructor) ?_
  refine jG ?_
  refine jD ?_
  have hzt : z.1 = (ofT names t) := by rw [hI.at' _ _ hz,(canon_at t).2]
  have hle : l9 = out := hI.eq
  dsimp only
  refine WQ.chunks (C' := [pt b7 (szL z) 108,tsC F9 l9,pt b3 [.slice na names.length nc] 25,pt b2 [.slice a (canon t).1.length c,.int .i64 ((canon t).2 : Int)] 35,pt b4 [.int .u8 0,.string (str []),.slice none 0 0] 24]) (fun w hS => (jK hS)) ?_
  exact WQ.byCut (hQ (b7,⟨((F9,l9),z),rfl,(by dsimp only; rw [hle]; exact List.mem_of_getElem? hz),hzt⟩)) ⟨rfl,rfl,rfl,rfl,rfl,trivial⟩
 obtain ⟨b7,⟨⟨⟨F9,l9⟩,z⟩,_,hzm,hzt⟩⟩ := xE
 obtain ⟨zt,za,zc⟩ := z
 dsimp only at hzm hzt
 subst hzt
 show WQ _ _ _ _ _ _ [(2,pp b2),(3,pp b3),(4,pp b4),(5,.int .i64 0),(7,pp b7)] [pt b7 (szL ((ofT names t),za,zc)) 108,tsC F9 l9,pt b3 [.slice na names.length nc] 25,pt b2 [.slice a (canon t).1.length c,.int .i64 ((canon t).2 : Int)] 35,pt b4 [.int .u8 0,.string (str []),.slice none 0 0] 24]
 obtain ⟨hvb,hkn,hn382⟩ := hmay
 refine jN 12 ?_
 refine WA.splitB (i := 31) rfl (fun g31 => ?_) (fun g31 => ?_)
 ·exfalso; simp at g31; have : nT (ofT names t) ≤ 382 := hn382; omega
 refine jN 5 ?_
 refine WL.loadN F.agg24 rfl rfl (vs := [Value.int .u8 (ofT names t).op,.string (str (ofT names t).name),.slice za (ofT names t).kids.length zc]) rfl (fun w hS j v hv => hS.cell (cs := szL ((ofT names t),za,zc)) jM (by rw [Nat.zero_add]; rcases j with _ | _ | _ | j <;> first | exact hv | simp at hv)) ?_
 refine jN 2 ?_
 refine WL.callV F.fun42 rfl rfl (v := .bool true) (fun w hS => (by obtain ⟨G,_,hG⟩ := (hS.ok (tsC F9 l9) jM) _ hzm; have h9 := Valid_c (ofT names t) G za zc w hG; rw [hvb] at h9; exact h9)) ?_
 refine jN 15 ?_
 refine WL.loadN F.agg24 rfl rfl (vs := [Value.int .u8 (ofT names t).op,.string (str (ofT names t).name),.slice za (ofT names t).kids.length zc]) rfl (fun w hS j v hv => hS.cell (cs := szL ((ofT names t),za,zc)) jM (by rw [Nat.zero_add]; rcases j with _ | _ | _ | j <;> first | exact hv | simp at hv)) ?_
 refine jN 1 ?_
 refine jC (β := List Nat × Option Addr × Nat) (res := fun y => tv (ofT names t) y.2.1 y.2.2) (cs := fun y => [own y.1 (ofT names t) (tv (ofT names t) y.2.1 y.2.2)]) F.fun66 rfl (fun w hS _ => (by obtain ⟨G,_,hG⟩ := (hS.ok (tsC F9 l9) jM) _ hzm; exact Clo_c 382 (by decide) (ofT names t) w G za zc w hn382 hG (Ext.refl w))) (fun y => ?_)
 refine jN 7 ?_
 exact WQ.ret (rs := [.cell 4 24,.tmp 5]) rfl (.cellN F.agg24 rfl jM rfl (.tmp rfl .nil)) (fun w hS => ⟨y,rfl,(jK hS)⟩)
end Go.Proofs.YtkgllhkhdjodeaaGreat
namespace Go.Eng
open Go Go.RowKit
section
variable {P : Program} {kt : TypeId}
end
end Go.Eng
namespace Go.Proofs.YtkgllhkhdjodeaaGreat
open Go Go.Eng Go.Proofs Dg
theorem of_szs {t : BT} {names : List (List UInt8)} {f : Nat} (ho : t.ok 0) (hf : ∀ x,hasVar x t → f.testBit x = true) (hf7 : (featL f).length ≤ 7) : ∀ s,subT s t → nT (ofT names s) ≤ 382 := fun s hs => by
 have hsz := of_nT (names := names) (m := 0) (subT_ok ho hs) (fun x hx => hf x (subT_var hs hx))
 have h2 : (featL f).filter (fun k => decide (0 ≤ k)) = featL f := List.filter_eq_self.2 (fun k _ => by simp)
 rw [h2] at hsz
 have h3 : 2 ^ (featL f).length ≤ 2 ^ 7 := Nat.pow_le_pow_right (by decide) hf7
 omega
abbrev ofR (t : Tree) (y : List Nat × Option Addr × Nat) : Value := tv t y.2.1 y.2.2
abbrev ofC (t : Tree) (y : List Nat × Option Addr × Nat) : List Chunk := [own y.1 t (tv t y.2.1 y.2.2)]
abbrev wiQ (s : SV) (v : Nat) (b : Bool) (z : SV) : Prop := z.v = s.v ∧ ∀ M,z.has M = s.has (updN (confN s.v (hasN s.v M)) v b)
abbrev ofCh (b4 b6 b7 b27 b8 b9 : Nat) (nm : List UInt8) (HI LO : Tree) (yh yl : List Nat × Option Addr × Nat) : List Chunk := [pt b8 [.int .u8 HI.op,.string (str HI.name),.slice yh.2.1 HI.kids.length yh.2.2] 24,pt b9 [.int .u8 LO.op,.string (str LO.name),.slice yl.2.1 LO.kids.length yl.2.2] 24,own yh.1 HI (tv HI yh.2.1 yh.2.2),own yl.1 LO (tv LO yl.2.1 yl.2.2),pt b7 [.int .u8 4,.string (str []),.slice (some ⟨b27,0,none⟩) 1 1] 24,pt b27 [.int .u8 3,.string (str nm),.slice none 0 0] 24,pt b6 [.int .u8 3,.string (str nm),.slice none 0 0] 24,pt b4 [.int .u8 0,.string (str []),.slice none 0 0] 24]
set_option maxRecDepth 100000 in
theorem rOf_c : ∀ (n : Nat) (t : BT),t.size < n → ∀ (s : SV) (L : List RowV) (names : List (List UInt8)) (na : Option Addr) (nc : Nat) (w : World),t.ok 0 → (∀ x,hasVar x t → x < names.length) → s.good → s.among L → RelS s t.ev → (∀ q ∈ L,RdRow w q) → RdS w names na →
  Calls Tryz.prog 27 [s.val,.slice na names.length nc].toArray w fun e w' => ∃ y : List Nat × Option Addr × Nat,e = .returned (tv (ofT names t) y.2.1 y.2.2) ∧ St w [] [own y.1 (ofT names t) (tv (ofT names t) y.2.1 y.2.2)] w' := by
 intro n
 induction n with
 | zero => intro t ht; omega
 | succ n hrec =>
 intro t hsz s L names na nc w ho hl hg ha hR hL hnr
 refine enter Tryz.func27 rfl Tryz.ntmps27 rfl (St.init _) ?_
 refine jN 3 ?_
 refine WL.boxN rfl rfl (fun b2 => ?_)
 refine jN 1 ?_
 refine WL.alloc F.zero24 rfl (fun b4 => ?_)
 refine jN 8 ?_
 refine WL.callV F.fun59 rfl rfl (fun w hS => rEmpty_c s.v s.bs hg.len s.a s.ta s.c s.tc w ((ha.rdB hL).next hS)) ?_
 refine jN 2 ?_
 refine WC.cond rfl (fun h11 => ?_) (fun h11 => ?_)
 ·have ht := (rel_none hg ho hR).1 h11
  subst ht
  refine jN 10 ?_
  refine WQ.ret (rs := [.cell 4 24]) rfl (.cellN F.agg24 rfl jM rfl .nil) (fun w hS => ?_)
  have hS1 := St.node0 1 [] hS
  exact ⟨([],none,0),rfl,hS1.sublist (List.Sublist.cons_cons _ (List.nil_sublist _))⟩
 have hn0 : t ≠ .lf false := fun e => by rw [(rel_none hg ho hR).2 e] at h11; cases h11
 refine jN 8 ?_
 refine WL.callV F.fun60 rfl rfl (fun w hS => rFull_c s.v s.bs hg.len s.a s.ta s.c s.tc w ((ha.rdB hL).next hS)) ?_
 refine jN 2 ?_
 refine WC.cond rfl (fun h14 => ?_) (fun h14 => ?_)
 ·have ht := (rel_all hg ho hR).1 h14
  subst ht
  refine jN 10 ?_
  refine WQ.ret (rs := [.cell 4 24]) rfl (.cellN F.agg24 rfl jM rfl .nil) (fun w hS => ?_)
  have hS1 := St.node0 2 [] hS
  exact ⟨([],none,0),rfl,hS1.sublist (List.Sublist.cons_cons _ (List.nil_sublist _))⟩
 have hn1 : t ≠ .lf true := fun e => by rw [(rel_all hg ho hR).2 e] at h14; cases h14
 obtain ⟨v,lo,hi,ht⟩ : ∃ v lo hi,t = .nd v lo hi := by
  cases t with
  | lf b => cases b <;> contradiction
  | nd v lo hi => exact ⟨_,_,_,rfl⟩
 subst ht
 have hv24 : v < 24 := ho.2.1
 have hszz : lo.size + hi.size + 1 < n + 1 := hsz
 have hrf := root_feat ho
 have hsup32 : supT (canon (.nd v lo hi)).1 < 4294967296 := Nat.lt_of_lt_of_le (supT_24 ho) (by decide)
 have hvl : v < names.length := hl v (.inl rfl)
 obtain ⟨nm,hnm9⟩ : ∃ y,y = names.getD v [] := ⟨_,rfl⟩
 have hnm : names[v]? = some nm := by rw [hnm9,List.getD_eq_getElem?_getD,List.getElem?_eq_getElem hvl]; rfl
 obtain ⟨nb,off,hna,hcell⟩ := hnr v nm hnm
 subst hna
 have hkhi : hi.ok 0 := ok_kid ho true
 have hklo : lo.ok 0 := ok_kid ho false
 have hlhi : ∀ x,hasVar x hi → x < names.length := fun x hx => hl x (.inr (.inr hx))
 have hllo : ∀ x,hasVar x lo → x < names.length := fun x hx => hl x (.inr (.inl hx))
 refine jN 7 ?_
 refine WL.callV F.fun25 rfl rfl (fun w hS => rSupport_c s.v s.bs hg.so hg.lt hg.vl hg.bl s.a s.ta s.c s.tc w ((ha.rdV hL).next hS) ((ha.rdB hL).next hS)) ?_
 rw [rel_sup hg ho hR]
 refine jN 1 ?_
 refine jC (β := Option Addr × Nat) (res := fun y => .slice y.1 (featL (supT (canon (.nd v lo hi)).1)).length y.2) (cs := fun y => [rowc (.slice y.1 (featL (supT (canon (.nd v lo hi)).1)).length y.2) (featL (supT (canon (.nd v lo hi)).1)).length 3 1 (nums (featL (supT (canon (.nd v lo hi)).1)))]) F.fun34 rfl (fun w hS _ => Features_c (supT (canon (.nd v lo hi)).1) hsup32 w) (fun ⟨fa,fc⟩ => ?_)
 have hfl : 0 < (featL (supT (canon (.nd v lo hi)).1)).length := (List.getElem?_eq_some_iff.1 hrf).1
 refine WA.know (φ := ∃ g,fa = some ⟨g,0,none⟩ ∧ (featL (supT (canon (.nd v lo hi)).1)).length = (featL (supT (canon (.nd v lo hi)).1)).length ∧ (featL (supT (canon (.nd v lo hi)).1)).length ≤ fc) (fun w hS => rowc_addr (hS.ok (rowc (.slice fa (featL (supT (canon (.nd v lo hi)).1)).length fc) (featL (supT (canon (.nd v lo hi)).1)).length 3 1 (nums (featL (supT (canon (.nd v lo hi)).1)))) jM) hfl) (fun ⟨g,hg9,_,_⟩ => ?_)
 subst hg9
 refine jN 1 ?_
 refine WL.indexAddr (i := 0) F.sl41 rfl rfl rfl hfl ?_
 refine jN 1 ?_
 refine WL.load1 F.one3 rfl rfl (v := .int .i64 (v : Int)) (fun w hS => by rw [Nat.zero_mul]; exact rowc_cell (hS.ok (rowc (.slice (some ⟨g,0,none⟩) (featL (supT (canon (.nd v lo hi)).1)).length fc) (featL (supT (canon (.nd v lo hi)).1)).length 3 1 (nums (featL (supT (canon (.nd v lo hi)).1)))) jM) (nums_at hrf)) ?_
 refine jN 11 ?_
 refine WL.indexAddr (i := v) F.sl25 rfl rfl rfl hvl ?_
 refine jN 1 ?_
 refine WL.load1 F.one9 rfl rfl (v := .string (str nm)) (fun w hS => by rw [Nat.mul_one]; exact hS.oldc hcell (by simp)) ?_
 refine jN 3 ?_
 refine WL.alloc F.zero24 rfl (fun b6 => ?_)
 refine jN 9 ?_
 refine WL.buildSlice F.sl22 F.ez22 rfl rfl rfl rfl jB rfl (fun b27 => ?_)
 refine jN 3 ?_
 refine WL.alloc F.zero24 rfl (fun b7 => ?_)
 refine jN 5 ?_
 refine WC.cutPE (α := (Nat × Nat) × (List Nat × Option Addr × Nat) × (List Nat × Option Addr × Nat)) (fun z => [(4,pp b4),(6,pp b6),(7,pp b7),(8,pp z.1.1),(9,pp z.1.2)]) (fun z => [pt z.1.1 [.int .u8 (ofT names hi).op,.string (str (ofT names hi).name),.slice z.2.1.2.1 (ofT names hi).kids.length z.2.1.2.2] 24,pt z.1.2 [.int .u8 (ofT names lo).op,.string (str (ofT names lo).name),.slice z.2.2.2.1 (ofT names lo).kids.length z.2.2.2.2] 24,own z.2.1.1 (ofT names hi) (tv (ofT names hi) z.2.1.2.1 z.2.1.2.2),own z.2.2.1 (ofT names lo) (tv (ofT names lo) z.2.2.2.1 z.2.2.2.2),pt b7 [.int .u8 4,.string (str []),.slice (some ⟨b27,0,none⟩) 1 1] 24,pt b27 [.int .u8 3,.string (str nm),.slice none 0 0] 24,pt b6 [.int .u8 3,.string (str nm),.slice none 0 0] 24,pt b4 [.int .u8 0,.string (str []),.slice none 0 0] 24]) (fun c a d v w h => by cases d <;> exact h) (fun Q' hP hQ => ?_) (fun xE => ?_)
 ·refine WC.drawsL (by kernel_rfl) (FactsOk.cons (ds := [2,4,7,9,12,13]) (LoadOk.whole (t := 2) rfl jM) (FactsOk.cons (ds := [7,9,12,13]) (LoadOk.whole (t := 2) rfl jM) (FactsOk.nil))) ?_
  refine jF 0 0 rfl rfl (Yl.loadN F.agg44 rfl rfl) ?_
  refine jT 1 rfl (Yl.move rfl) ?_
  refine jT 3 rfl (Yl.move rfl) ?_
  refine jF 5 1 rfl rfl (Yl.loadN F.agg44 rfl rfl) ?_
  refine jT 6 rfl (Yl.move rfl) ?_
  refine jT 8 rfl (Yl.move rfl) ?_
  refine WD.three (i := 2) (j := 10) (l := 11) (by decide +kernel) rfl rfl rfl ?_ ?_ ?_
  ·refine jC (β := SX (L) (wiQ s v true)) (res := fun y => y.1.1.val) (cs := fun y => [rwC y.1.2.1 y.1.2.2]) F.fun61 rfl (fun w hS _ => (rWith_s s hg v true hv24 L ha w (fun q hq => (hL q hq).next hS)).mono (fun e w2 h => h.sx)) (fun z1 => ?_)
   refine WD.on (closed_of (by decide +kernel)) (fun w hS => Sx.gone rfl (Sx.keep ((fun j v hv => by rw [Nat.zero_add]; exact hS.cell jM hv)) (Sx.none))) ?_
   have hz1 := rel_kid ho (rel_with hg hv24 hR z1.2.2.1.2)
   dsimp only [cond_true] at hz1
   refine WD.three (i := 4) (j := 10) (l := 11) (by decide +kernel) rfl rfl rfl ?_ ?_ ?_
   ·refine jC (res := ofR (ofT names hi)) (cs := ofC (ofT names hi)) F.fun27 rfl (fun w hS _ => hrec hi (by omega) z1.1.1 (L ++ z1.1.2.2) names _ nc w hkhi hlhi z1.2.1 z1.2.2.2 hz1 (rows_more hL hS jM) (hnr.next hS)) (fun yh => ?_)
    refine WD.on (closed_of (by decide +kernel)) (fun w hS => Sx.gone rfl (Sx.keep ((fun j v hv => by rw [Nat.zero_add]; exact hS.cell jM hv)) (Sx.none))) ?_
    refine WD.three (i := 7) (j := 10) (l := 11) (by decide +kernel) rfl rfl rfl ?_ ?_ ?_
    ·refine jC (β := SX (L) (wiQ s v false)) (res := fun y => y.1.1.val) (cs := fun y => [rwC y.1.2.1 y.1.2.2]) F.fun61 rfl (fun w hS _ => (rWith_s s hg v false hv24 L ha w (fun q hq => (hL q hq).next hS)).mono (fun e w2 h => h.sx)) (fun z2 => ?_)
     refine jG ?_
     have hz2 := rel_kid ho (rel_with hg hv24 hR z2.2.2.1.2)
     dsimp only [cond_false] at hz2
     refine WD.three (i := 9) (j := 10) (l := 11) (by decide +kernel) rfl rfl rfl ?_ ?_ ?_
     refine jC (res := ofR (ofT names lo)) (cs := ofC (ofT names lo)) F.fun27 rfl (fun w hS _ => hrec lo (by omega) z2.1.1 (L ++ z2.1.2.2) names _ nc w hklo hllo z2.2.1 z2.2.2.2 hz2 (rows_more hL hS jM) (hnr.next hS)) (fun yl => ?_)
     refine jG ?_
     refine WD.two (i := 10) (j := 11) (by decide +kernel) rfl rfl ?_ ?_
     refine WL.alloc F.zero24 rfl (fun b8 => ?_)
     refine jG ?_
     refine jA 11 rfl ?_
     refine WL.alloc F.zero24 rfl (fun b9 => ?_)
     rotate_left
     refine WL.alloc F.zero24 rfl (fun b9 => ?_)
     refine jG ?_
     refine jA 10 rfl ?_
     refine WL.alloc F.zero24 rfl (fun b8 => ?_)
     rotate_left
     refine WL.alloc F.zero24 rfl (fun b8 => ?_)
     refine jG ?_
     refine WD.two (i := 9) (j := 11) (by decide +kernel) rfl rfl ?_ ?_
     refine jC (res := ofR (ofT names lo)) (cs := ofC (ofT names lo)) F.fun27 rfl (fun w hS _ => hrec lo (by omega) z2.1.1 (L ++ z2.1.2.2) names _ nc w hklo hllo z2.2.1 z2.2.2.2 hz2 (rows_more hL hS jM) (hnr.next hS)) (fun yl => ?_)
     refine jG ?_
     refine jA 11 rfl ?_
     refine WL.alloc F.zero24 rfl (fun b9 => ?_)
     rotate_left
     refine WL.alloc F.zero24 rfl (fun b9 => ?_)
     refine jG ?_
     refine jA 9 rfl ?_
     refine jC (res := ofR (ofT names lo)) (cs := ofC (ofT names lo)) F.fun27 rfl (fun w hS _ => hrec lo (by omega) z2.1.1 (L ++ z2.1.2.2) names _ nc w hklo hllo z2.2.1 z2.2.2.2 hz2 (rows_more hL hS jM) (hnr.next hS)) (fun yl => ?_)
     rotate_left
     refine WL.alloc F.zero24 rfl (fun b9 => ?_)
     refine jG ?_
     refine WD.two (i := 9) (j := 10) (by decide +kernel) rfl rfl ?_ ?_
     refine jC (res := ofR (ofT names lo)) (cs := ofC (ofT names lo)) F.fun27 rfl (fun w hS _ => hrec lo (by omega) z2.1.1 (L ++ z2.1.2.2) names _ nc w hklo hllo z2.2.1 z2.2.2.2 hz2 (rows_more hL hS jM) (hnr.next hS)) (fun yl => ?_)
     refine jG ?_
     refine jA 10 rfl ?_
     refine WL.alloc F.zero24 rfl (fun b8 => ?_)
     rotate_left
     refine WL.alloc F.zero24 rfl (fun b8 => ?_)
     refine jG ?_
     refine jA 9 rfl ?_
     refine jC (res := ofR (ofT names lo)) (cs := ofC (ofT names lo)) F.fun27 rfl (fun w hS _ => hrec lo (by omega) z2.1.1 (L ++ z2.1.2.2) names _ nc w hklo hllo z2.2.1 z2.2.2.2 hz2 (rows_more hL hS jM) (hnr.next hS)) (fun yl => ?_)
     rotate_left
     all_goals
      rotate_left
      all_goals
       refine jG ?_
       refine jA 12 rfl ?_
       refine WL.storeN F.agg24 rfl rfl rfl jO jU jS ?_
       refine jG ?_
       refine jA 13 rfl ?_
       refine WL.storeN F.agg24 rfl rfl rfl jO jU jS ?_
       refine jG ?_
       refine jD ?_
       refine WQ.chunks (C' := ofCh b4 b6 b7 b27 b8 b9 nm (ofT names hi) (ofT names lo) yh yl) (fun w hS => (jK hS)) ?_
       exact WQ.byCut (hQ ((b8,b9),yh,yl)) ⟨rfl,rfl,rfl,rfl,rfl,trivial⟩
    ·refine WL.alloc F.zero24 rfl (fun b8 => ?_)
     refine WD.on (closed_of (by decide +kernel)) (fun w hS => Sx.gone rfl (Sx.keep ((fun j v hv => by rw [Nat.zero_add]; exact hS.cell jM hv)) (Sx.none))) ?_
     refine WD.two (i := 7) (j := 11) (by decide +kernel) rfl rfl ?_ ?_
     ·refine jC (β := SX (L) (wiQ s v false)) (res := fun y => y.1.1.val) (cs := fun y => [rwC y.1.2.1 y.1.2.2]) F.fun61 rfl (fun w hS _ => (rWith_s s hg v false hv24 L ha w (fun q hq => (hL q hq).next hS)).mono (fun e w2 h => h.sx)) (fun z2 => ?_)
      refine jG ?_
      have hz2 := rel_kid ho (rel_with hg hv24 hR z2.2.2.1.2)
      dsimp only [cond_false] at hz2
      refine WD.two (i := 9) (j := 11) (by decide +kernel) rfl rfl ?_ ?_
      refine jC (res := ofR (ofT names lo)) (cs := ofC (ofT names lo)) F.fun27 rfl (fun w hS _ => hrec lo (by omega) z2.1.1 (L ++ z2.1.2.2) names _ nc w hklo hllo z2.2.1 z2.2.2.2 hz2 (rows_more hL hS jM) (hnr.next hS)) (fun yl => ?_)
      refine jG ?_
      refine jA 11 rfl ?_
      refine WL.alloc F.zero24 rfl (fun b9 => ?_)
      rotate_left
      refine WL.alloc F.zero24 rfl (fun b9 => ?_)
      refine jG ?_
      refine jA 9 rfl ?_
      refine jC (res := ofR (ofT names lo)) (cs := ofC (ofT names lo)) F.fun27 rfl (fun w hS _ => hrec lo (by omega) z2.1.1 (L ++ z2.1.2.2) names _ nc w hklo hllo z2.2.1 z2.2.2.2 hz2 (rows_more hL hS jM) (hnr.next hS)) (fun yl => ?_)
      rotate_left
      all_goals
       refine jG ?_
       refine jA 12 rfl ?_
       refine WL.storeN F.agg24 rfl rfl rfl jO jU jS ?_
       refine jG ?_
       refine jA 13 rfl ?_
       refine WL.storeN F.agg24 rfl rfl rfl jO jU jS ?_
       refine jG ?_
       refine jD ?_
       refine WQ.chunks (C' := ofCh b4 b6 b7 b27 b8 b9 nm (ofT names hi) (ofT names lo) yh yl) (fun w hS => (jK hS)) ?_
       exact WQ.byCut (hQ ((b8,b9),yh,yl)) ⟨rfl,rfl,rfl,rfl,rfl,trivial⟩
     refine WL.alloc F.zero24 rfl (fun b9 => ?_)
     refine WD.on (closed_of (by decide +kernel)) (fun w hS => Sx.gone rfl (Sx.keep ((fun j v hv => by rw [Nat.zero_add]; exact hS.cell jM hv)) (Sx.none))) ?_
     refine jA 7 rfl ?_
     refine jC (β := SX (L) (wiQ s v false)) (res := fun y => y.1.1.val) (cs := fun y => [rwC y.1.2.1 y.1.2.2]) F.fun61 rfl (fun w hS _ => (rWith_s s hg v false hv24 L ha w (fun q hq => (hL q hq).next hS)).mono (fun e w2 h => h.sx)) (fun z2 => ?_)
     refine jG ?_
     have hz2 := rel_kid ho (rel_with hg hv24 hR z2.2.2.1.2)
     dsimp only [cond_false] at hz2
     refine jA 9 rfl ?_
     refine jC (res := ofR (ofT names lo)) (cs := ofC (ofT names lo)) F.fun27 rfl (fun w hS _ => hrec lo (by omega) z2.1.1 (L ++ z2.1.2.2) names _ nc w hklo hllo z2.2.1 z2.2.2.2 hz2 (rows_more hL hS jM) (hnr.next hS)) (fun yl => ?_)
     refine jG ?_
     refine jA 12 rfl ?_
     refine WL.storeN F.agg24 rfl rfl rfl jO jU jS ?_
     refine jG ?_
     refine jA 13 rfl ?_
     refine WL.storeN F.agg24 rfl rfl rfl jO jU jS ?_
     refine jG ?_
     refine jD ?_
     refine WQ.chunks (C' := ofCh b4 b6 b7 b27 b8 b9 nm (ofT names hi) (ofT names lo) yh yl) (fun w hS => (jK hS)) ?_
     exact WQ.byCut (hQ ((b8,b9),yh,yl)) ⟨rfl,rfl,rfl,rfl,rfl,trivial⟩
    refine WL.alloc F.zero24 rfl (fun b9 => ?_)
    refine WD.on (closed_of (by decide +kernel)) (fun w hS => Sx.gone rfl (Sx.keep ((fun j v hv => by rw [Nat.zero_add]; exact hS.cell jM hv)) (Sx.none))) ?_
    refine WD.two (i := 7) (j := 10) (by decide +kernel) rfl rfl ?_ ?_
    ·refine jC (β := SX (L) (wiQ s v false)) (res := fun y => y.1.1.val) (cs := fun y => [rwC y.1.2.1 y.1.2.2]) F.fun61 rfl (fun w hS _ => (rWith_s s hg v false hv24 L ha w (fun q hq => (hL q hq).next hS)).mono (fun e w2 h => h.sx)) (fun z2 => ?_)
     refine jG ?_
     have hz2 := rel_kid ho (rel_with hg hv24 hR z2.2.2.1.2)
     dsimp only [cond_false] at hz2
     refine WD.two (i := 9) (j := 10) (by decide +kernel) rfl rfl ?_ ?_
     refine jC (res := ofR (ofT names lo)) (cs := ofC (ofT names lo)) F.fun27 rfl (fun w hS _ => hrec lo (by omega) z2.1.1 (L ++ z2.1.2.2) names _ nc w hklo hllo z2.2.1 z2.2.2.2 hz2 (rows_more hL hS jM) (hnr.next hS)) (fun yl => ?_)
     refine jG ?_
     refine jA 10 rfl ?_
     refine WL.alloc F.zero24 rfl (fun b8 => ?_)
     rotate_left
     refine WL.alloc F.zero24 rfl (fun b8 => ?_)
     refine jG ?_
     refine jA 9 rfl ?_
     refine jC (res := ofR (ofT names lo)) (cs := ofC (ofT names lo)) F.fun27 rfl (fun w hS _ => hrec lo (by omega) z2.1.1 (L ++ z2.1.2.2) names _ nc w hklo hllo z2.2.1 z2.2.2.2 hz2 (rows_more hL hS jM) (hnr.next hS)) (fun yl => ?_)
     rotate_left
     all_goals
      refine jG ?_
      refine jA 12 rfl ?_
      refine WL.storeN F.agg24 rfl rfl rfl jO jU jS ?_
      refine jG ?_
      refine jA 13 rfl ?_
      refine WL.storeN F.agg24 rfl rfl rfl jO jU jS ?_
      refine jG ?_
      refine jD ?_
      refine WQ.chunks (C' := ofCh b4 b6 b7 b27 b8 b9 nm (ofT names hi) (ofT names lo) yh yl) (fun w hS => (jK hS)) ?_
      exact WQ.byCut (hQ ((b8,b9),yh,yl)) ⟨rfl,rfl,rfl,rfl,rfl,trivial⟩
    refine WL.alloc F.zero24 rfl (fun b8 => ?_)
    refine WD.on (closed_of (by decide +kernel)) (fun w hS => Sx.gone rfl (Sx.keep ((fun j v hv => by rw [Nat.zero_add]; exact hS.cell jM hv)) (Sx.none))) ?_
    refine jA 7 rfl ?_
    refine jC (β := SX (L) (wiQ s v false)) (res := fun y => y.1.1.val) (cs := fun y => [rwC y.1.2.1 y.1.2.2]) F.fun61 rfl (fun w hS _ => (rWith_s s hg v false hv24 L ha w (fun q hq => (hL q hq).next hS)).mono (fun e w2 h => h.sx)) (fun z2 => ?_)
    refine jG ?_
    have hz2 := rel_kid ho (rel_with hg hv24 hR z2.2.2.1.2)
    dsimp only [cond_false] at hz2
    refine jA 9 rfl ?_
    refine jC (res := ofR (ofT names lo)) (cs := ofC (ofT names lo)) F.fun27 rfl (fun w hS _ => hrec lo (by omega) z2.1.1 (L ++ z2.1.2.2) names _ nc w hklo hllo z2.2.1 z2.2.2.2 hz2 (rows_more hL hS jM) (hnr.next hS)) (fun yl => ?_)
    refine jG ?_
    refine jA 12 rfl ?_
    refine WL.storeN F.agg24 rfl rfl rfl jO jU jS ?_
    refine jG ?_
    refine jA 13 rfl ?_
    refine WL.storeN F.agg24 rfl rfl rfl jO jU jS ?_
    refine jG ?_
    refine jD ?_
    refine WQ.chunks (C' := ofCh b4 b6 b7 b27 b8 b9 nm (ofT names hi) (ofT names lo) yh yl) (fun w hS => (jK hS)) ?_
    exact WQ.byCut (hQ ((b8,b9),yh,yl)) ⟨rfl,rfl,rfl,rfl,rfl,trivial⟩
   ·refine WL.alloc F.zero24 rfl (fun b8 => ?_)
    refine WD.on (closed_of (by decide +kernel)) (fun w hS => Sx.gone rfl (Sx.keep ((fun j v hv => by rw [Nat.zero_add]; exact hS.cell jM hv)) (Sx.none))) ?_
    refine WD.two (i := 4) (j := 11) (by decide +kernel) rfl rfl ?_ ?_
    ·refine jC (res := ofR (ofT names hi)) (cs := ofC (ofT names hi)) F.fun27 rfl (fun w hS _ => hrec hi (by omega) z1.1.1 (L ++ z1.1.2.2) names _ nc w hkhi hlhi z1.2.1 z1.2.2.2 hz1 (rows_more hL hS jM) (hnr.next hS)) (fun yh => ?_)
     refine WD.on (closed_of (by decide +kernel)) (fun w hS => Sx.gone rfl (Sx.keep ((fun j v hv => by rw [Nat.zero_add]; exact hS.cell jM hv)) (Sx.none))) ?_
     refine WD.two (i := 7) (j := 11) (by decide +kernel) rfl rfl ?_ ?_
     ·refine jC (β := SX (L) (wiQ s v false)) (res := fun y => y.1.1.val) (cs := fun y => [rwC y.1.2.1 y.1.2.2]) F.fun61 rfl (fun w hS _ => (rWith_s s hg v false hv24 L ha w (fun q hq => (hL q hq).next hS)).mono (fun e w2 h => h.sx)) (fun z2 => ?_)
      refine jG ?_
      have hz2 := rel_kid ho (rel_with hg hv24 hR z2.2.2.1.2)
      dsimp only [cond_false] at hz2
      refine WD.two (i := 9) (j := 11) (by decide +kernel) rfl rfl ?_ ?_
      refine jC (res := ofR (ofT names lo)) (cs := ofC (ofT names lo)) F.fun27 rfl (fun w hS _ => hrec lo (by omega) z2.1.1 (L ++ z2.1.2.2) names _ nc w hklo hllo z2.2.1 z2.2.2.2 hz2 (rows_more hL hS jM) (hnr.next hS)) (fun yl => ?_)
      refine jG ?_
      refine jA 11 rfl ?_
      refine WL.alloc F.zero24 rfl (fun b9 => ?_)
      rotate_left
      refine WL.alloc F.zero24 rfl (fun b9 => ?_)
      refine jG ?_
      refine jA 9 rfl ?_
      refine jC (res := ofR (ofT names lo)) (cs := ofC (ofT names lo)) F.fun27 rfl (fun w hS _ => hrec lo (by omega) z2.1.1 (L ++ z2.1.2.2) names _ nc w hklo hllo z2.2.1 z2.2.2.2 hz2 (rows_more hL hS jM) (hnr.next hS)) (fun yl => ?_)
      rotate_left
      all_goals
       refine jG ?_
       refine jA 12 rfl ?_
       refine WL.storeN F.agg24 rfl rfl rfl jO jU jS ?_
       refine jG ?_
       refine jA 13 rfl ?_
       refine WL.storeN F.agg24 rfl rfl rfl jO jU jS ?_
       refine jG ?_
       refine jD ?_
       refine WQ.chunks (C' := ofCh b4 b6 b7 b27 b8 b9 nm (ofT names hi) (ofT names lo) yh yl) (fun w hS => (jK hS)) ?_
       exact WQ.byCut (hQ ((b8,b9),yh,yl)) ⟨rfl,rfl,rfl,rfl,rfl,trivial⟩
     refine WL.alloc F.zero24 rfl (fun b9 => ?_)
     refine WD.on (closed_of (by decide +kernel)) (fun w hS => Sx.gone rfl (Sx.keep ((fun j v hv => by rw [Nat.zero_add]; exact hS.cell jM hv)) (Sx.none))) ?_
     refine jA 7 rfl ?_
     refine jC (β := SX (L) (wiQ s v false)) (res := fun y => y.1.1.val) (cs := fun y => [rwC y.1.2.1 y.1.2.2]) F.fun61 rfl (fun w hS _ => (rWith_s s hg v false hv24 L ha w (fun q hq => (hL q hq).next hS)).mono (fun e w2 h => h.sx)) (fun z2 => ?_)
     refine jG ?_
     have hz2 := rel_kid ho (rel_with hg hv24 hR z2.2.2.1.2)
     dsimp only [cond_false] at hz2
     refine jA 9 rfl ?_
     refine jC (res := ofR (ofT names lo)) (cs := ofC (ofT names lo)) F.fun27 rfl (fun w hS _ => hrec lo (by omega) z2.1.1 (L ++ z2.1.2.2) names _ nc w hklo hllo z2.2.1 z2.2.2.2 hz2 (rows_more hL hS jM) (hnr.next hS)) (fun yl => ?_)
     refine jG ?_
     refine jA 12 rfl ?_
     refine WL.storeN F.agg24 rfl rfl rfl jO jU jS ?_
     refine jG ?_
     refine jA 13 rfl ?_
     refine WL.storeN F.agg24 rfl rfl rfl jO jU jS ?_
     refine jG ?_
     refine jD ?_
     refine WQ.chunks (C' := ofCh b4 b6 b7 b27 b8 b9 nm (ofT names hi) (ofT names lo) yh yl) (fun w hS => (jK hS)) ?_
     exact WQ.byCut (hQ ((b8,b9),yh,yl)) ⟨rfl,rfl,rfl,rfl,rfl,trivial⟩
    refine WL.alloc F.zero24 rfl (fun b9 => ?_)
    refine WD.on (closed_of (by decide +kernel)) (fun w hS => Sx.gone rfl (Sx.keep ((fun j v hv => by rw [Nat.zero_add]; exact hS.cell jM hv)) (Sx.none))) ?_
    refine jA 4 rfl ?_
    refine jC (res := ofR (ofT names hi)) (cs := ofC (ofT names hi)) F.fun27 rfl (fun w hS _ => hrec hi (by omega) z1.1.1 (L ++ z1.1.2.2) names _ nc w hkhi hlhi z1.2.1 z1.2.2.2 hz1 (rows_more hL hS jM) (hnr.next hS)) (fun yh => ?_)
    refine WD.on (closed_of (by decide +kernel)) (fun w hS => Sx.gone rfl (Sx.keep ((fun j v hv => by rw [Nat.zero_add]; exact hS.cell jM hv)) (Sx.none))) ?_
    refine jA 7 rfl ?_
    refine jC (β := SX (L) (wiQ s v false)) (res := fun y => y.1.1.val) (cs := fun y => [rwC y.1.2.1 y.1.2.2]) F.fun61 rfl (fun w hS _ => (rWith_s s hg v false hv24 L ha w (fun q hq => (hL q hq).next hS)).mono (fun e w2 h => h.sx)) (fun z2 => ?_)
    refine jG ?_
    have hz2 := rel_kid ho (rel_with hg hv24 hR z2.2.2.1.2)
    dsimp only [cond_false] at hz2
    refine jA 9 rfl ?_
    refine jC (res := ofR (ofT names lo)) (cs := ofC (ofT names lo)) F.fun27 rfl (fun w hS _ => hrec lo (by omega) z2.1.1 (L ++ z2.1.2.2) names _ nc w hklo hllo z2.2.1 z2.2.2.2 hz2 (rows_more hL hS jM) (hnr.next hS)) (fun yl => ?_)
    refine jG ?_
    refine jA 12 rfl ?_
    refine WL.storeN F.agg24 rfl rfl rfl jO jU jS ?_
    refine jG ?_
    refine jA 13 rfl ?_
    refine WL.storeN F.agg24 rfl rfl rfl jO jU jS ?_
    refine jG ?_
    refine jD ?_
    refine WQ.chunks (C' := ofCh b4 b6 b7 b27 b8 b9 nm (ofT names hi) (ofT names lo) yh yl) (fun w hS => (jK hS)) ?_
    exact WQ.byCut (hQ ((b8,b9),yh,yl)) ⟨rfl,rfl,rfl,rfl,rfl,trivial⟩
   refine WL.alloc F.zero24 rfl (fun b9 => ?_)
   refine WD.on (closed_of (by decide +kernel)) (fun w hS => Sx.gone rfl (Sx.keep ((fun j v hv => by rw [Nat.zero_add]; exact hS.cell jM hv)) (Sx.none))) ?_
   refine WD.two (i := 4) (j := 10) (by decide +kernel) rfl rfl ?_ ?_
   ·refine jC (res := ofR (ofT names hi)) (cs := ofC (ofT names hi)) F.fun27 rfl (fun w hS _ => hrec hi (by omega) z1.1.1 (L ++ z1.1.2.2) names _ nc w hkhi hlhi z1.2.1 z1.2.2.2 hz1 (rows_more hL hS jM) (hnr.next hS)) (fun yh => ?_)
    refine WD.on (closed_of (by decide +kernel)) (fun w hS => Sx.gone rfl (Sx.keep ((fun j v hv => by rw [Nat.zero_add]; exact hS.cell jM hv)) (Sx.none))) ?_
    refine WD.two (i := 7) (j := 10) (by decide +kernel) rfl rfl ?_ ?_
    ·refine jC (β := SX (L) (wiQ s v false)) (res := fun y => y.1.1.val) (cs := fun y => [rwC y.1.2.1 y.1.2.2]) F.fun61 rfl (fun w hS _ => (rWith_s s hg v false hv24 L ha w (fun q hq => (hL q hq).next hS)).mono (fun e w2 h => h.sx)) (fun z2 => ?_)
     refine jG ?_
     have hz2 := rel_kid ho (rel_with hg hv24 hR z2.2.2.1.2)
     dsimp only [cond_false] at hz2
     refine WD.two (i := 9) (j := 10) (by decide +kernel) rfl rfl ?_ ?_
     refine jC (res := ofR (ofT names lo)) (cs := ofC (ofT names lo)) F.fun27 rfl (fun w hS _ => hrec lo (by omega) z2.1.1 (L ++ z2.1.2.2) names _ nc w hklo hllo z2.2.1 z2.2.2.2 hz2 (rows_more hL hS jM) (hnr.next hS)) (fun yl => ?_)
     refine jG ?_
     refine jA 10 rfl ?_
     refine WL.alloc F.zero24 rfl (fun b8 => ?_)
     rotate_left
     refine WL.alloc F.zero24 rfl (fun b8 => ?_)
     refine jG ?_
     refine jA 9 rfl ?_
     refine jC (res := ofR (ofT names lo)) (cs := ofC (ofT names lo)) F.fun27 rfl (fun w hS _ => hrec lo (by omega) z2.1.1 (L ++ z2.1.2.2) names _ nc w hklo hllo z2.2.1 z2.2.2.2 hz2 (rows_more hL hS jM) (hnr.next hS)) (fun yl => ?_)
     rotate_left
     all_goals
      refine jG ?_
      refine jA 12 rfl ?_
      refine WL.storeN F.agg24 rfl rfl rfl jO jU jS ?_
      refine jG ?_
      refine jA 13 rfl ?_
      refine WL.storeN F.agg24 rfl rfl rfl jO jU jS ?_
      refine jG ?_
      refine jD ?_
      refine WQ.chunks (C' := ofCh b4 b6 b7 b27 b8 b9 nm (ofT names hi) (ofT names lo) yh yl) (fun w hS => (jK hS)) ?_
      exact WQ.byCut (hQ ((b8,b9),yh,yl)) ⟨rfl,rfl,rfl,rfl,rfl,trivial⟩
    refine WL.alloc F.zero24 rfl (fun b8 => ?_)
    refine WD.on (closed_of (by decide +kernel)) (fun w hS => Sx.gone rfl (Sx.keep ((fun j v hv => by rw [Nat.zero_add]; exact hS.cell jM hv)) (Sx.none))) ?_
    refine jA 7 rfl ?_
    refine jC (β := SX (L) (wiQ s v false)) (res := fun y => y.1.1.val) (cs := fun y => [rwC y.1.2.1 y.1.2.2]) F.fun61 rfl (fun w hS _ => (rWith_s s hg v false hv24 L ha w (fun q hq => (hL q hq).next hS)).mono (fun e w2 h => h.sx)) (fun z2 => ?_)
    refine jG ?_
    have hz2 := rel_kid ho (rel_with hg hv24 hR z2.2.2.1.2)
    dsimp only [cond_false] at hz2
    refine jA 9 rfl ?_
    refine jC (res := ofR (ofT names lo)) (cs := ofC (ofT names lo)) F.fun27 rfl (fun w hS _ => hrec lo (by omega) z2.1.1 (L ++ z2.1.2.2) names _ nc w hklo hllo z2.2.1 z2.2.2.2 hz2 (rows_more hL hS jM) (hnr.next hS)) (fun yl => ?_)
    refine jG ?_
    refine jA 12 rfl ?_
    refine WL.storeN F.agg24 rfl rfl rfl jO jU jS ?_
    refine jG ?_
    refine jA 13 rfl ?_
    refine WL.storeN F.agg24 rfl rfl rfl jO jU jS ?_
    refine jG ?_
    refine jD ?_
    refine WQ.chunks (C' := ofCh b4 b6 b7 b27 b8 b9 nm (ofT names hi) (ofT names lo) yh yl) (fun w hS => (jK hS)) ?_
    exact WQ.byCut (hQ ((b8,b9),yh,yl)) ⟨rfl,rfl,rfl,rfl,rfl,trivial⟩
   refine WL.alloc F.zero24 rfl (fun b8 => ?_)
   refine WD.on (closed_of (by decide +kernel)) (fun w hS => Sx.gone rfl (Sx.keep ((fun j v hv => by rw [Nat.zero_add]; exact hS.cell jM hv)) (Sx.none))) ?_
   refine jA 4 rfl ?_
   refine jC (res := ofR (ofT names hi)) (cs := ofC (ofT names hi)) F.fun27 rfl (fun w hS _ => hrec hi (by omega) z1.1.1 (L ++ z1.1.2.2) names _ nc w hkhi hlhi z1.2.1 z1.2.2.2 hz1 (rows_more hL hS jM) (hnr.next hS)) (fun yh => ?_)
   refine WD.on (closed_of (by decide +kernel)) (fun w hS => Sx.gone rfl (Sx.keep ((fun j v hv => by rw [Nat.zero_add]; exact hS.cell jM hv)) (Sx.none))) ?_
   refine jA 7 rfl ?_
   refine jC (β := SX (L) (wiQ s v false)) (res := fun y => y.1.1.val) (cs := fun y => [rwC y.1.2.1 y.1.2.2]) F.fun61 rfl (fun w hS _ => (rWith_s s hg v false hv24 L ha w (fun q hq => (hL q hq).next hS)).mono (fun e w2 h => h.sx)) (fun z2 => ?_)
   refine jG ?_
   have hz2 := rel_kid ho (rel_with hg hv24 hR z2.2.2.1.2)
   dsimp only [cond_false] at hz2
   refine jA 9 rfl ?_
   refine jC (res := ofR (ofT names lo)) (cs := ofC (ofT names lo)) F.fun27 rfl (fun w hS _ => hrec lo (by omega) z2.1.1 (L ++ z2.1.2.2) names _ nc w hklo hllo z2.2.1 z2.2.2.2 hz2 (rows_more hL hS jM) (hnr.next hS)) (fun yl => ?_)
   refine jG ?_
   refine jA 12 rfl ?_
   refine WL.storeN F.agg24 rfl rfl rfl jO jU jS ?_
   refine jG ?_
   refine jA 13 rfl ?_
   refine WL.storeN F.agg24 rfl rfl rfl jO jU jS ?_
   refine jG ?_
   refine jD ?_
   refine WQ.chunks (C' := ofCh b4 b6 b7 b27 b8 b9 nm (ofT names hi) (ofT names lo) yh yl) (fun w hS => (jK hS)) ?_
   exact WQ.byCut (hQ ((b8,b9),yh,yl)) ⟨rfl,rfl,rfl,rfl,rfl,trivial⟩
  ·refine WL.alloc F.zero24 rfl (fun b8 => ?_)
   refine WD.on (closed_of (by decide +kernel)) (fun w hS => Sx.keep ((fun j v hv => by rw [Nat.zero_add]; exact hS.cell jM hv)) (Sx.keep ((fun j v hv => by rw [Nat.zero_add]; exact hS.cell jM hv)) (Sx.none))) ?_
   refine WD.two (i := 2) (j := 11) (by decide +kernel) rfl rfl ?_ ?_
   ·refine jC (β := SX (L) (wiQ s v true)) (res := fun y => y.1.1.val) (cs := fun y => [rwC y.1.2.1 y.1.2.2]) F.fun61 rfl (fun w hS _ => (rWith_s s hg v true hv24 L ha w (fun q hq => (hL q hq).next hS)).mono (fun e w2 h => h.sx)) (fun z1 => ?_)
    refine WD.on (closed_of (by decide +kernel)) (fun w hS => Sx.gone rfl (Sx.keep ((fun j v hv => by rw [Nat.zero_add]; exact hS.cell jM hv)) (Sx.none))) ?_
    have hz1 := rel_kid ho (rel_with hg hv24 hR z1.2.2.1.2)
    dsimp only [cond_true] at hz1
    refine WD.two (i := 4) (j := 11) (by decide +kernel) rfl rfl ?_ ?_
    ·refine jC (res := ofR (ofT names hi)) (cs := ofC (ofT names hi)) F.fun27 rfl (fun w hS _ => hrec hi (by omega) z1.1.1 (L ++ z1.1.2.2) names _ nc w hkhi hlhi z1.2.1 z1.2.2.2 hz1 (rows_more hL hS jM) (hnr.next hS)) (fun yh => ?_)
     refine WD.on (closed_of (by decide +kernel)) (fun w hS => Sx.gone rfl (Sx.keep ((fun j v hv => by rw [Nat.zero_add]; exact hS.cell jM hv)) (Sx.none))) ?_
     refine WD.two (i := 7) (j := 11) (by decide +kernel) rfl rfl ?_ ?_
     ·refine jC (β := SX (L) (wiQ s v false)) (res := fun y => y.1.1.val) (cs := fun y => [rwC y.1.2.1 y.1.2.2]) F.fun61 rfl (fun w hS _ => (rWith_s s hg v false hv24 L ha w (fun q hq => (hL q hq).next hS)).mono (fun e w2 h => h.sx)) (fun z2 => ?_)
      refine jG ?_
      have hz2 := rel_kid ho (rel_with hg hv24 hR z2.2.2.1.2)
      dsimp only [cond_false] at hz2
      refine WD.two (i := 9) (j := 11) (by decide +kernel) rfl rfl ?_ ?_
      refine jC (res := ofR (ofT names lo)) (cs := ofC (ofT names lo)) F.fun27 rfl (fun w hS _ => hrec lo (by omega) z2.1.1 (L ++ z2.1.2.2) names _ nc w hklo hllo z2.2.1 z2.2.2.2 hz2 (rows_more hL hS jM) (hnr.next hS)) (fun yl => ?_)
      refine jG ?_
      refine jA 11 rfl ?_
      refine WL.alloc F.zero24 rfl (fun b9 => ?_)
      rotate_left
      refine WL.alloc F.zero24 rfl (fun b9 => ?_)
      refine jG ?_
      refine jA 9 rfl ?_
      refine jC (res := ofR (ofT names lo)) (cs := ofC (ofT names lo)) F.fun27 rfl (fun w hS _ => hrec lo (by omega) z2.1.1 (L ++ z2.1.2.2) names _ nc w hklo hllo z2.2.1 z2.2.2.2 hz2 (rows_more hL hS jM) (hnr.next hS)) (fun yl => ?_)
      rotate_left
      all_goals
       refine jG ?_
       refine jA 12 rfl ?_
       refine WL.storeN F.agg24 rfl rfl rfl jO jU jS ?_
       refine jG ?_
       refine jA 13 rfl ?_
       refine WL.storeN F.agg24 rfl rfl rfl jO jU jS ?_
       refine jG ?_
       refine jD ?_
       refine WQ.chunks (C' := ofCh b4 b6 b7 b27 b8 b9 nm (ofT names hi) (ofT names lo) yh yl) (fun w hS => (jK hS)) ?_
       exact WQ.byCut (hQ ((b8,b9),yh,yl)) ⟨rfl,rfl,rfl,rfl,rfl,trivial⟩
     refine WL.alloc F.zero24 rfl (fun b9 => ?_)
     refine WD.on (closed_of (by decide +kernel)) (fun w hS => Sx.gone rfl (Sx.keep ((fun j v hv => by rw [Nat.zero_add]; exact hS.cell jM hv)) (Sx.none))) ?_
     refine jA 7 rfl ?_
     refine jC (β := SX (L) (wiQ s v false)) (res := fun y => y.1.1.val) (cs := fun y => [rwC y.1.2.1 y.1.2.2]) F.fun61 rfl (fun w hS _ => (rWith_s s hg v false hv24 L ha w (fun q hq => (hL q hq).next hS)).mono (fun e w2 h => h.sx)) (fun z2 => ?_)
     refine jG ?_
     have hz2 := rel_kid ho (rel_with hg hv24 hR z2.2.2.1.2)
     dsimp only [cond_false] at hz2
     refine jA 9 rfl ?_
     refine jC (res := ofR (ofT names lo)) (cs := ofC (ofT names lo)) F.fun27 rfl (fun w hS _ => hrec lo (by omega) z2.1.1 (L ++ z2.1.2.2) names _ nc w hklo hllo z2.2.1 z2.2.2.2 hz2 (rows_more hL hS jM) (hnr.next hS)) (fun yl => ?_)
     refine jG ?_
     refine jA 12 rfl ?_
     refine WL.storeN F.agg24 rfl rfl rfl jO jU jS ?_
     refine jG ?_
     refine jA 13 rfl ?_
     refine WL.storeN F.agg24 rfl rfl rfl jO jU jS ?_
     refine jG ?_
     refine jD ?_
     refine WQ.chunks (C' := ofCh b4 b6 b7 b27 b8 b9 nm (ofT names hi) (ofT names lo) yh yl) (fun w hS => (jK hS)) ?_
     exact WQ.byCut (hQ ((b8,b9),yh,yl)) ⟨rfl,rfl,rfl,rfl,rfl,trivial⟩
    refine WL.alloc F.zero24 rfl (fun b9 => ?_)
    refine WD.on (closed_of (by decide +kernel)) (fun w hS => Sx.gone rfl (Sx.keep ((fun j v hv => by rw [Nat.zero_add]; exact hS.cell jM hv)) (Sx.none))) ?_
    refine jA 4 rfl ?_
    refine jC (res := ofR (ofT names hi)) (cs := ofC (ofT names hi)) F.fun27 rfl (fun w hS _ => hrec hi (by omega) z1.1.1 (L ++ z1.1.2.2) names _ nc w hkhi hlhi z1.2.1 z1.2.2.2 hz1 (rows_more hL hS jM) (hnr.next hS)) (fun yh => ?_)
    refine WD.on (closed_of (by decide +kernel)) (fun w hS => Sx.gone rfl (Sx.keep ((fun j v hv => by rw [Nat.zero_add]; exact hS.cell jM hv)) (Sx.none))) ?_
    refine jA 7 rfl ?_
    refine jC (β := SX (L) (wiQ s v false)) (res := fun y => y.1.1.val) (cs := fun y => [rwC y.1.2.1 y.1.2.2]) F.fun61 rfl (fun w hS _ => (rWith_s s hg v false hv24 L ha w (fun q hq => (hL q hq).next hS)).mono (fun e w2 h => h.sx)) (fun z2 => ?_)
    refine jG ?_
    have hz2 := rel_kid ho (rel_with hg hv24 hR z2.2.2.1.2)
    dsimp only [cond_false] at hz2
    refine jA 9 rfl ?_
    refine jC (res := ofR (ofT names lo)) (cs := ofC (ofT names lo)) F.fun27 rfl (fun w hS _ => hrec lo (by omega) z2.1.1 (L ++ z2.1.2.2) names _ nc w hklo hllo z2.2.1 z2.2.2.2 hz2 (rows_more hL hS jM) (hnr.next hS)) (fun yl => ?_)
    refine jG ?_
    refine jA 12 rfl ?_
    refine WL.storeN F.agg24 rfl rfl rfl jO jU jS ?_
    refine jG ?_
    refine jA 13 rfl ?_
    refine WL.storeN F.agg24 rfl rfl rfl jO jU jS ?_
    refine jG ?_
    refine jD ?_
    refine WQ.chunks (C' := ofCh b4 b6 b7 b27 b8 b9 nm (ofT names hi) (ofT names lo) yh yl) (fun w hS => (jK hS)) ?_
    exact WQ.byCut (hQ ((b8,b9),yh,yl)) ⟨rfl,rfl,rfl,rfl,rfl,trivial⟩
   refine WL.alloc F.zero24 rfl (fun b9 => ?_)
   refine WD.on (closed_of (by decide +kernel)) (fun w hS => Sx.keep ((fun j v hv => by rw [Nat.zero_add]; exact hS.cell jM hv)) (Sx.keep ((fun j v hv => by rw [Nat.zero_add]; exact hS.cell jM hv)) (Sx.none))) ?_
   refine jA 2 rfl ?_
   refine jC (β := SX (L) (wiQ s v true)) (res := fun y => y.1.1.val) (cs := fun y => [rwC y.1.2.1 y.1.2.2]) F.fun61 rfl (fun w hS _ => (rWith_s s hg v true hv24 L ha w (fun q hq => (hL q hq).next hS)).mono (fun e w2 h => h.sx)) (fun z1 => ?_)
   refine WD.on (closed_of (by decide +kernel)) (fun w hS => Sx.gone rfl (Sx.keep ((fun j v hv => by rw [Nat.zero_add]; exact hS.cell jM hv)) (Sx.none))) ?_
   have hz1 := rel_kid ho (rel_with hg hv24 hR z1.2.2.1.2)
   dsimp only [cond_true] at hz1
   refine jA 4 rfl ?_
   refine jC (res := ofR (ofT names hi)) (cs := ofC (ofT names hi)) F.fun27 rfl (fun w hS _ => hrec hi (by omega) z1.1.1 (L ++ z1.1.2.2) names _ nc w hkhi hlhi z1.2.1 z1.2.2.2 hz1 (rows_more hL hS jM) (hnr.next hS)) (fun yh => ?_)
   refine WD.on (closed_of (by decide +kernel)) (fun w hS => Sx.gone rfl (Sx.keep ((fun j v hv => by rw [Nat.zero_add]; exact hS.cell jM hv)) (Sx.none))) ?_
   refine jA 7 rfl ?_
   refine jC (β := SX (L) (wiQ s v false)) (res := fun y => y.1.1.val) (cs := fun y => [rwC y.1.2.1 y.1.2.2]) F.fun61 rfl (fun w hS _ => (rWith_s s hg v false hv24 L ha w (fun q hq => (hL q hq).next hS)).mono (fun e w2 h => h.sx)) (fun z2 => ?_)
   refine jG ?_
   have hz2 := rel_kid ho (rel_with hg hv24 hR z2.2.2.1.2)
   dsimp only [cond_false] at hz2
   refine jA 9 rfl ?_
   refine jC (res := ofR (ofT names lo)) (cs := ofC (ofT names lo)) F.fun27 rfl (fun w hS _ => hrec lo (by omega) z2.1.1 (L ++ z2.1.2.2) names _ nc w hklo hllo z2.2.1 z2.2.2.2 hz2 (rows_more hL hS jM) (hnr.next hS)) (fun yl => ?_)
   refine jG ?_
   refine jA 12 rfl ?_
   refine WL.storeN F.agg24 rfl rfl rfl jO jU jS ?_
   refine jG ?_
   refine jA 13 rfl ?_
   refine WL.storeN F.agg24 rfl rfl rfl jO jU jS ?_
   refine jG ?_
   refine jD ?_
   refine WQ.chunks (C' := ofCh b4 b6 b7 b27 b8 b9 nm (ofT names hi) (ofT names lo) yh yl) (fun w hS => (jK hS)) ?_
   exact WQ.byCut (hQ ((b8,b9),yh,yl)) ⟨rfl,rfl,rfl,rfl,rfl,trivial⟩
  refine WL.alloc F.zero24 rfl (fun b9 => ?_)
  refine WD.on (closed_of (by decide +kernel)) (fun w hS => Sx.keep ((fun j v hv => by rw [Nat.zero_add]; exact hS.cell jM hv)) (Sx.keep ((fun j v hv => by rw [Nat.zero_add]; exact hS.cell jM hv)) (Sx.none))) ?_
  refine WD.two (i := 2) (j := 10) (by decide +kernel) rfl rfl ?_ ?_
  ·refine jC (β := SX (L) (wiQ s v true)) (res := fun y => y.1.1.val) (cs := fun y => [rwC y.1.2.1 y.1.2.2]) F.fun61 rfl (fun w hS _ => (rWith_s s hg v true hv24 L ha w (fun q hq => (hL q hq).next hS)).mono (fun e w2 h => h.sx)) (fun z1 => ?_)
   refine WD.on (closed_of (by decide +kernel)) (fun w hS => Sx.gone rfl (Sx.keep ((fun j v hv => by rw [Nat.zero_add]; exact hS.cell jM hv)) (Sx.none))) ?_
   have hz1 := rel_kid ho (rel_with hg hv24 hR z1.2.2.1.2)
   dsimp only [cond_true] at hz1
   refine WD.two (i := 4) (j := 10) (by decide +kernel) rfl rfl ?_ ?_
   ·refine jC (res := ofR (ofT names hi)) (cs := ofC (ofT names hi)) F.fun27 rfl (fun w hS _ => hrec hi (by omega) z1.1.1 (L ++ z1.1.2.2) names _ nc w hkhi hlhi z1.2.1 z1.2.2.2 hz1 (rows_more hL hS jM) (hnr.next hS)) (fun yh => ?_)
    refine WD.on (closed_of (by decide +kernel)) (fun w hS => Sx.gone rfl (Sx.keep ((fun j v hv => by rw [Nat.zero_add]; exact hS.cell jM hv)) (Sx.none))) ?_
    refine WD.two (i := 7) (j := 10) (by decide +kernel) rfl rfl ?_ ?_
    ·refine jC (β := SX (L) (wiQ s v false)) (res := fun y => y.1.1.val) (cs := fun y => [rwC y.1.2.1 y.1.2.2]) F.fun61 rfl (fun w hS _ => (rWith_s s hg v false hv24 L ha w (fun q hq => (hL q hq).next hS)).mono (fun e w2 h => h.sx)) (fun z2 => ?_)
     refine jG ?_
     have hz2 := rel_kid ho (rel_with hg hv24 hR z2.2.2.1.2)
     dsimp only [cond_false] at hz2
     refine WD.two (i := 9) (j := 10) (by decide +kernel) rfl rfl ?_ ?_
     refine jC (res := ofR (ofT names lo)) (cs := ofC (ofT names lo)) F.fun27 rfl (fun w hS _ => hrec lo (by omega) z2.1.1 (L ++ z2.1.2.2) names _ nc w hklo hllo z2.2.1 z2.2.2.2 hz2 (rows_more hL hS jM) (hnr.next hS)) (fun yl => ?_)
     refine jG ?_
     refine jA 10 rfl ?_
     refine WL.alloc F.zero24 rfl (fun b8 => ?_)
     rotate_left
     refine WL.alloc F.zero24 rfl (fun b8 => ?_)
     refine jG ?_
     refine jA 9 rfl ?_
     refine jC (res := ofR (ofT names lo)) (cs := ofC (ofT names lo)) F.fun27 rfl (fun w hS _ => hrec lo (by omega) z2.1.1 (L ++ z2.1.2.2) names _ nc w hklo hllo z2.2.1 z2.2.2.2 hz2 (rows_more hL hS jM) (hnr.next hS)) (fun yl => ?_)
     rotate_left
     all_goals
      refine jG ?_
      refine jA 12 rfl ?_
      refine WL.storeN F.agg24 rfl rfl rfl jO jU jS ?_
      refine jG ?_
      refine jA 13 rfl ?_
      refine WL.storeN F.agg24 rfl rfl rfl jO jU jS ?_
      refine jG ?_
      refine jD ?_
      refine WQ.chunks (C' := ofCh b4 b6 b7 b27 b8 b9 nm (ofT names hi) (ofT names lo) yh yl) (fun w hS => (jK hS)) ?_
      exact WQ.byCut (hQ ((b8,b9),yh,yl)) ⟨rfl,rfl,rfl,rfl,rfl,trivial⟩
    refine WL.alloc F.zero24 rfl (fun b8 => ?_)
    refine WD.on (closed_of (by decide +kernel)) (fun w hS => Sx.gone rfl (Sx.keep ((fun j v hv => by rw [Nat.zero_add]; exact hS.cell jM hv)) (Sx.none))) ?_
    refine jA 7 rfl ?_
    refine jC (β := SX (L) (wiQ s v false)) (res := fun y => y.1.1.val) (cs := fun y => [rwC y.1.2.1 y.1.2.2]) F.fun61 rfl (fun w hS _ => (rWith_s s hg v false hv24 L ha w (fun q hq => (hL q hq).next hS)).mono (fun e w2 h => h.sx)) (fun z2 => ?_)
    refine jG ?_
    have hz2 := rel_kid ho (rel_with hg hv24 hR z2.2.2.1.2)
    dsimp only [cond_false] at hz2
    refine jA 9 rfl ?_
    refine jC (res := ofR (ofT names lo)) (cs := ofC (ofT names lo)) F.fun27 rfl (fun w hS _ => hrec lo (by omega) z2.1.1 (L ++ z2.1.2.2) names _ nc w hklo hllo z2.2.1 z2.2.2.2 hz2 (rows_more hL hS jM) (hnr.next hS)) (fun yl => ?_)
    refine jG ?_
    refine jA 12 rfl ?_
    refine WL.storeN F.agg24 rfl rfl rfl jO jU jS ?_
    refine jG ?_
    refine jA 13 rfl ?_
    refine WL.storeN F.agg24 rfl rfl rfl jO jU jS ?_
    refine jG ?_
    refine jD ?_
    refine WQ.chunks (C' := ofCh b4 b6 b7 b27 b8 b9 nm (ofT names hi) (ofT names lo) yh yl) (fun w hS => (jK hS)) ?_
    exact WQ.byCut (hQ ((b8,b9),yh,yl)) ⟨rfl,rfl,rfl,rfl,rfl,trivial⟩
   refine WL.alloc F.zero24 rfl (fun b8 => ?_)
   refine WD.on (closed_of (by decide +kernel)) (fun w hS => Sx.gone rfl (Sx.keep ((fun j v hv => by rw [Nat.zero_add]; exact hS.cell jM hv)) (Sx.none))) ?_
   refine jA 4 rfl ?_
   refine jC (res := ofR (ofT names hi)) (cs := ofC (ofT names hi)) F.fun27 rfl (fun w hS _ => hrec hi (by omega) z1.1.1 (L ++ z1.1.2.2) names _ nc w hkhi hlhi z1.2.1 z1.2.2.2 hz1 (rows_more hL hS jM) (hnr.next hS)) (fun yh => ?_)
   refine WD.on (closed_of (by decide +kernel)) (fun w hS => Sx.gone rfl (Sx.keep ((fun j v hv => by rw [Nat.zero_add]; exact hS.cell jM hv)) (Sx.none))) ?_
   refine jA 7 rfl ?_
   refine jC (β := SX (L) (wiQ s v false)) (res := fun y => y.1.1.val) (cs := fun y => [rwC y.1.2.1 y.1.2.2]) F.fun61 rfl (fun w hS _ => (rWith_s s hg v false hv24 L ha w (fun q hq => (hL q hq).next hS)).mono (fun e w2 h => h.sx)) (fun z2 => ?_)
   refine jG ?_
   have hz2 := rel_kid ho (rel_with hg hv24 hR z2.2.2.1.2)
   dsimp only [cond_false] at hz2
   refine jA 9 rfl ?_
   refine jC (res := ofR (ofT names lo)) (cs := ofC (ofT names lo)) F.fun27 rfl (fun w hS _ => hrec lo (by omega) z2.1.1 (L ++ z2.1.2.2) names _ nc w hklo hllo z2.2.1 z2.2.2.2 hz2 (rows_more hL hS jM) (hnr.next hS)) (fun yl => ?_)
   refine jG ?_
   refine jA 12 rfl ?_
   refine WL.storeN F.agg24 rfl rfl rfl jO jU jS ?_
   refine jG ?_
   refine jA 13 rfl ?_
   refine WL.storeN F.agg24 rfl rfl rfl jO jU jS ?_
   refine jG ?_
   refine jD ?_
   refine WQ.chunks (C' := ofCh b4 b6 b7 b27 b8 b9 nm (ofT names hi) (ofT names lo) yh yl) (fun w hS => (jK hS)) ?_
   exact WQ.byCut (hQ ((b8,b9),yh,yl)) ⟨rfl,rfl,rfl,rfl,rfl,trivial⟩
  refine WL.alloc F.zero24 rfl (fun b8 => ?_)
  refine WD.on (closed_of (by decide +kernel)) (fun w hS => Sx.keep ((fun j v hv => by rw [Nat.zero_add]; exact hS.cell jM hv)) (Sx.keep ((fun j v hv => by rw [Nat.zero_add]; exact hS.cell jM hv)) (Sx.none))) ?_
  refine jA 2 rfl ?_
  refine jC (β := SX (L) (wiQ s v true)) (res := fun y => y.1.1.val) (cs := fun y => [rwC y.1.2.1 y.1.2.2]) F.fun61 rfl (fun w hS _ => (rWith_s s hg v true hv24 L ha w (fun q hq => (hL q hq).next hS)).mono (fun e w2 h => h.sx)) (fun z1 => ?_)
  refine WD.on (closed_of (by decide +kernel)) (fun w hS => Sx.gone rfl (Sx.keep ((fun j v hv => by rw [Nat.zero_add]; exact hS.cell jM hv)) (Sx.none))) ?_
  have hz1 := rel_kid ho (rel_with hg hv24 hR z1.2.2.1.2)
  dsimp only [cond_true] at hz1
  refine jA 4 rfl ?_
  refine jC (res := ofR (ofT names hi)) (cs := ofC (ofT names hi)) F.fun27 rfl (fun w hS _ => hrec hi (by omega) z1.1.1 (L ++ z1.1.2.2) names _ nc w hkhi hlhi z1.2.1 z1.2.2.2 hz1 (rows_more hL hS jM) (hnr.next hS)) (fun yh => ?_)
  refine WD.on (closed_of (by decide +kernel)) (fun w hS => Sx.gone rfl (Sx.keep ((fun j v hv => by rw [Nat.zero_add]; exact hS.cell jM hv)) (Sx.none))) ?_
  refine jA 7 rfl ?_
  refine jC (β := SX (L) (wiQ s v false)) (res := fun y => y.1.1.val) (cs := fun y => [rwC y.1.2.1 y.1.2.2]) F.fun61 rfl (fun w hS _ => (rWith_s s hg v false hv24 L ha w (fun q hq => (hL q hq).next hS)).mono (fun e w2 h => h.sx)) (fun z2 => ?_)
  refine jG ?_
  have hz2 := rel_kid ho (rel_with hg hv24 hR z2.2.2.1.2)
  dsimp only [cond_false] at hz2
  refine jA 9 rfl ?_
  refine jC (res := ofR (ofT names lo)) (cs := ofC (ofT names lo)) F.fun27 rfl (fun w hS _ => hrec lo (by omega) z2.1.1 (L ++ z2.1.2.2) names _ nc w hklo hllo z2.2.1 z2.2.2.2 hz2 (rows_more hL hS jM) (hnr.next hS)) (fun yl => ?_)
  refine jG ?_
  refine jA 12 rfl ?_
  refine WL.storeN F.agg24 rfl rfl rfl jO jU jS ?_
  refine jG ?_
  refine jA 13 rfl ?_
  refine WL.storeN F.agg24 rfl rfl rfl jO jU jS ?_
  refine jG ?_
  refine jD ?_
  refine WQ.chunks (C' := ofCh b4 b6 b7 b27 b8 b9 nm (ofT names hi) (ofT names lo) yh yl) (fun w hS => (jK hS)) ?_
  exact WQ.byCut (hQ ((b8,b9),yh,yl)) ⟨rfl,rfl,rfl,rfl,rfl,trivial⟩
 obtain ⟨⟨b8,b9⟩,yh,yl⟩ := xE
 show WQ _ _ _ _ _ _ [(4,pp b4),(6,pp b6),(7,pp b7),(8,pp b8),(9,pp b9)] [pt b8 [.int .u8 (ofT names hi).op,.string (str (ofT names hi).name),.slice yh.2.1 (ofT names hi).kids.length yh.2.2] 24,pt b9 [.int .u8 (ofT names lo).op,.string (str (ofT names lo).name),.slice yl.2.1 (ofT names lo).kids.length yl.2.2] 24,own yh.1 (ofT names hi) (tv (ofT names hi) yh.2.1 yh.2.2),own yl.1 (ofT names lo) (tv (ofT names lo) yl.2.1 yl.2.2),pt b7 [.int .u8 4,.string (str []),.slice (some ⟨b27,0,none⟩) 1 1] 24,pt b27 [.int .u8 3,.string (str nm),.slice none 0 0] 24,pt b6 [.int .u8 3,.string (str nm),.slice none 0 0] 24,pt b4 [.int .u8 0,.string (str []),.slice none 0 0] 24]
 obtain ⟨c46,hc46⟩ : ∃ c,c = (decide ((ofT names hi).op = 2) && decide ((ofT names lo).op = 1)) := ⟨_,rfl⟩
 refine jN 3 ?_
 refine WC.cutF [(4,pp b4),(6,pp b6),(7,pp b7),(8,pp b8),(9,pp b9),(46,.bool c46)] (fun Q' hQ => ?_) ?_
 ·refine jN 9 ?_
  refine WA.splitB (i := 42) rfl (fun g42 => ?_) (fun g42 => ?_)
  have hB : c46 = ((ofT names lo).op == 1) := by (rw [hc46,decide_eq_true (show (ofT names hi).op = 2 by simpa using g42),Bool.true_and]; rfl)
  refine jN 12 ?_
  rotate_left
  have hB : c46 = false := by (rw [hc46,decide_eq_false (show ¬ (ofT names hi).op = 2 by simpa using g42),Bool.false_and])
  refine jN 9 ?_
  rotate_left
  all_goals
   refine WQ.say 46 (.bool c46) (by rw [hB]; rfl) ?_
   exact WQ.byCut hQ ⟨rfl,rfl,rfl,rfl,rfl,rfl,trivial⟩
 refine jN 1 ?_
 refine WC.cond rfl (fun h46 => ?_) (fun h46 => ?_)
 ·rw [h46] at hc46
  have hk := hc46.symm
  simp only [Bool.and_eq_true,decide_eq_true_eq] at hk
  refine jN 10 ?_
  refine WQ.ret (rs := [.cell 4 24]) rfl (.cellN F.agg24 rfl jM rfl .nil) (fun w hS => ?_)
  have hT : ofT names (.nd v lo hi) = (.mk 3 nm [] : Tree) := by (show shapeT (.mk 3 (names.getD v []) []) _ _ = _; rw [← hnm9]; unfold shapeT; rw [if_pos hk])
  rw [hT]
  have hS1 := St.node0 3 nm hS
  exact ⟨([],none,0),rfl,hS1.sublist (List.Sublist.cons_cons _ (List.nil_sublist _))⟩
 have n1 : ¬ ((ofT names hi).op = 2 ∧ (ofT names lo).op = 1) := fun h => by (rw [hc46,decide_eq_true h.1,decide_eq_true h.2] at h46; cases h46)
 obtain ⟨c55,hc55⟩ : ∃ c,c = (decide ((ofT names hi).op = 1) && decide ((ofT names lo).op = 2)) := ⟨_,rfl⟩
 refine jN 4 ?_
 refine WC.cutF [(4,pp b4),(6,pp b6),(7,pp b7),(8,pp b8),(9,pp b9),(55,.bool c55)] (fun Q' hQ => ?_) ?_
 ·refine jN 9 ?_
  refine WA.splitB (i := 51) rfl (fun g51 => ?_) (fun g51 => ?_)
  have hB : c55 = ((ofT names lo).op == 2) := by (rw [hc55,decide_eq_true (show (ofT names hi).op = 1 by simpa using g51),Bool.true_and]; rfl)
  refine jN 12 ?_
  rotate_left
  have hB : c55 = false := by (rw [hc55,decide_eq_false (show ¬ (ofT names hi).op = 1 by simpa using g51),Bool.false_and])
  refine jN 9 ?_
  rotate_left
  all_goals
   refine WQ.say 55 (.bool c55) (by rw [hB]; rfl) ?_
   exact WQ.byCut hQ ⟨rfl,rfl,rfl,rfl,rfl,rfl,trivial⟩
 refine jN 1 ?_
 refine WC.cond rfl (fun h55 => ?_) (fun h55 => ?_)
 ·rw [h55] at hc55
  have hk := hc55.symm
  simp only [Bool.and_eq_true,decide_eq_true_eq] at hk
  refine jN 10 ?_
  refine WQ.ret (rs := [.cell 4 24]) rfl (.cellN F.agg24 rfl jM rfl .nil) (fun w hS => ?_)
  have hT : ofT names (.nd v lo hi) = .mk 4 [] [(.mk 3 nm [] : Tree)] := by (show shapeT (.mk 3 (names.getD v []) []) _ _ = _; rw [← hnm9]; unfold shapeT; rw [if_neg n1,if_pos hk])
  rw [hT]
  have hS1 := St.node0 3 nm hS
  obtain ⟨F8,hF8⟩ := St.node1 (t1 := (.mk 3 nm [] : Tree)) (a1 := none) (c1 := 0) 4 ((St.pick (St.pick hS1 (c := own [] (.mk 3 nm [] : Tree) (.agg #[.int .u8 3,.string (str nm),.slice none 0 0])) jR) (c := pt b27 [.int .u8 3,.string (str nm),.slice none 0 0] 24) jR))
  exact ⟨(F8,some ⟨b27,0,none⟩,1),rfl,hF8.sublist (List.Sublist.cons_cons _ (List.nil_sublist _))⟩
 have n2 : ¬ ((ofT names hi).op = 1 ∧ (ofT names lo).op = 2) := fun h => by (rw [hc55,decide_eq_true h.1,decide_eq_true h.2] at h55; cases h55)
 refine jN 13 ?_
 refine WC.cond rfl (fun h59 => ?_) (fun h59 => ?_)
 ·have hk : (ofT names lo).op = 1 := by simpa using h59
  refine jN 7 ?_
  refine WL.buildSlice F.sl22 F.ez22 rfl rfl rfl rfl jB rfl (fun b62 => ?_)
  refine jN 8 ?_
  refine WQ.ret (rs := [.cell 4 24]) rfl (.cellN F.agg24 rfl jM rfl .nil) (fun w hS => ?_)
  have hT : ofT names (.nd v lo hi) = .mk 5 [] [(.mk 3 nm [] : Tree),(ofT names hi)] := by (show shapeT (.mk 3 (names.getD v []) []) _ _ = _; rw [← hnm9]; unfold shapeT; rw [if_neg n1,if_neg n2,if_pos hk])
  rw [hT]
  have hS1 := St.node0 3 nm hS
  obtain ⟨F9,hF9⟩ := St.node2 (t1 := (.mk 3 nm [] : Tree)) (a1 := none) (c1 := 0) (t2 := (ofT names hi)) (a2 := yh.2.1) (c2 := yh.2.2) 5 ((St.pick (St.pick (St.pick hS1 (c := own yh.1 (ofT names hi) (tv (ofT names hi) yh.2.1 yh.2.2)) jR) (c := own [] (.mk 3 nm [] : Tree) (.agg #[.int .u8 3,.string (str nm),.slice none 0 0])) jR) (c := pt b62 [.int .u8 3,.string (str nm),.slice none 0 0,.int .u8 (ofT names hi).op,.string (str (ofT names hi).name),.slice yh.2.1 (ofT names hi).kids.length yh.2.2] 24) jR))
  exact ⟨(F9,some ⟨b62,0,none⟩,2),rfl,(hF9).sublist (List.Sublist.cons_cons _ (List.nil_sublist _))⟩
 have n3 : ¬ (ofT names lo).op = 1 := by simpa using h59
 refine jN 13 ?_
 refine WC.cond rfl (fun h66 => ?_) (fun h66 => ?_)
 ·have hk : (ofT names hi).op = 2 := by simpa using h66
  refine jN 7 ?_
  refine WL.buildSlice F.sl22 F.ez22 rfl rfl rfl rfl jB rfl (fun b69 => ?_)
  refine jN 8 ?_
  refine WQ.ret (rs := [.cell 4 24]) rfl (.cellN F.agg24 rfl jM rfl .nil) (fun w hS => ?_)
  have hT : ofT names (.nd v lo hi) = .mk 6 [] [(.mk 3 nm [] : Tree),(ofT names lo)] := by (show shapeT (.mk 3 (names.getD v []) []) _ _ = _; rw [← hnm9]; unfold shapeT; rw [if_neg n1,if_neg n2,if_neg n3,if_pos hk])
  rw [hT]
  have hS1 := St.node0 3 nm hS
  obtain ⟨F9,hF9⟩ := St.node2 (t1 := (.mk 3 nm [] : Tree)) (a1 := none) (c1 := 0) (t2 := (ofT names lo)) (a2 := yl.2.1) (c2 := yl.2.2) 6 ((St.pick (St.pick (St.pick hS1 (c := own yl.1 (ofT names lo) (tv (ofT names lo) yl.2.1 yl.2.2)) jR) (c := own [] (.mk 3 nm [] : Tree) (.agg #[.int .u8 3,.string (str nm),.slice none 0 0])) jR) (c := pt b69 [.int .u8 3,.string (str nm),.slice none 0 0,.int .u8 (ofT names lo).op,.string (str (ofT names lo).name),.slice yl.2.1 (ofT names lo).kids.length yl.2.2] 24) jR))
  exact ⟨(F9,some ⟨b69,0,none⟩,2),rfl,(hF9).sublist (List.Sublist.cons_cons _ (List.nil_sublist _))⟩
 have n4 : ¬ (ofT names hi).op = 2 := by simpa using h66
 refine jN 13 ?_
 refine WC.cond rfl (fun h73 => ?_) (fun h73 => ?_)
 ·have hk : (ofT names hi).op = 1 := by simpa using h73
  refine jN 7 ?_
  refine WL.buildSlice F.sl22 F.ez22 rfl rfl rfl rfl jB rfl (fun b76 => ?_)
  refine jN 8 ?_
  refine WQ.ret (rs := [.cell 4 24]) rfl (.cellN F.agg24 rfl jM rfl .nil) (fun w hS => ?_)
  have hT : ofT names (.nd v lo hi) = .mk 5 [] [.mk 4 [] [(.mk 3 nm [] : Tree)],(ofT names lo)] := by (show shapeT (.mk 3 (names.getD v []) []) _ _ = _; rw [← hnm9]; unfold shapeT; rw [if_neg n1,if_neg n2,if_neg n3,if_neg n4,if_pos hk])
  rw [hT]
  have hS1 := St.node0 3 nm hS
  obtain ⟨F8,hF8⟩ := St.node1 (t1 := (.mk 3 nm [] : Tree)) (a1 := none) (c1 := 0) 4 ((St.pick (St.pick hS1 (c := own [] (.mk 3 nm [] : Tree) (.agg #[.int .u8 3,.string (str nm),.slice none 0 0])) jR) (c := pt b27 [.int .u8 3,.string (str nm),.slice none 0 0] 24) jR))
  obtain ⟨F9,hF9⟩ := St.node2 (t1 := .mk 4 [] [(.mk 3 nm [] : Tree)]) (a1 := some ⟨b27,0,none⟩) (c1 := 1) (t2 := (ofT names lo)) (a2 := yl.2.1) (c2 := yl.2.2) 5 ((St.pick (St.pick (St.pick hF8 (c := own yl.1 (ofT names lo) (tv (ofT names lo) yl.2.1 yl.2.2)) jR) (c := own F8 (.mk 4 [] [(.mk 3 nm [] : Tree)]) (.agg #[.int .u8 4,.string (str []),.slice (some ⟨b27,0,none⟩) 1 1])) jR) (c := pt b76 [.int .u8 4,.string (str []),.slice (some ⟨b27,0,none⟩) 1 1,.int .u8 (ofT names lo).op,.string (str (ofT names lo).name),.slice yl.2.1 (ofT names lo).kids.length yl.2.2] 24) jR))
  exact ⟨(F9,some ⟨b76,0,none⟩,2),rfl,(hF9).sublist (List.Sublist.cons_cons _ (List.nil_sublist _))⟩
 have n5 : ¬ (ofT names hi).op = 1 := by simpa using h73
 refine jN 13 ?_
 refine WC.cond rfl (fun h80 => ?_) (fun h80 => ?_)
 ·have hk : (ofT names lo).op = 2 := by simpa using h80
  refine jN 7 ?_
  refine WL.buildSlice F.sl22 F.ez22 rfl rfl rfl rfl jB rfl (fun b83 => ?_)
  refine jN 8 ?_
  refine WQ.ret (rs := [.cell 4 24]) rfl (.cellN F.agg24 rfl jM rfl .nil) (fun w hS => ?_)
  have hT : ofT names (.nd v lo hi) = .mk 6 [] [.mk 4 [] [(.mk 3 nm [] : Tree)],(ofT names hi)] := by (show shapeT (.mk 3 (names.getD v []) []) _ _ = _; rw [← hnm9]; unfold shapeT; rw [if_neg n1,if_neg n2,if_neg n3,if_neg n4,if_neg n5,if_pos hk])
  rw [hT]
  have hS1 := St.node0 3 nm hS
  obtain ⟨F8,hF8⟩ := St.node1 (t1 := (.mk 3 nm [] : Tree)) (a1 := none) (c1 := 0) 4 ((St.pick (St.pick hS1 (c := own [] (.mk 3 nm [] : Tree) (.agg #[.int .u8 3,.string (str nm),.slice none 0 0])) jR) (c := pt b27 [.int .u8 3,.string (str nm),.slice none 0 0] 24) jR))
  obtain ⟨F9,hF9⟩ := St.node2 (t1 := .mk 4 [] [(.mk 3 nm [] : Tree)]) (a1 := some ⟨b27,0,none⟩) (c1 := 1) (t2 := (ofT names hi)) (a2 := yh.2.1) (c2 := yh.2.2) 6 ((St.pick (St.pick (St.pick hF8 (c := own yh.1 (ofT names hi) (tv (ofT names hi) yh.2.1 yh.2.2)) jR) (c := own F8 (.mk 4 [] [(.mk 3 nm [] : Tree)]) (.agg #[.int .u8 4,.string (str []),.slice (some ⟨b27,0,none⟩) 1 1])) jR) (c := pt b83 [.int .u8 4,.string (str []),.slice (some ⟨b27,0,none⟩) 1 1,.int .u8 (ofT names hi).op,.string (str (ofT names hi).name),.slice yh.2.1 (ofT names hi).kids.length yh.2.2] 24) jR))
  exact ⟨(F9,some ⟨b83,0,none⟩,2),rfl,(hF9).sublist (List.Sublist.cons_cons _ (List.nil_sublist _))⟩
 have n6 : ¬ (ofT names lo).op = 2 := by simpa using h80
 refine jN 11 ?_
 refine WL.buildSlice F.sl22 F.ez22 rfl rfl rfl rfl jB rfl (fun b88 => ?_)
 refine jN 7 ?_
 refine WQ.ret (rs := [.cell 4 24]) rfl (.cellN F.agg24 rfl jM rfl .nil) (fun w hS => ?_)
 have hT : ofT names (.nd v lo hi) = .mk 10 [] [(.mk 3 nm [] : Tree),(ofT names hi),(ofT names lo)] := by (show shapeT (.mk 3 (names.getD v []) []) _ _ = _; rw [← hnm9]; unfold shapeT; rw [if_neg n1,if_neg n2,if_neg n3,if_neg n4,if_neg n5,if_neg n6])
 rw [hT]
 have hS1 := St.node0 3 nm hS
 obtain ⟨F9,hF9⟩ := St.node3 (t1 := (.mk 3 nm [] : Tree)) (a1 := none) (c1 := 0) (t2 := (ofT names hi)) (a2 := yh.2.1) (c2 := yh.2.2) (t3 := (ofT names lo)) (a3 := yl.2.1) (c3 := yl.2.2) 10 ((St.pick (St.pick (St.pick (St.pick hS1 (c := own yl.1 (ofT names lo) (tv (ofT names lo) yl.2.1 yl.2.2)) jR) (c := own yh.1 (ofT names hi) (tv (ofT names hi) yh.2.1 yh.2.2)) jR) (c := own [] (.mk 3 nm [] : Tree) (.agg #[.int .u8 3,.string (str nm),.slice none 0 0])) jR) (c := pt b88 [.int .u8 3,.string (str nm),.slice none 0 0,.int .u8 (ofT names hi).op,.string (str (ofT names hi).name),.slice yh.2.1 (ofT names hi).kids.length yh.2.2,.int .u8 (ofT names lo).op,.string (str (ofT names lo).name),.slice yl.2.1 (ofT names lo).kids.length yl.2.2] 24) jR))
 exact ⟨(F9,some ⟨b88,0,none⟩,3),rfl,(hF9).sublist (List.Sublist.cons_cons _ (List.nil_sublist _))⟩
theorem few_30 {t : Tree} {names : List (List UInt8)} {n : Nat} (h : fewB t names n = true) : names.length ≤ 30 := by
 unfold fewB at h
 simp only [Bool.and_eq_true,Bool.not_eq_true',Bool.or_eq_false_iff,decide_eq_false_iff_not] at h
 omega
theorem sh_var {t : BT} (ho : t.ok 0) {n : Nat} (h : supT (canon t).1 >>> n = 0) : ∀ x,hasVar x t → x < n := fun x hx => Nat.lt_of_not_le fun hge => by
 have h1 := (sup_var ho x).2 hx
 have h2 : (supT (canon t).1 >>> n).testBit (x - n) = true := by
  rw [Nat.testBit_shiftRight,show n + (x - n) = x by omega]
  exact h1
 rw [h] at h2
 simp at h2
def ofE (names : List (List UInt8)) (t : BT) : Int := if namesE names ≠ 0 then namesE names else if supT (canon t).1 >>> names.length ≠ 0 then 2 else 0
def ofV (names : List (List UInt8)) (t : BT) : Tree := if ofE names t = 0 then ofT names t else .mk 0 [] []
theorem ofE_zero {names : List (List UInt8)} {t : BT} (h : ofE names t = 0) : namesE names = 0 ∧ supT (canon t).1 >>> names.length = 0 := by
 unfold ofE at h
 split at h
 ·contradiction
 rename_i h1
 split at h
 ·cases h
 rename_i h2
 exact ⟨Classical.not_not.1 h1,Classical.not_not.1 h2⟩
theorem rd0 (w : World) : rdT w (.mk 0 [] []) [] (tv (.mk 0 [] []) none 0) := by
 simp only [rdT]
 exact ⟨_,rfl,.inl ⟨trivial,trivial,none,0,rfl⟩⟩
theorem Of_any (t : BT) (a : Option Addr) (c : Nat) (names : List (List UInt8)) (na : Option Addr) (nc : Nat) (hcap : names.length ≤ nc) (hll : names.length ≤ 1099511627776) (f : Nat) (hf : ∀ x,hasVar x t → f.testBit x = true) (hf7 : (featL f).length ≤ 7) (w : World) (ht : RdD w t a) (hnr : RdS w names na) :
  Calls Tryz.prog 23 [dval t a c,.slice na names.length nc].toArray w fun e w' => ∃ y : List Nat × Option Addr × Nat,e = .returned (.tuple #[tv (ofV names t) y.2.1 y.2.2,.int .i64 (ofE names t)]) ∧ St w [] [own y.1 (ofV names t) (tv (ofV names t) y.2.1 y.2.2)] w' := by
 by_cases hE : ofE names t = 0
 ·obtain ⟨hn,hs⟩ := ofE_zero hE
  have hl := sh_var ht.1 hs
  have hV : ofV names t = ofT names t := if_pos hE
  rw [hV,hE]
  exact Of_ok t a c names na nc hcap hll hn hs hl (of_szs ht.1 hf hf7) (of_may hn ht.1 hl hf hf7) w ht hnr
 have hV : ofV names t = .mk 0 [] [] := if_neg hE
 rw [hV]
 by_cases hn : namesE names = 0
 ·have hs : supT (canon t).1 >>> names.length ≠ 0 := fun h => hE (by unfold ofE; rw [if_neg (by simpa using hn),if_neg (by simpa using h)])
  have e2 : ofE names t = 2 := by unfold ofE; rw [if_neg (by simpa using hn),if_pos hs]
  rw [e2]
  refine (Of_wide t a c names na nc hcap hll hn hs w ht hnr).mono ?_
  rintro e w2 ⟨h1,h2⟩
  exact ⟨([],none,0),h1,St.node0 0 [] h2⟩
 have e2 : ofE names t = namesE names := by unfold ofE; rw [if_pos hn]
 rw [e2]
 refine (Of_names t a c names na nc hcap hll hn w ht hnr).mono ?_
 rintro e w2 ⟨h1,h2⟩
 exact ⟨([],none,0),h1,St.node0 0 [] h2⟩
set_option maxRecDepth 100000 in
theorem FormulaOf_c (l : List OpV) (a : Option Addr) (c : Nat) (names : List (List UInt8)) (na : Option Addr) (nc : Nat) (w : World) (hwf : ∀ x ∈ l,x.wf) (hr : RdOps w l a) (hnr : RdS w names na) (hcap : names.length ≤ nc) :
  Pure Tryz.prog 5 [.slice a l.length c,.slice na names.length nc] w (.bool true) := by
 refine enter Tryz.func5 rfl Tryz.ntmps5 rfl (St.init _) ?_
 refine jN 8 ?_
 refine WC.cutFE (α := { b : Bool // b = false → MentP l ∧ fewB (.mk 0 [] [] : Tree) names 1 = true }) (fun z => [(0,.slice a l.length c),(1,.slice na names.length nc),(22,.bool z.1)]) (fun _ => []) (fun Q' hQ => ?_) (fun xE => ?_)
 ·refine jN 4 ?_
  refine jC (β := { b : Bool // b = true → MentP l }) (res := fun z => .bool z.1) (cs := fun _ => []) F.fun18 rfl (fun w hS _ => Mentioned_c l a c hwf w (hr.next hS)) (fun ⟨b,hb⟩ => ?_)
  dsimp only
  refine jN 4 ?_
  refine WA.splitB (i := 17) rfl (fun g17 => ?_) (fun g17 => ?_)
  have hzz : ∃ z : { b : Bool // b = false → MentP l ∧ fewB (.mk 0 [] [] : Tree) names 1 = true },z.1 = true := ⟨⟨true,fun h => by cases h⟩,rfl⟩
  refine jN 11 ?_
  rotate_left
  have hzz : ∃ z : { b : Bool // b = false → MentP l ∧ fewB (.mk 0 [] [] : Tree) names 1 = true },z.1 = !(fewB (.mk 0 [] [] : Tree) names 1) := ⟨⟨!(fewB (.mk 0 [] [] : Tree) names 1),fun h => ⟨hb (by simpa using g17),by rwa [Bool.not_eq_false'] at h⟩⟩,rfl⟩
  refine jN 8 ?_
  refine WL.callV F.fun8 rfl rfl (fun w hS => few_c (.mk 0 [] [] : Tree) names 1 w [] none 0 na nc w (rd0 w) (Ext.refl w) (hnr.next hS)) ?_
  refine jN 6 ?_
  rotate_left
  all_goals
   obtain ⟨z,hz⟩ := hzz
   refine WQ.say 22 (.bool z.1) (by rw [hz]; rfl) ?_
   exact WQ.byCut (hQ z) ⟨rfl,rfl,rfl,trivial⟩
 obtain ⟨c22,hc22⟩ := xE
 show WQ _ _ _ _ _ _ [(0,.slice a l.length c),(1,.slice na names.length nc),(22,.bool c22)] []
 refine jN 1 ?_
 refine WC.cond rfl (fun h22 => ?_) (fun h22 => ?_)
 ·refine jN 3 ?_
  refine WL.callV F.fun9 rfl rfl (fun w _ => wakes_c w) ?_
  refine jN 6 ?_
  exact WQ.ret (rs := [.tmp 4]) rfl (.tmp rfl .nil) (fun w hS => ⟨rfl,hS.sublist (List.nil_sublist _)⟩)
 obtain ⟨⟨hl12,f,hf32,hf7,hin⟩,hfw⟩ := hc22 h22
 have hn30 := few_30 hfw
 refine jN 7 ?_
 refine jC (β := { z : BothG // BothZ l z }) (res := fun z => .tuple #[.slice z.1.sa z.1.ds.length z.1.sc,.slice z.1.ta z.1.ss.length z.1.tc,.bool z.1.b]) (cs := fun z => [rowc (.slice z.1.sa z.1.ds.length z.1.sc) z.1.ds.length 35 2 (dcs z.1.ds),dsC z.1.F z.1.ds,rowc (.slice z.1.ta z.1.ss.length z.1.tc) z.1.ss.length 44 2 (svs z.1.ss),rwC z.1.G z.1.M]) F.fun19 rfl (fun w hS _ => Both_c l a c hwf hl12 f hin w (hr.next hS)) (fun ⟨z,hz⟩ => ?_)
 dsimp only
 obtain ⟨x,hx⟩ : ∃ x,z.ds[l.length]? = some x := ⟨_,List.getElem?_eq_getElem (by have := hz.len; omega)⟩
 have hxm := List.mem_of_getElem? hx
 have hlen := hz.len
 have hdl1 : z.ds.length - 1 = l.length := by omega
 have hsl1 : z.ss.length = z.ds.length := by rw [hz.rel.len,← hz.ev]; unfold evs'; rw [List.length_map]
 obtain ⟨s,hs⟩ : ∃ s,z.ss[l.length]? = some s := ⟨_,List.getElem?_eq_getElem (by omega)⟩
 obtain ⟨hgs,has⟩ := hz.gd s (List.mem_of_getElem? hs)
 have hev : (evs' z.ds)[l.length]? = some x.1.ev := by unfold evs'; rw [List.getElem?_map,hx]; rfl
 have hrel : RelS s x.1.ev := hz.rel.at' _ _ _ hs (by rw [← hz.ev]; exact hev)
 refine WA.know (φ := ∃ bd,z.sa = some ⟨bd,0,none⟩ ∧ z.ds.length = z.ds.length ∧ z.ds.length ≤ z.sc) (fun w hS => rowc_addr (hS.ok (rowc (.slice z.sa z.ds.length z.sc) z.ds.length 35 2 (dcs z.ds)) jM) (by omega)) (fun ⟨bd,hbd,_,_⟩ => ?_)
 refine WA.know (φ := x.1.ok 0) (fun w hS => (dsC_rd (hS.ok (dsC z.F z.ds) jM) hxm).1) (fun hok => ?_)
 have hfew := last_few hin hz.ev hxm hok
 have hfew := last_few hin hz.ev hxm hok
 refine WA.know (φ := ∃ be,z.ta = some ⟨be,0,none⟩ ∧ z.ss.length = z.ss.length ∧ z.ss.length ≤ z.tc) (fun w hS => rowc_addr (hS.ok (rowc (.slice z.ta z.ss.length z.tc) z.ss.length 44 2 (svs z.ss)) jM) (by omega)) (fun ⟨be,hbe,_,_⟩ => ?_)
 rw [hbd,hbe]
 have hdlt : l.length < z.ds.length := by omega
 have hslt : l.length < z.ss.length := by omega
 refine jN 17 ?_
 refine WC.cutPE (α := Nat × Nat) (fun z9 => [(1,.slice na names.length nc),(8,pp z9.1),(9,pp z9.2)]) (fun z9 => [pt z9.1 [.slice x.2.1 (canon x.1).1.length x.2.2,.int .i64 ((canon x.1).2 : Int)] 35,pt z9.2 [.slice s.a s.v.length s.c,.slice s.ta s.bs.length s.tc] 44,dsC z.F z.ds,rwC z.G z.M]) (fun c a d v w h => by cases d <;> exact h) (fun Q' hP hQ => ?_) (fun xE => ?_)
 ·refine WC.drawsL (by kernel_rfl) (FactsOk.cons (ds := [14,15]) (LoadOk.by (Y := fun w => ∀ j v,([.slice x.2.1 (canon x.1).1.length x.2.2,.int .i64 ((canon x.1).2 : Int)] : List Value)[j]? = some v → w.cell? ⟨bd,0 + l.length * 2 + j,none⟩ = some v) (fun w hS => fun j v hv => by rw [Nat.zero_add]; exact rowc_cells (hS.ok (rowc (.slice (some ⟨bd,0,none⟩) z.ds.length z.sc) z.ds.length 35 2 (dcs z.ds)) jM) (dcs_at hx j v hv))) (FactsOk.cons (ds := [15]) (LoadOk.by (Y := fun w => ∀ j v,([.slice s.a s.v.length s.c,.slice s.ta s.bs.length s.tc] : List Value)[j]? = some v → w.cell? ⟨be,0 + l.length * 2 + j,none⟩ = some v) (fun w hS => fun j v hv => by rw [Nat.zero_add]; exact rowc_cells (hS.ok (rowc (.slice (some ⟨be,0,none⟩) z.ss.length z.tc) z.ss.length 44 2 (svs z.ss)) jM) (svs_at hs j v hv))) (FactsOk.nil))) ?_
  refine jT 0 rfl (Yl.move rfl) ?_
  refine jT 1 rfl (Yl.move rfl) ?_
  refine jT 2 rfl (Yl.lenSl F.und48 rfl) ?_
  refine jT 3 rfl (show Yl _ _ _ _ _ _ (Value.int .i64 (l.length : Int)) from by rw [show (l.length : Int) = (z.ds.length : Int) - 1 by omega]; exact Yl.sub rfl rfl ⟨by omega,by omega⟩) ?_
  refine jT 4 rfl (Yl.indexAddr (i := l.length) F.sl48 rfl rfl hdlt) ?_
  refine jF 5 0 rfl rfl (Yl.loadN F.agg35 rfl rfl) ?_
  refine jT 6 rfl (Yl.move rfl) ?_
  refine jT 7 rfl (Yl.move rfl) ?_
  refine jT 8 rfl (Yl.lenSl F.und49 rfl) ?_
  refine jT 9 rfl (show Yl _ _ _ _ _ _ (Value.int .i64 (l.length : Int)) from by rw [show (l.length : Int) = (z.ss.length : Int) - 1 by omega]; exact Yl.sub rfl rfl ⟨by omega,by omega⟩) ?_
  refine jT 10 rfl (Yl.indexAddr (i := l.length) F.sl49 rfl rfl hslt) ?_
  refine jF 11 1 rfl rfl (Yl.loadN F.agg44 rfl rfl) ?_
  refine WD.two (i := 12) (j := 13) (by kernel_rfl) rfl rfl ?_ ?_
  refine WL.alloc F.zero35 rfl (fun b8 => ?_)
  refine WD.on (closed_of (by kernel_rfl)) (fun w hS => Sx.keep (fun j v hv => by rw [Nat.zero_add]; exact rowc_cells (hS.ok (rowc (.slice (some ⟨bd,0,none⟩) z.ds.length z.sc) z.ds.length 35 2 (dcs z.ds)) jM) (dcs_at hx j v hv)) (Sx.keep (fun j v hv => by rw [Nat.zero_add]; exact rowc_cells (hS.ok (rowc (.slice (some ⟨be,0,none⟩) z.ss.length z.tc) z.ss.length 44 2 (svs z.ss)) jM) (svs_at hs j v hv)) (Sx.none))) ?_
  refine jA 13 rfl ?_
  refine WL.alloc F.zero44 rfl (fun b9 => ?_)
  rotate_left
  refine WL.alloc F.zero44 rfl (fun b9 => ?_)
  refine WD.on (closed_of (by kernel_rfl)) (fun w hS => Sx.keep (fun j v hv => by rw [Nat.zero_add]; exact rowc_cells (hS.ok (rowc (.slice (some ⟨bd,0,none⟩) z.ds.length z.sc) z.ds.length 35 2 (dcs z.ds)) jM) (dcs_at hx j v hv)) (Sx.keep (fun j v hv => by rw [Nat.zero_add]; exact rowc_cells (hS.ok (rowc (.slice (some ⟨be,0,none⟩) z.ss.length z.tc) z.ss.length 44 2 (svs z.ss)) jM) (svs_at hs j v hv)) (Sx.none))) ?_
  refine jA 12 rfl ?_
  refine WL.alloc F.zero35 rfl (fun b8 => ?_)
  rotate_left
  all_goals
   refine WD.on (closed_of (by kernel_rfl)) (fun w hS => Sx.keep (fun j v hv => by rw [Nat.zero_add]; exact rowc_cells (hS.ok (rowc (.slice (some ⟨bd,0,none⟩) z.ds.length z.sc) z.ds.length 35 2 (dcs z.ds)) jM) (dcs_at hx j v hv)) (Sx.keep (fun j v hv => by rw [Nat.zero_add]; exact rowc_cells (hS.ok (rowc (.slice (some ⟨be,0,none⟩) z.ss.length z.tc) z.ss.length 44 2 (svs z.ss)) jM) (svs_at hs j v hv)) (Sx.none))) ?_
   refine jA 14 rfl ?_
   refine WL.storeN F.agg35 rfl rfl rfl jO jU jS ?_
   refine WD.on (closed_of (by kernel_rfl)) (fun w hS => Sx.gone rfl (Sx.keep (fun j v hv => by rw [Nat.zero_add]; exact rowc_cells (hS.ok (rowc (.slice (some ⟨be,0,none⟩) z.ss.length z.tc) z.ss.length 44 2 (svs z.ss)) jM) (svs_at hs j v hv)) (Sx.none))) ?_
   refine jA 15 rfl ?_
   refine WL.storeN F.agg44 rfl rfl rfl jO jU jS ?_
   refine jG ?_
   refine jD ?_
   refine WQ.chunks (C' := [pt b8 [.slice x.2.1 (canon x.1).1.length x.2.2,.int .i64 ((canon x.1).2 : Int)] 35,pt b9 [.slice s.a s.v.length s.c,.slice s.ta s.bs.length s.tc] 44,dsC z.F z.ds,rwC z.G z.M]) (fun w hS => (jK hS)) ?_
   exact WQ.byCut (hQ (b8,b9)) ⟨rfl,rfl,rfl,trivial⟩
 obtain ⟨b8,b9⟩ := xE
 show WQ _ _ _ _ _ _ [(1,.slice na names.length nc),(8,pp b8),(9,pp b9)] [pt b8 [.slice x.2.1 (canon x.1).1.length x.2.2,.int .i64 ((canon x.1).2 : Int)] 35,pt b9 [.slice s.a s.v.length s.c,.slice s.ta s.bs.length s.tc] 44,dsC z.F z.ds,rwC z.G z.M]
 refine jN 8 ?_
 refine jC (β := List Nat × Option Addr × Nat) (res := fun y => .tuple #[tv (ofV names x.1) y.2.1 y.2.2,.int .i64 (ofE names x.1)]) (cs := fun y => [own y.1 (ofV names x.1) (tv (ofV names x.1) y.2.1 y.2.2)]) F.fun23 rfl (fun w hS _ => Of_any x.1 x.2.1 x.2.2 names na nc hcap (by omega) f hfew hf7 w (dsC_rd (hS.ok (dsC z.F z.ds) jM) hxm) (hnr.next hS)) (fun y => ?_)
 refine jN 7 ?_
 refine WL.alloc F.zero24 rfl (fun b10 => ?_)
 refine jN 11 ?_
 refine WL.callV F.fun24 rfl rfl (fun w hS => rnames_c names na nc hcap (by omega) w (hnr.next hS)) ?_
 obtain ⟨c60,hc60⟩ : ∃ c,c = (decide (namesE names = 0) && decide (supT (canon x.1).1 >>> names.length ≠ 0)) := ⟨_,rfl⟩
 refine jN 6 ?_
 refine WC.cutF [(1,.slice na names.length nc),(9,pp b9),(10,pp b10),(11,.int .i64 (ofE names x.1)),(12,.int .i64 (namesE names)),(60,.bool c60)] (fun Q' hQ => ?_) ?_
 ·refine jN 7 ?_
  refine WA.splitB (i := 52) rfl (fun g52 => ?_) (fun g52 => ?_)
  have hB : c60 = decide ((0 : Int) < ((supT (canon x.1).1 >>> names.length : Nat) : Int)) := by (rw [hc60,decide_eq_true (show namesE names = 0 by simpa using g52),Bool.true_and]; exact decide_eq_decide.2 (by generalize supT (canon x.1).1 >>> names.length = q9; omega))
  refine jN 5 ?_
  refine WL.callV F.fun25 rfl rfl (fun w hS => rSupport_c s.v s.bs hgs.so hgs.lt hgs.vl hgs.bl s.a s.ta s.c s.tc w (has.rdV (fun r hr2 => rwC_rd (hS.ok (rwC z.G z.M) jM) hr2)) (has.rdB (fun r hr2 => rwC_rd (hS.ok (rwC z.G z.M) jM) hr2))) ?_
  rw [rel_sup hgs hok hrel]
  refine jN 8 ?_
  refine WL.convert rfl rfl (v := .int .u64 (names.length : Int)) (fun w hS => conv61 (by omega) w) ?_
  refine jN 2 ?_
  refine WL.bin rfl rfl rfl (fun w => run_shrU (by omega) _ _ _ w) ?_
  refine jN 6 ?_
  rotate_left
  have hB : c60 = false := by (rw [hc60,decide_eq_false (show ¬ namesE names = 0 by simpa using g52),Bool.false_and])
  refine jN 17 ?_
  rotate_left
  all_goals
   refine WQ.say 60 (.bool c60) (by rw [hB]; rfl) ?_
   exact WQ.byCut hQ ⟨rfl,rfl,rfl,rfl,rfl,rfl,trivial⟩
 refine jN 1 ?_
 refine WC.cutF [(1,.slice na names.length nc),(9,pp b9),(10,pp b10),(11,.int .i64 (ofE names x.1)),(12,.int .i64 (ofE names x.1))] (fun Q' hQ => ?_) ?_
 ·refine WC.cond rfl (fun h60 => ?_) (fun h60 => ?_)
  rw [h60] at hc60
  have hk := hc60.symm
  simp only [Bool.and_eq_true,decide_eq_true_eq] at hk
  have hofE : (ofE names x.1) = 2 := by (unfold ofE; rw [if_neg (by simpa using hk.1),if_pos hk.2])
  refine jN 4 ?_
  rotate_left
  rw [h60] at hc60
  have hofE : (ofE names x.1) = namesE names := by
   unfold ofE
   by_cases h1 : namesE names = 0
   ·rw [if_neg (by simpa using h1),if_neg (fun h2 => by rw [decide_eq_true h1,decide_eq_true h2] at hc60; cases hc60),h1]
   ·rw [if_pos h1]
  refine jN 1 ?_
  rotate_left
  all_goals
   refine WQ.say 12 (.int .i64 (ofE names x.1)) (by rw [hofE]; rfl) ?_
   exact WQ.byCut hQ ⟨rfl,rfl,rfl,rfl,rfl,trivial⟩
 refine jN 10 ?_
 refine WC.cond rfl (fun h62 => ?_) (fun h62 => ?_)
 ·have hEn : ¬ (ofE names x.1) = 0 := by simpa using h62
  have hT0 : ofV names x.1 = .mk 0 [] [] := if_neg hEn
  rw [hT0]
  refine jN 10 ?_
  refine WA.splitB (i := 66) rfl (fun g66 => ?_) (fun g66 => ?_)
  ·refine jN 8 ?_
   refine WL.callV (v := .bool true) F.fun26 rfl rfl (fun w hS => (by have h9 := rSame_c 1000 (by decide) (.mk 0 [] [] : Tree) (.mk 0 [] [] : Tree) w y.1 [] y.2.1 none y.2.2 0 w (by simp [Fm.rowT,Fm.rowL]) (hS.ok (own y.1 (.mk 0 [] [] : Tree) (tv (.mk 0 [] [] : Tree) y.2.1 y.2.2)) jM).2 (rd0 w) (Ext.refl w); rw [Fm.sameT_refl] at h9; exact h9)) ?_
   refine jN 4 ?_
   refine WA.splitB (i := 71) rfl (fun g71 => ?_) (fun g71 => ?_)
   ·refine jN 2 ?_
    refine WL.callV F.fun9 rfl rfl (fun w _ => wakes_c w) ?_
    refine jN 8 ?_
    exact WQ.ret (rs := [.tmp 4]) rfl (.tmp rfl .nil) (fun w hS => ⟨rfl,hS.sublist (List.nil_sublist _)⟩)
   exfalso; simp at g71
  exfalso; simp at g66
 have hE0 : (ofE names x.1) = 0 := by simpa using h62
 have hTT : ofV names x.1 = ofT names x.1 := if_pos hE0
 rw [hTT,hE0]
 obtain ⟨hne,hsz0⟩ := ofE_zero hE0
 have hlv := sh_var hok hsz0
 have hmays := of_may hne hok hlv hfew hf7
 have hn382 : (Fm.rowT (ofT names x.1)).length ≤ 382 := hmays.2.2
 refine jN 9 ?_
 refine jC (β := List Nat × Option Addr × Nat) (res := fun q => tv (ofT names x.1) q.2.1 q.2.2) (cs := fun q => [own q.1 (ofT names x.1) (tv (ofT names x.1) q.2.1 q.2.2)]) F.fun27 rfl (fun w hS _ => rOf_c (x.1.size + 1) x.1 (Nat.lt_succ_self _) s z.M names na nc w hok hlv hgs has hrel (fun r hr2 => rwC_rd (hS.ok (rwC z.G z.M) jM) hr2) (hnr.next hS)) (fun q => ?_)
 refine jN 1 ?_
 refine WL.alloc F.zero24 rfl (fun b13 => ?_)
 refine jN 10 ?_
 refine WL.callV (v := .bool true) F.fun28 rfl rfl (fun w hS => (by have h9 := rvalid_c (ofT names x.1) w q.1 q.2.1 q.2.2 w (by omega) (hS.ok (own q.1 (ofT names x.1) (tv (ofT names x.1) q.2.1 q.2.2)) jM).2 (Ext.refl w); rw [Fm.refValid_eq,hmays.1] at h9; exact h9)) ?_
 refine jN 15 ?_
 refine WA.splitB (i := 92) rfl (fun g92 => ?_) (fun g92 => ?_)
 ·refine jN 8 ?_
  refine WL.callV (v := .bool true) F.fun26 rfl rfl (fun w hS => (by have h9 := rSame_c 1000 (by decide) (ofT names x.1) (ofT names x.1) w y.1 q.1 y.2.1 q.2.1 y.2.2 q.2.2 w (by omega) (hS.ok (own y.1 (ofT names x.1) (tv (ofT names x.1) y.2.1 y.2.2)) jM).2 (hS.ok (own q.1 (ofT names x.1) (tv (ofT names x.1) q.2.1 q.2.2)) jM).2 (Ext.refl w); rw [Fm.sameT_refl] at h9; exact h9)) ?_
  refine jN 4 ?_
  refine WA.splitB (i := 97) rfl (fun g97 => ?_) (fun g97 => ?_)
  ·refine jN 2 ?_
   refine WL.callV F.fun9 rfl rfl (fun w _ => wakes_c w) ?_
   refine jN 7 ?_
   exact WQ.ret (rs := [.tmp 4]) rfl (.tmp rfl .nil) (fun w hS => ⟨rfl,hS.sublist (List.nil_sublist _)⟩)
  exfalso; simp at g97
 exfalso; simp at g92
end Go.Proofs.YtkgllhkhdjodeaaGreat
