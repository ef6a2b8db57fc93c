/- Parts of the walk, put together by a program. By an AI agent. -/
import Derived.Test.YtndpdhamadiopaaGreatDoorPaSourceDiffers3
import Derived.Lib.Split
import Derived.Lib.AtoiAll
import Derived.Lib.ItoaNum
import Derived.Lib.ItoaMem
import Derived.Shelf.LaysM
import Derived.Shelf.Strconv.Itoa3
import Derived.Shelf.Strconv.AtoiAll
import Derived.Lib.ItoaLen
import Derived.Lib.AtoiErrMem
import Derived.Laws.CopyRow
set_option linter.unusedSimpArgs false
set_option linter.unusedVariables false
namespace Go.Proofs.YtndpdhamadiopaaGreatDoor
open Go Go.Eng Go.Proofs Dg
theorem run_subK {i k s : Nat} (h : i + k = s) (hs : s < 1000000000000000000) (t : TypeId) (x y : Operand) (w : World) :
  (do eqGuard .sub t x y (.int .i64 (s : Int)) (.int .i64 (i : Int)); binOp .sub t (.int .i64 (s : Int)) (.int .i64 (i : Int)) : Sem Value).run Tryz.prog w = .ok (.int .i64 (k : Int)) w := by
 have h2 : IntKind.i64.wrap ((s : Int) - (i : Int)) = (k : Int) := by
  unfold IntKind.wrap
  simp [IntKind.signed, IntKind.bits]
  omega
 simp [eqGuard, binOp, Op.intArith, h2]
theorem plR {w0 w : World} {C : List Chunk} {F : List Nat} {ds : List DV} {v : DV} (h : v ∈ ds ∨ RdD w0 v.1 v.2.1) (hS : St w0 [] C w) (hm : dsC F ds ∈ C) : RdD w v.1 v.2.1 := by
 rcases h with h | h
 ·exact dsC_rd (hS.ok _ hm) h
 ·exact h.next0 hS
theorem pt_ne_mpg {w0 w : World} {O : List Nat} {C : List Chunk} {b bm : Nat} {cs : List Value} {e : TypeId} {κ : Type} [DecidableEq κ] {enc : κ → Value} {f : κ → Option Value} (hS : St w0 O C w) (h1 : pt b cs e ∈ C) (h2 : mpg enc bm f ∈ C) : b ∉ [bm] := fun hb => by
 have hb : b = bm := by simpa using hb
 subst hb
 obtain ⟨es, cl, _, h3, _⟩ := hS.ok _ h2
 have h4 : w.heap[b]? = some (.cells cs.toArray e (0, 0)) := hS.ok _ h1
 rw [h3] at h4
 cases h4
theorem rch_O1 {bm : Nat} {R : Nat × Nat → Option DV} : ∀ c ∈ [rchM bm R], ∀ k, c.fp k → k ∈ [bm] := by
 intro c hc k hk
 rw [List.mem_singleton.1 hc] at hk
 exact List.mem_singleton.2 hk
theorem rch_O2 {bm : Nat} {R : Nat × Nat → Option DV} : ∀ k ∈ [bm], ∃ c ∈ [rchM bm R], c.fp k := fun k hk => ⟨_, List.mem_singleton.2 rfl, List.mem_singleton.1 hk⟩
abbrev dvc (v : DV) : List Value := [.slice v.2.1 (canon v.1).1.length v.2.2, .int .i64 ((canon v.1).2 : Int)]
structure DfG where
 s : Nat
 i : Nat
 R : Nat × Nat → Option DV
 o : DV
 F : List Nat
 ds : List DV
structure DfP (w0 : World) (R : Nat × Nat → Option DV) (o : DV) (ds : List DV) : Prop where
 r : ∀ p v, R p = some v → v ∈ ds ∨ RdD w0 v.1 v.2.1
 o : o ∈ ds
theorem DfP.del {w0 : World} {R : Nat × Nat → Option DV} {o : DV} {ds : List DV} (h : DfP w0 R o ds) (q : Nat × Nat) : DfP w0 (rchD R q) o ds := ⟨fun p v hp => by
 unfold rchD at hp
 split at hp
 ·cases hp
 ·exact h.r p v hp, h.o⟩
theorem DfP.up {w0 : World} {R : Nat × Nat → Option DV} {o : DV} {ds es : List DV} (h : DfP w0 R o ds) (hs : ∀ v ∈ ds, v ∈ es) : DfP w0 R o es := ⟨fun p v hp => (h.r p v hp).imp (hs v) id, hs o h.o⟩
theorem DfP.set {w0 : World} {R : Nat × Nat → Option DV} {o o2 : DV} {ds : List DV} (h : DfP w0 R o ds) (ho : o2 ∈ ds) : DfP w0 R o2 ds := ⟨h.r, ho⟩
theorem rchE_get (R : Nat × Nat → Option DV) (p : Nat × Nat) (c : Cf) : ((R p).getD dv0).1.ev c = rchE R p c := by
 unfold rchE dv0
 cases R p <;> rfl
abbrev OnR (R : Nat × Nat → Option DV) (i k : Nat) (t : Cf → Bool) : Type := {x : (Nat × Nat → Option DV) × List Nat × List DV // (∀ p v, x.1 p = some v → R p = some v ∨ v ∈ x.2.2) ∧ (∀ v ∈ x.2.2, v.1.ok 0) ∧ (∀ p cf, rchE x.1 p cf = (rchE R p cf || (decide (p = (i, k)) && t cf)))}
abbrev OnP (R : Nat × Nat → Option DV) (ds : List DV) (i k : Nat) (t : Cf → Bool) : Type := {x : (Nat × Nat → Option DV) × List Nat × List DV // (∀ p v, x.1 p = some v → R p = some v ∨ v ∈ x.2.2) ∧ (∀ v ∈ ds, v ∈ x.2.2) ∧ (∀ p cf, rchE x.1 p cf = (rchE R p cf || (decide (p = (i, k)) && t cf)))}
theorem DfP.on {w0 : World} {R : Nat × Nat → Option DV} {o : DV} {ds : List DV} {i k : Nat} {t : Cf → Bool} (h : DfP w0 R o ds) (x : OnP R ds i k t) : DfP w0 x.1.1 o x.1.2.2 := ⟨fun p v hp => by
 rcases x.2.1 p v hp with h1 | h1
 ·exact (h.r p v h1).imp (x.2.2.1 v) id
 ·exact .inl h1, x.2.2.1 o h.o⟩
section
variable {w0 : World} {O : List Nat} {K : Act → World → Prop} {N : Nat} {D : List Deferred} {L : FL} {C : List Chunk}
theorem WA.chunksE {α : Type} {C' : α → List Chunk} (hs : ∀ w, St w0 O C w → ∃ x, St w0 O (C' x) w) (h : ∀ x, WA w0 O K N D L (C' x)) : WA w0 O K N D L C := fun a w hF hS => by
 obtain ⟨x, hx⟩ := hs w hS
 exact h x a w hF hx
end
theorem df_begin {A B : List TkV} (zf : DRes (fun _ => false)) (wt : BT) (wa : Option Addr) (wc : Nat) : DfI A B wt.ev 0 0 (rchU (fun _ => none) (0, 0) (wt, wa, wc)) zf.1.1 := by
 have hR : ∀ p c, rchE (rchU (fun _ => none) (0, 0) (wt, wa, wc)) p c = (decide (p = (0, 0)) && wt.ev c) := fun p c => by
  have := rchU_ev (fun _ => none) (0, 0) (wt, wa, wc) wt (fun cf => by simp [rchE]) p c
  rw [this]
  simp [rchE]
 refine ⟨fun c => ?_, fun p c hp => ?_⟩
 ·rw [zf.2.2]
  constructor
  ·rintro (h | ⟨p, h1, h2⟩)
   ·cases h
   ·rw [hR, Bool.and_eq_true, decide_eq_true_eq] at h1
    obtain ⟨rfl, h1⟩ := h1
    exact ⟨h1, h2⟩
  ·rintro ⟨h1, h2⟩
   exact .inr ⟨(0, 0), by rw [hR, h1]; rfl, h2⟩
 ·rw [hR, Bool.and_eq_true, decide_eq_true_eq] at hp
  obtain ⟨rfl, _⟩ := hp
  exact ⟨Nat.zero_le _, Nat.zero_le _, .inr ⟨rfl, Nat.le_refl _⟩⟩
theorem dfp_begin {w0 : World} {o : DV} {wt : BT} {wa : Option Addr} {wc : Nat} {ds : List DV} (hw : RdD w0 wt wa) (ho : o ∈ ds) : DfP w0 (rchU (fun _ => none) (0, 0) (wt, wa, wc)) o ds := ⟨fun p v hp => by
 rcases rchU_or _ _ _ p v hp with h | h
 ·cases h
 ·rw [List.mem_singleton.1 h]; exact .inr hw, ho⟩
set_option maxRecDepth 100000 in
set_option maxHeartbeats 1000000 in
theorem Differ_c (A B : List TkV) (hAl : A.length ≤ 1000) (hBl : B.length ≤ 1000) (ta sa : Option Addr) (tc sc : Nat) (gv gv2 : Value) (hgv : gv.oneCell' = true) (hgv2 : gv2.oneCell' = true) (wt : BT) (wa : Option Addr) (wc : Nat) (w : World) (hA : TsR w A ta) (hB : TsR w B sa) (hwt : RdD w wt wa) :
  Calls Tryz.prog 24 [.agg [.slice ta A.length tc, gv].toArray, .agg [.slice sa B.length sc, gv2].toArray, dval wt wa wc].toArray w fun e w' => ∃ x : DV × List Nat × List DV, x.1 ∈ x.2.2 ∧ (∀ c, x.1.1.ev c = (wt.ev c && dfF A B c (0, 0))) ∧ e = .returned (dvv x.1) ∧ St w [] [dsC x.2.1 x.2.2] w' := by
 refine enter Tryz.func24 rfl Tryz.ntmps24 rfl (St.init _) ?_
 refine jN 3 ?_
 refine WL.boxN rfl rfl (fun b3 => ?_)
 refine jN 1 ?_
 refine WL.boxN rfl rfl (fun b4 => ?_)
 refine jN 1 ?_
 refine WL.boxN rfl rfl (fun b5 => ?_)
 refine jN 1 ?_
 refine WL.alloc F.zero50 rfl (fun b6 => ?_)
 refine jN 5 ?_
 refine WL.call0 (β := DRes (fun _ => false)) (res := fun z => .returned z.v) (cs := fun z => [z.ch]) (ψ := fun _ => True) F.fun56 (fun d h => by cases h; rfl) rfl (fun w hS => (False_c w).mono (fun e w2 ⟨x, h1, h2⟩ => ⟨x, trivial, h1, h2⟩)) (fun zf _ => After_ret ?_)
 refine jN 1 ?_
 refine WL.alloc F.zero50 rfl (fun b7 => ?_)
 refine jN 5 ?_
 refine WC.drawsL (by kernel_rfl) (FactsOk.cons (ds := []) (LoadOk.one (t := 3) (off := 0) rfl jM rfl) (FactsOk.cons (ds := []) (LoadOk.one (t := 4) (off := 0) rfl jM rfl) (FactsOk.nil))) ?_
 refine jT 0 rfl (Yl.fieldAddr0 F.fld33_0 rfl) ?_
 refine jF 1 0 rfl rfl (Yl.load1 F.one30 rfl) ?_
 refine jT 2 rfl (Yl.lenSl F.und30 rfl) ?_
 refine jT 3 rfl (Yl.fieldAddr0 F.fld33_0 rfl) ?_
 refine jF 4 1 rfl rfl (Yl.load1 F.one30 rfl) ?_
 refine jT 5 rfl (Yl.lenSl F.und30 rfl) ?_
 refine jT 6 rfl (Yl.assign rfl) ?_
 refine jT 7 rfl (Yl.assign rfl) ?_
 refine jD ?_
 refine jN 4 ?_
 refine WL.makeMapG enc2 rfl (fun bm => ?_)
 refine jN 1 ?_
 refine WL.buildA F.arT139 rfl jB rfl ?_
 refine jN 3 ?_
 refine WL.insertG (f := fun _ : Nat × Nat => none) (0, 0) undRM keyPair rfl rfl rfl rfl jU ?_
 refine jN 3 ?_
 refine WL.alloc F.zero140 rfl (fun b10 => ?_)
 refine jN 12 ?_
 refine WC.chunks (C' := [pt b3 [.slice ta A.length tc, gv] 33, pt b4 [.slice sa B.length sc, gv2] 33, pt b6 [.slice none 0 0, .int .i64 0] 50, pt b7 (dvc zf.1) 50, pt b10 [.map (some bm)] 140, rchM bm (rchU (fun _ => none) (0, 0) (wt, wa, wc)), dsC [] [], zf.ch]) (fun w hS => ?_) ?_
 ·have h9 := ((St.pick (St.pick (St.pick (St.pick (St.pick (St.pick (St.pick (St.pick (St.dsNil hS) (c := zf.ch) jR) (c := dsC [] []) jR) (c := mpg enc2 bm (fun q => if q = (0, 0) then some (dval wt wa wc) else none)) jR) (c := pt b10 [.map (some bm)] 140) jR) (c := pt b7 (dvc zf.1) 50) jR) (c := pt b6 [.slice none 0 0, .int .i64 0] 50) jR) (c := pt b4 [.slice sa B.length sc, gv2] 33) jR) (c := pt b3 [.slice ta A.length tc, gv] 33) jR)).sublist (C' := [pt b3 [.slice ta A.length tc, gv] 33, pt b4 [.slice sa B.length sc, gv2] 33, pt b6 [.slice none 0 0, .int .i64 0] 50, pt b7 (dvc zf.1) 50, pt b10 [.map (some bm)] 140, mpg enc2 bm (fun q => if q = (0, 0) then some (dval wt wa wc) else none), dsC [] [], zf.ch]) (List.Sublist.cons_cons _ (List.Sublist.cons_cons _ (List.Sublist.cons_cons _ (List.Sublist.cons_cons _ (List.Sublist.cons_cons _ (List.Sublist.cons_cons _ (List.Sublist.cons_cons _ (List.Sublist.cons_cons _ (List.nil_sublist _)))))))))
  rw [show (fun q : Nat × Nat => if q = (0, 0) then some (dval wt wa wc) else none) = fun p => (rchU (fun _ => none) (0, 0) (wt, wa, wc) p).map dvv from rchU_map (fun _ => none) (0, 0) (wt, wa, wc)] at h9
  exact h9
 refine WC.chunksE (α := {x : List Nat × List DV // (∀ v ∈ [], v ∈ x.2) ∧ zf.1 ∈ x.2}) (C' := fun x => [pt b3 [.slice ta A.length tc, gv] 33, pt b4 [.slice sa B.length sc, gv2] 33, pt b6 [.slice none 0 0, .int .i64 0] 50, pt b7 (dvc zf.1) 50, pt b10 [.map (some bm)] 140, rchM bm (rchU (fun _ => none) (0, 0) (wt, wa, wc)), dsC x.1.1 x.1.2]) (fun w hS => ?_) (fun ⟨(F0, ds0), hs0, hi0⟩ => ?_)
 ·obtain ⟨F9, hF9⟩ := St.dsSnoc zf.2.1 ((St.pick (St.pick hS (c := zf.ch) jR) (c := dsC [] []) jR))
  exact ⟨⟨(F9, [] ++ [(zf.1.1, zf.1.2.1, zf.1.2.2)]), fun v hv => List.mem_append_left _ hv, by simp⟩, (jK hF9)⟩
 dsimp only at hs0 hi0
 show WC _ _ _ _ _ _ _ _ [pt b3 [.slice ta A.length tc, gv] 33, pt b4 [.slice sa B.length sc, gv2] 33, pt b6 [.slice none 0 0, .int .i64 0] 50, pt b7 (dvc zf.1) 50, pt b10 [.map (some bm)] 140, rchM bm (rchU (fun _ => none) (0, 0) (wt, wa, wc)), dsC F0 ds0]
 refine WC.loop (α := DfG) (fun g => g.s ≤ A.length + B.length + 1 ∧ DfI A B wt.ev g.s 0 g.R g.o.1 ∧ DfP w g.R g.o g.ds) (fun g => [(3, pp b3), (4, pp b4), (6, pp b6), (7, pp b7), (8, .int .i64 (A.length : Int)), (9, .int .i64 (B.length : Int)), (10, pp b10), (11, .int .i64 (g.s : Int))]) (fun g => [pt b3 [.slice ta A.length tc, gv] 33, pt b4 [.slice sa B.length sc, gv2] 33, pt b6 [.slice none 0 0, .int .i64 0] 50, pt b7 (dvc g.o) 50, pt b10 [.map (some bm)] 140, rchM bm g.R, dsC g.F g.ds]) (fun g => A.length + B.length + 1 - g.s) (⟨0, 0, (rchU (fun _ => none) (0, 0) (wt, wa, wc)), zf.1, F0, ds0⟩) ?_ ?_ ?_ ?_
 ·exact ⟨Nat.zero_le _, df_begin zf wt wa wc, dfp_begin hwt hi0⟩
 ·exact ⟨rfl, rfl, rfl, rfl, rfl, rfl, rfl, rfl, trivial⟩
 ·rfl
 rintro ⟨s, _, R, o, Fp, ds⟩ ⟨hs, hI, hPo⟩
 dsimp only at hs hI hPo
 show WC _ _ _ _ _ _ _ [(3, pp b3), (4, pp b4), (6, pp b6), (7, pp b7), (8, .int .i64 (A.length : Int)), (9, .int .i64 (B.length : Int)), (10, pp b10), (11, .int .i64 (s : Int))] [pt b3 [.slice ta A.length tc, gv] 33, pt b4 [.slice sa B.length sc, gv2] 33, pt b6 [.slice none 0 0, .int .i64 0] 50, pt b7 (dvc o) 50, pt b10 [.map (some bm)] 140, rchM bm R, dsC Fp ds]
 refine jN 10 ?_
 refine WL.bin (v := .int .i64 ((A.length + B.length : Nat) : Int)) rfl rfl rfl (fun w => run_addN6 (by omega) (by omega) _ _ _ w) ?_
 refine jN 4 ?_
 refine WC.cond rfl (fun h33 => ?_) (fun h33 => ?_)
 ·have hsl : s ≤ A.length + B.length := by simp at h33; omega
  refine jN 11 ?_
  refine WL.bin (v := .int .i64 ((s : Int) - B.length)) rfl rfl rfl (fun w => run_subL (by omega) (by omega) _ _ _ w) ?_
  refine jN 1 ?_
  refine WL.maxI (r := ((s - B.length : Nat) : Int)) rfl rfl rfl (by split <;> omega) ?_
  refine jN 5 ?_
  refine WC.loop (α := DfG) (fun g => s - B.length ≤ g.i ∧ g.i ≤ min s A.length + 1 ∧ DfI A B wt.ev s g.i g.R g.o.1 ∧ DfP w g.R g.o g.ds) (fun g => [(3, pp b3), (4, pp b4), (6, pp b6), (7, pp b7), (8, .int .i64 (A.length : Int)), (9, .int .i64 (B.length : Int)), (10, pp b10), (11, .int .i64 (s : Int)), (12, .int .i64 (g.i : Int))]) (fun g => [pt b3 [.slice ta A.length tc, gv] 33, pt b4 [.slice sa B.length sc, gv2] 33, pt b6 [.slice none 0 0, .int .i64 0] 50, pt b7 (dvc g.o) 50, pt b10 [.map (some bm)] 140, rchM bm g.R, dsC g.F g.ds]) (fun g => min s A.length + 1 - g.i) (⟨s, s - B.length, R, o, Fp, ds⟩) ?_ ?_ ?_ ?_
  ·exact ⟨Nat.le_refl _, by show s - B.length ≤ min s A.length + 1; omega, hI.begin, hPo⟩
  ·exact ⟨rfl, rfl, rfl, rfl, rfl, rfl, rfl, rfl, rfl, trivial⟩
  ·rfl
  rintro ⟨_, i, R, o, Fp, ds⟩ ⟨hi1, hi2, hI, hPo⟩
  dsimp only at hi1 hi2 hI hPo
  show WC _ _ _ _ _ _ _ [(3, pp b3), (4, pp b4), (6, pp b6), (7, pp b7), (8, .int .i64 (A.length : Int)), (9, .int .i64 (B.length : Int)), (10, pp b10), (11, .int .i64 (s : Int)), (12, .int .i64 (i : Int))] [pt b3 [.slice ta A.length tc, gv] 33, pt b4 [.slice sa B.length sc, gv2] 33, pt b6 [.slice none 0 0, .int .i64 0] 50, pt b7 (dvc o) 50, pt b10 [.map (some bm)] 140, rchM bm R, dsC Fp ds]
  refine jN 10 ?_
  refine WL.minI (r := ((min s A.length : Nat) : Int)) rfl rfl rfl (by split <;> omega) ?_
  refine jN 4 ?_
  refine WC.cond rfl (fun h44 => ?_) (fun h44 => ?_)
  ·have hil : i ≤ min s A.length := by simp at h44; omega
   obtain ⟨k, hks⟩ : ∃ k, i + k = s := ⟨s - i, by omega⟩
   have hkl : k ≤ B.length := by omega
   have hiA : i ≤ A.length := by omega
   have hold : ∀ {w2 : World} {C : List Chunk} (hS : St w [] C w2) {F : List Nat} {ds : List DV}, dsC F ds ∈ C → (∀ p v, R p = some v → v ∈ ds ∨ RdD w v.1 v.2.1) → RdD w2 ((R (i, k)).getD dv0).1 ((R (i, k)).getD dv0).2.1 := by
    intro w2 C hS F ds hm hr
    cases hk9 : R (i, k) with
    | none => exact dv0_rd _
    | some v => exact plR (hr _ _ hk9) hS hm
   refine jN 11 ?_
   refine WL.bin (v := .int .i64 (k : Int)) rfl rfl rfl (fun w => run_subK hks (by omega) _ _ _ w) ?_
   refine jN 5 ?_
   refine WC.cutPE (α := Nat × DRes (fun cf => ((R (i, k)).getD dv0).1.ev cf && !o.1.ev cf)) (fun z => [(3, pp b3), (4, pp b4), (6, pp b6), (7, pp b7), (8, .int .i64 (A.length : Int)), (9, .int .i64 (B.length : Int)), (10, pp b10), (11, .int .i64 (s : Int)), (12, .int .i64 (i : Int)), (13, .int .i64 (k : Int)), (14, pp z.1)]) (fun z => [pt b3 [.slice ta A.length tc, gv] 33, pt b4 [.slice sa B.length sc, gv2] 33, pt b6 [.slice none 0 0, .int .i64 0] 50, pt b7 (dvc o) 50, pt b10 [.map (some bm)] 140, rchM bm R, dsC Fp ds, pt z.1 (dvc z.2.1) 50, z.2.ch]) (fun c a d v w h => by cases d <;> exact h) (fun Q' hP hQ => ?_) (fun xE => ?_)
   ·refine WC.draws [([7, 9], fun w => w.cell? ⟨b10, 0, none⟩ = some (.map (some bm))), ([7, 9], fun w => (rchM bm R).ok w), ([6, 7, 9], fun w => ∀ j v, (dvc o)[j]? = some v → w.cell? ⟨b7, 0 + j, none⟩ = some v)] (by kernel_rfl) (fun w hS => facts_cons (hS.cell (cs := [.map (some bm)]) jM rfl) (facts_cons (hS.ok _ jM) (facts_cons ((fun j v hv => by rw [Nat.zero_add]; exact hS.cell (cs := dvc o) jM hv)) (facts_nil)))) ?_
    refine jF 0 0 rfl rfl (Yl.load1 F.one140 rfl) ?_
    refine jT 1 rfl (Yl.move rfl) ?_
    refine jT 2 rfl (Yl.move rfl) ?_
    refine jT 3 rfl (Yl.buildA F.arT139 rfl jB) ?_
    refine jF 4 1 rfl rfl (Yl.lookupG (f := fun p => (R p).map dvv) (v := dvv ((R (i, k)).getD dv0)) (i, k) undRM keyPair zeroD rfl rfl rfl (by show dvv _ = ((R (i, k)).map dvv).getD (dvv dv0); cases R (i, k) <;> rfl)) ?_
    refine jF 5 2 rfl rfl (Yl.loadN F.agg50 rfl rfl) ?_
    refine WD.two (i := 6) (j := 8) (by decide +kernel) rfl rfl ?_ ?_
    ·refine WL.call0 (β := DRes (fun cf => !o.1.ev cf)) (res := fun z => .returned z.v) (cs := fun z => [z.ch]) (ψ := fun _ => True) F.fun72 (fun d h => by cases h; rfl) rfl (fun w hS => (Not_c o.1 o.2.1 o.2.2 w (plR (.inl hPo.o) hS (F := Fp) (ds := ds) jM)).mono (fun e w2 ⟨x, h1, h2⟩ => ⟨x, trivial, h1, h2⟩)) (fun z56 _ => After_ret ?_)
     refine WD.on (closed_of (by decide +kernel)) (fun w hS => Sx.keep (hS.cell (cs := [.map (some bm)]) jM rfl) (Sx.keep (hS.ok _ jM) (Sx.gone rfl (Sx.none)))) ?_
     refine WD.two (i := 7) (j := 8) (by decide +kernel) rfl rfl ?_ ?_
     ·refine WL.call0 (β := DRes (fun cf => ((R (i, k)).getD dv0).1.ev cf && z56.1.1.ev cf)) (res := fun z => .returned z.v) (cs := fun z => [z.ch]) (ψ := fun _ => True) F.fun55 (fun d h => by cases h; rfl) rfl (fun w hS => (And_c ((R (i, k)).getD dv0).1 z56.1.1 ((R (i, k)).getD dv0).2.1 z56.1.2.1 ((R (i, k)).getD dv0).2.2 z56.1.2.2 w (hold hS (F := Fp) (ds := ds) jM hPo.r) (z56.rd hS jM)).mono (fun e w2 ⟨x, h1, h2⟩ => ⟨x, trivial, h1, h2⟩)) (fun z57 _ => After_ret ?_)
      refine jG ?_
      refine jA 8 rfl ?_
      refine WL.alloc F.zero50 rfl (fun b14 => ?_)
      refine jG ?_
      refine jA 9 rfl ?_
      refine WL.storeN F.agg50 rfl rfl rfl jO jU jS ?_
      refine jG ?_
      refine jD ?_
      have hzd : ∀ cf, z57.1.1.ev cf = (fun cf => ((R (i, k)).getD dv0).1.ev cf && !o.1.ev cf) cf := fun cf => by have h1 := z57.2.2 cf; have h2 := z56.2.2 cf; dsimp only at h1 h2 ⊢; rw [h1, h2]
      refine WQ.chunks (C' := [pt b3 [.slice ta A.length tc, gv] 33, pt b4 [.slice sa B.length sc, gv2] 33, pt b6 [.slice none 0 0, .int .i64 0] 50, pt b7 (dvc o) 50, pt b10 [.map (some bm)] 140, rchM bm R, dsC Fp ds, pt b14 (dvc z57.1) 50, z57.ch]) (fun w hS => (jK hS)) ?_
      exact WQ.byCut (hQ (b14, ⟨z57.1, z57.2.1, hzd⟩)) ⟨rfl, rfl, rfl, rfl, rfl, rfl, rfl, rfl, rfl, rfl, rfl, trivial⟩
     ·refine WL.alloc F.zero50 rfl (fun b14 => ?_)
      refine WD.on (closed_of (by decide +kernel)) (fun w hS => Sx.keep (hS.cell (cs := [.map (some bm)]) jM rfl) (Sx.keep (hS.ok _ jM) (Sx.gone rfl (Sx.none)))) ?_
      refine jA 7 rfl ?_
      refine WL.call0 (β := DRes (fun cf => ((R (i, k)).getD dv0).1.ev cf && z56.1.1.ev cf)) (res := fun z => .returned z.v) (cs := fun z => [z.ch]) (ψ := fun _ => True) F.fun55 (fun d h => by cases h; rfl) rfl (fun w hS => (And_c ((R (i, k)).getD dv0).1 z56.1.1 ((R (i, k)).getD dv0).2.1 z56.1.2.1 ((R (i, k)).getD dv0).2.2 z56.1.2.2 w (hold hS (F := Fp) (ds := ds) jM hPo.r) (z56.rd hS jM)).mono (fun e w2 ⟨x, h1, h2⟩ => ⟨x, trivial, h1, h2⟩)) (fun z57 _ => After_ret ?_)
      refine jG ?_
      refine jA 9 rfl ?_
      refine WL.storeN F.agg50 rfl rfl rfl jO jU jS ?_
      refine jG ?_
      refine jD ?_
      have hzd : ∀ cf, z57.1.1.ev cf = (fun cf => ((R (i, k)).getD dv0).1.ev cf && !o.1.ev cf) cf := fun cf => by have h1 := z57.2.2 cf; have h2 := z56.2.2 cf; dsimp only at h1 h2 ⊢; rw [h1, h2]
      refine WQ.chunks (C' := [pt b3 [.slice ta A.length tc, gv] 33, pt b4 [.slice sa B.length sc, gv2] 33, pt b6 [.slice none 0 0, .int .i64 0] 50, pt b7 (dvc o) 50, pt b10 [.map (some bm)] 140, rchM bm R, dsC Fp ds, pt b14 (dvc z57.1) 50, z57.ch]) (fun w hS => (jK hS)) ?_
      exact WQ.byCut (hQ (b14, ⟨z57.1, z57.2.1, hzd⟩)) ⟨rfl, rfl, rfl, rfl, rfl, rfl, rfl, rfl, rfl, rfl, rfl, trivial⟩
    ·refine WL.alloc F.zero50 rfl (fun b14 => ?_)
     refine WD.on (closed_of (by decide +kernel)) (fun w hS => Sx.keep (hS.cell (cs := [.map (some bm)]) jM rfl) (Sx.keep (hS.ok _ jM) (Sx.keep ((fun j v hv => by rw [Nat.zero_add]; exact hS.cell (cs := dvc o) jM hv)) (Sx.none)))) ?_
     refine jA 6 rfl ?_
     refine WL.call0 (β := DRes (fun cf => !o.1.ev cf)) (res := fun z => .returned z.v) (cs := fun z => [z.ch]) (ψ := fun _ => True) F.fun72 (fun d h => by cases h; rfl) rfl (fun w hS => (Not_c o.1 o.2.1 o.2.2 w (plR (.inl hPo.o) hS (F := Fp) (ds := ds) jM)).mono (fun e w2 ⟨x, h1, h2⟩ => ⟨x, trivial, h1, h2⟩)) (fun z56 _ => After_ret ?_)
     refine WD.on (closed_of (by decide +kernel)) (fun w hS => Sx.keep (hS.cell (cs := [.map (some bm)]) jM rfl) (Sx.keep (hS.ok _ jM) (Sx.gone rfl (Sx.none)))) ?_
     refine jA 7 rfl ?_
     refine WL.call0 (β := DRes (fun cf => ((R (i, k)).getD dv0).1.ev cf && z56.1.1.ev cf)) (res := fun z => .returned z.v) (cs := fun z => [z.ch]) (ψ := fun _ => True) F.fun55 (fun d h => by cases h; rfl) rfl (fun w hS => (And_c ((R (i, k)).getD dv0).1 z56.1.1 ((R (i, k)).getD dv0).2.1 z56.1.2.1 ((R (i, k)).getD dv0).2.2 z56.1.2.2 w (hold hS (F := Fp) (ds := ds) jM hPo.r) (z56.rd hS jM)).mono (fun e w2 ⟨x, h1, h2⟩ => ⟨x, trivial, h1, h2⟩)) (fun z57 _ => After_ret ?_)
     refine jG ?_
     refine jA 9 rfl ?_
     refine WL.storeN F.agg50 rfl rfl rfl jO jU jS ?_
     refine jG ?_
     refine jD ?_
     have hzd : ∀ cf, z57.1.1.ev cf = (fun cf => ((R (i, k)).getD dv0).1.ev cf && !o.1.ev cf) cf := fun cf => by have h1 := z57.2.2 cf; have h2 := z56.2.2 cf; dsimp only at h1 h2 ⊢; rw [h1, h2]
     refine WQ.chunks (C' := [pt b3 [.slice ta A.length tc, gv] 33, pt b4 [.slice sa B.length sc, gv2] 33, pt b6 [.slice none 0 0, .int .i64 0] 50, pt b7 (dvc o) 50, pt b10 [.map (some bm)] 140, rchM bm R, dsC Fp ds, pt b14 (dvc z57.1) 50, z57.ch]) (fun w hS => (jK hS)) ?_
     exact WQ.byCut (hQ (b14, ⟨z57.1, z57.2.1, hzd⟩)) ⟨rfl, rfl, rfl, rfl, rfl, rfl, rfl, rfl, rfl, rfl, rfl, trivial⟩
   obtain ⟨b14, zd⟩ := xE
   show WQ _ _ _ _ _ _ [(3, pp b3), (4, pp b4), (6, pp b6), (7, pp b7), (8, .int .i64 (A.length : Int)), (9, .int .i64 (B.length : Int)), (10, pp b10), (11, .int .i64 (s : Int)), (12, .int .i64 (i : Int)), (13, .int .i64 (k : Int)), (14, pp b14)] [pt b3 [.slice ta A.length tc, gv] 33, pt b4 [.slice sa B.length sc, gv2] 33, pt b6 [.slice none 0 0, .int .i64 0] 50, pt b7 (dvc o) 50, pt b10 [.map (some bm)] 140, rchM bm R, dsC Fp ds, pt b14 (dvc zd.1) 50, zd.ch]
   refine WQ.chunksE (α := {x : List Nat × List DV // (∀ v ∈ ds, v ∈ x.2) ∧ zd.1 ∈ x.2}) (C' := fun x => [pt b3 [.slice ta A.length tc, gv] 33, pt b4 [.slice sa B.length sc, gv2] 33, pt b6 [.slice none 0 0, .int .i64 0] 50, pt b7 (dvc o) 50, pt b10 [.map (some bm)] 140, rchM bm R, dsC x.1.1 x.1.2, pt b14 (dvc zd.1) 50]) (fun w hS => ?_) (fun ⟨(F1, ds1), hs1, hi1⟩ => ?_)
   ·obtain ⟨F9, hF9⟩ := St.dsSnoc zd.2.1 ((St.pick (St.pick hS (c := zd.ch) jR) (c := dsC Fp ds) jR))
    exact ⟨⟨(F9, ds ++ [(zd.1.1, zd.1.2.1, zd.1.2.2)]), fun v hv => List.mem_append_left _ hv, by simp⟩, (jK hF9)⟩
   dsimp only at hs1 hi1
   show WQ _ _ _ _ _ _ [(3, pp b3), (4, pp b4), (6, pp b6), (7, pp b7), (8, .int .i64 (A.length : Int)), (9, .int .i64 (B.length : Int)), (10, pp b10), (11, .int .i64 (s : Int)), (12, .int .i64 (i : Int)), (13, .int .i64 (k : Int)), (14, pp b14)] [pt b3 [.slice ta A.length tc, gv] 33, pt b4 [.slice sa B.length sc, gv2] 33, pt b6 [.slice none 0 0, .int .i64 0] 50, pt b7 (dvc o) 50, pt b10 [.map (some bm)] 140, rchM bm R, dsC F1 ds1, pt b14 (dvc zd.1) 50]
   have hd9 : ∀ cf, zd.1.1.ev cf = (rchE R (i, k) cf && !o.1.ev cf) := fun cf => (zd.2.2 cf).trans (by (show (((R (i, k)).getD dv0).1.ev cf && !o.1.ev cf) = _); rw [rchE_get])
   refine jN 4 ?_
   refine WL.load1 F.one140 rfl rfl (v := .map (some bm)) (fun w hS => hS.cell (cs := [.map (some bm)]) jM rfl) ?_
   refine jN 5 ?_
   refine WL.buildA F.arT139 rfl jB rfl ?_
   refine jN 1 ?_
   refine WL.deleteG (f := fun p => (R p).map dvv) (i, k) undRM keyPair rfl rfl rfl jU ?_
   refine jN 5 ?_
   refine WA.chunks (C' := [pt b3 [.slice ta A.length tc, gv] 33, pt b4 [.slice sa B.length sc, gv2] 33, pt b6 [.slice none 0 0, .int .i64 0] 50, pt b7 (dvc o) 50, pt b10 [.map (some bm)] 140, rchM bm (rchD R (i, k)), dsC F1 ds1, pt b14 (dvc zd.1) 50]) (fun w hS => by have h9 := ((St.pick (St.pick (St.pick (St.pick (St.pick (St.pick (St.pick (St.pick hS (c := pt b14 (dvc zd.1) 50) jR) (c := dsC F1 ds1) jR) (c := mpg enc2 bm (fun q => if q = (i, k) then none else (R q).map dvv)) jR) (c := pt b10 [.map (some bm)] 140) jR) (c := pt b7 (dvc o) 50) jR) (c := pt b6 [.slice none 0 0, .int .i64 0] 50) jR) (c := pt b4 [.slice sa B.length sc, gv2] 33) jR) (c := pt b3 [.slice ta A.length tc, gv] 33) jR)).sublist (C' := [pt b3 [.slice ta A.length tc, gv] 33, pt b4 [.slice sa B.length sc, gv2] 33, pt b6 [.slice none 0 0, .int .i64 0] 50, pt b7 (dvc o) 50, pt b10 [.map (some bm)] 140, mpg enc2 bm (fun q => if q = (i, k) then none else (R q).map dvv), dsC F1 ds1, pt b14 (dvc zd.1) 50]) (List.Sublist.cons_cons _ (List.Sublist.cons_cons _ (List.Sublist.cons_cons _ (List.Sublist.cons_cons _ (List.Sublist.cons_cons _ (List.Sublist.cons_cons _ (List.Sublist.cons_cons _ (List.Sublist.cons_cons _ (List.nil_sublist _))))))))); rw [rchD_map R (i, k)] at h9; exact h9) ?_
   have hP1 := (hPo.del (i, k)).up hs1
   refine jN 1 ?_
   refine WL.loadN F.agg50 rfl rfl (vs := dvc zd.1) rfl (fun w hS j v hv => by rw [Nat.zero_add]; exact hS.cell (cs := dvc zd.1) jM hv) ?_
   refine jN 1 ?_
   refine WL.callV F.fun73 rfl rfl (fun w hS => Empty_c zd.1.1 zd.1.2.1 zd.1.2.2 w) ?_
   refine jN 2 ?_
   refine WC.cond rfl (fun h63 => ?_) (fun h63 => ?_)
   ·have hem : ∀ cf, (rchE R (i, k) cf && !o.1.ev cf) = false := fun cf => by rw [← hd9]; exact (emptyT zd.2.1).1 h63 cf
    refine jN 12 ?_
    refine WQ.chunks (C' := [pt b3 [.slice ta A.length tc, gv] 33, pt b4 [.slice sa B.length sc, gv2] 33, pt b6 [.slice none 0 0, .int .i64 0] 50, pt b7 (dvc o) 50, pt b10 [.map (some bm)] 140, rchM bm (rchD R (i, k)), dsC F1 ds1]) (fun w hS => (jK hS)) ?_
    refine WQ.back (⟨s, i + 1, (rchD R (i, k)), o, F1, ds1⟩ : DfG) ?_ ?_ ?_ ?_
    ·exact ⟨by show s - B.length ≤ i + 1; omega, by show i + 1 ≤ min s A.length + 1; omega, hI.none hks hem, hP1⟩
    ·show min s A.length + 1 - (i + 1) < min s A.length + 1 - i; omega
    ·exact ⟨rfl, rfl, rfl, rfl, rfl, rfl, rfl, rfl, rfl, trivial⟩
    ·rfl
   ·refine jN 11 ?_
    refine WC.cutPE (α := Nat × Nat) (fun z => [(3, pp b3), (4, pp b4), (6, pp b6), (7, pp b7), (8, .int .i64 (A.length : Int)), (9, .int .i64 (B.length : Int)), (10, pp b10), (11, .int .i64 (s : Int)), (12, .int .i64 (i : Int)), (13, .int .i64 (k : Int)), (14, pp b14), (15, .func (.func 74) [].toArray [pp b10].toArray), (16, pp z.1), (17, pp z.2)]) (fun z => [pt b3 [.slice ta A.length tc, gv] 33, pt b4 [.slice sa B.length sc, gv2] 33, pt b6 [.slice none 0 0, .int .i64 0] 50, pt b7 (dvc o) 50, pt b10 [.map (some bm)] 140, rchM bm (rchD R (i, k)), dsC F1 ds1, pt b14 (dvc zd.1) 50, pt z.1 (dvc zd.1) 50, pt z.2 (dvc zd.1) 50]) (fun c a d v w h => by cases d <;> exact h) (fun Q' hP hQ => ?_) (fun xE => ?_)
    ·refine WC.draws [([4, 5], fun w => ∀ j v, (dvc zd.1)[j]? = some v → w.cell? ⟨b14, 0 + j, none⟩ = some v), ([5], fun w => ∀ j v, (dvc zd.1)[j]? = some v → w.cell? ⟨b14, 0 + j, none⟩ = some v)] (by kernel_rfl) (fun w hS => facts_cons ((fun j v hv => by rw [Nat.zero_add]; exact hS.cell (cs := dvc zd.1) jM hv)) (facts_cons ((fun j v hv => by rw [Nat.zero_add]; exact hS.cell (cs := dvc zd.1) jM hv)) (facts_nil))) ?_
     refine jF 0 0 rfl rfl (Yl.loadN F.agg50 rfl rfl) ?_
     refine jF 1 1 rfl rfl (Yl.loadN F.agg50 rfl rfl) ?_
     refine WD.two (i := 2) (j := 3) (by decide +kernel) rfl rfl ?_ ?_
     ·refine WL.alloc F.zero50 rfl (fun b16 => ?_)
      refine WD.on (closed_of (by decide +kernel)) (fun w hS => Sx.keep ((fun j v hv => by rw [Nat.zero_add]; exact hS.cell (cs := dvc zd.1) jM hv)) (Sx.keep ((fun j v hv => by rw [Nat.zero_add]; exact hS.cell (cs := dvc zd.1) jM hv)) (Sx.none))) ?_
      refine jA 3 rfl ?_
      refine WL.alloc F.zero50 rfl (fun b17 => ?_)
      refine WD.on (closed_of (by decide +kernel)) (fun w hS => Sx.keep ((fun j v hv => by rw [Nat.zero_add]; exact hS.cell (cs := dvc zd.1) jM hv)) (Sx.keep ((fun j v hv => by rw [Nat.zero_add]; exact hS.cell (cs := dvc zd.1) jM hv)) (Sx.none))) ?_
      refine jA 4 rfl ?_
      refine WL.storeN F.agg50 rfl rfl rfl jO jU jS ?_
      refine WD.on (closed_of (by decide +kernel)) (fun w hS => Sx.gone rfl (Sx.keep ((fun j v hv => by rw [Nat.zero_add]; exact hS.cell (cs := dvc zd.1) jM hv)) (Sx.none))) ?_
      refine jA 5 rfl ?_
      refine WL.storeN F.agg50 rfl rfl rfl jO jU jS ?_
      refine jG ?_
      refine jD ?_
      refine WQ.chunks (C' := [pt b3 [.slice ta A.length tc, gv] 33, pt b4 [.slice sa B.length sc, gv2] 33, pt b6 [.slice none 0 0, .int .i64 0] 50, pt b7 (dvc o) 50, pt b10 [.map (some bm)] 140, rchM bm (rchD R (i, k)), dsC F1 ds1, pt b14 (dvc zd.1) 50, pt b16 (dvc zd.1) 50, pt b17 (dvc zd.1) 50]) (fun w hS => (jK hS)) ?_
      exact WQ.byCut (hQ (b16, b17)) ⟨rfl, rfl, rfl, rfl, rfl, rfl, rfl, rfl, rfl, rfl, rfl, rfl, rfl, rfl, trivial⟩
     ·refine WL.alloc F.zero50 rfl (fun b17 => ?_)
      refine WD.on (closed_of (by decide +kernel)) (fun w hS => Sx.keep ((fun j v hv => by rw [Nat.zero_add]; exact hS.cell (cs := dvc zd.1) jM hv)) (Sx.keep ((fun j v hv => by rw [Nat.zero_add]; exact hS.cell (cs := dvc zd.1) jM hv)) (Sx.none))) ?_
      refine jA 2 rfl ?_
      refine WL.alloc F.zero50 rfl (fun b16 => ?_)
      refine WD.on (closed_of (by decide +kernel)) (fun w hS => Sx.keep ((fun j v hv => by rw [Nat.zero_add]; exact hS.cell (cs := dvc zd.1) jM hv)) (Sx.keep ((fun j v hv => by rw [Nat.zero_add]; exact hS.cell (cs := dvc zd.1) jM hv)) (Sx.none))) ?_
      refine jA 4 rfl ?_
      refine WL.storeN F.agg50 rfl rfl rfl jO jU jS ?_
      refine WD.on (closed_of (by decide +kernel)) (fun w hS => Sx.gone rfl (Sx.keep ((fun j v hv => by rw [Nat.zero_add]; exact hS.cell (cs := dvc zd.1) jM hv)) (Sx.none))) ?_
      refine jA 5 rfl ?_
      refine WL.storeN F.agg50 rfl rfl rfl jO jU jS ?_
      refine jG ?_
      refine jD ?_
      refine WQ.chunks (C' := [pt b3 [.slice ta A.length tc, gv] 33, pt b4 [.slice sa B.length sc, gv2] 33, pt b6 [.slice none 0 0, .int .i64 0] 50, pt b7 (dvc o) 50, pt b10 [.map (some bm)] 140, rchM bm (rchD R (i, k)), dsC F1 ds1, pt b14 (dvc zd.1) 50, pt b16 (dvc zd.1) 50, pt b17 (dvc zd.1) 50]) (fun w hS => (jK hS)) ?_
      exact WQ.byCut (hQ (b16, b17)) ⟨rfl, rfl, rfl, rfl, rfl, rfl, rfl, rfl, rfl, rfl, rfl, rfl, rfl, rfl, trivial⟩
    obtain ⟨b16, b17⟩ := xE
    show WQ _ _ _ _ _ _ [(3, pp b3), (4, pp b4), (6, pp b6), (7, pp b7), (8, .int .i64 (A.length : Int)), (9, .int .i64 (B.length : Int)), (10, pp b10), (11, .int .i64 (s : Int)), (12, .int .i64 (i : Int)), (13, .int .i64 (k : Int)), (14, pp b14), (15, .func (.func 74) [].toArray [pp b10].toArray), (16, pp b16), (17, pp b17)] [pt b3 [.slice ta A.length tc, gv] 33, pt b4 [.slice sa B.length sc, gv2] 33, pt b6 [.slice none 0 0, .int .i64 0] 50, pt b7 (dvc o) 50, pt b10 [.map (some bm)] 140, rchM bm (rchD R (i, k)), dsC F1 ds1, pt b14 (dvc zd.1) 50, pt b16 (dvc zd.1) 50, pt b17 (dvc zd.1) 50]
    refine jN 12 ?_
    refine WC.cond rfl (fun h69 => ?_) (fun h69 => ?_)
    ·have hin : i = A.length := by simp at h69; omega
     refine jN 2 ?_
     refine WL.call0 (β := DRes (fun _ => false)) (res := fun z => .returned z.v) (cs := fun z => [z.ch]) (ψ := fun _ => True) F.fun56 (fun d h => by cases h; rfl) rfl (fun w hS => (False_c w).mono (fun e w2 ⟨x, h1, h2⟩ => ⟨x, trivial, h1, h2⟩)) (fun zx _ => After_ret ?_)
     refine jN 7 ?_
     refine WA.chunks (C' := [pt b3 [.slice ta A.length tc, gv] 33, pt b4 [.slice sa B.length sc, gv2] 33, pt b6 [.slice none 0 0, .int .i64 0] 50, pt b7 (dvc o) 50, pt b10 [.map (some bm)] 140, rchM bm (rchD R (i, k)), dsC F1 ds1, pt b14 (dvc zd.1) 50, pt b16 (dvc zx.1) 50, pt b17 (dvc zd.1) 50, zx.ch]) (fun w hS => (jK hS)) ?_
     refine WA.chunksE (α := {x : List Nat × List DV // (∀ v ∈ ds1, v ∈ x.2) ∧ zx.1 ∈ x.2}) (C' := fun x => [pt b3 [.slice ta A.length tc, gv] 33, pt b4 [.slice sa B.length sc, gv2] 33, pt b6 [.slice none 0 0, .int .i64 0] 50, pt b7 (dvc o) 50, pt b10 [.map (some bm)] 140, rchM bm (rchD R (i, k)), dsC x.1.1 x.1.2, pt b14 (dvc zd.1) 50, pt b16 (dvc zx.1) 50, pt b17 (dvc zd.1) 50]) (fun w hS => ?_) (fun ⟨(F2, ds2), hs2, hi2⟩ => ?_)
     ·obtain ⟨F9, hF9⟩ := St.dsSnoc zx.2.1 ((St.pick (St.pick hS (c := zx.ch) jR) (c := dsC F1 ds1) jR))
      exact ⟨⟨(F9, ds1 ++ [(zx.1.1, zx.1.2.1, zx.1.2.2)]), fun v hv => List.mem_append_left _ hv, by simp⟩, (jK hF9)⟩
     dsimp only at hs2 hi2
     show WA _ _ _ _ _ _ [pt b3 [.slice ta A.length tc, gv] 33, pt b4 [.slice sa B.length sc, gv2] 33, pt b6 [.slice none 0 0, .int .i64 0] 50, pt b7 (dvc o) 50, pt b10 [.map (some bm)] 140, rchM bm (rchD R (i, k)), dsC F2 ds2, pt b14 (dvc zd.1) 50, pt b16 (dvc zx.1) 50, pt b17 (dvc zd.1) 50]
     have hP2 := hP1.up hs2
     have hix : zx.1 ∈ ds2 := hi2
     have hid : zd.1 ∈ ds2 := hs2 _ hi1
     have hxev : ∀ cf, zx.1.1.ev cf = false := zx.2.2
     refine jN 8 ?_
     refine WC.cond rfl (fun h91 => ?_) (fun h91 => ?_)
     ·have hkm : k = B.length := by simp at h91; omega
      refine jN 3 ?_
      refine WL.loadN F.agg50 rfl rfl (vs := dvc o) rfl (fun w hS j v hv => by rw [Nat.zero_add]; exact hS.cell (cs := dvc o) jM hv) ?_
      refine jN 1 ?_
      refine WL.loadN F.agg50 rfl rfl (vs := dvc zx.1) rfl (fun w hS j v hv => by rw [Nat.zero_add]; exact hS.cell (cs := dvc zx.1) jM hv) ?_
      refine jN 1 ?_
      refine WL.call0 (β := DRes (fun cf => o.1.ev cf || zx.1.1.ev cf)) (res := fun z => .returned z.v) (cs := fun z => [z.ch]) (ψ := fun _ => True) F.fun57 (fun d h => by cases h; rfl) rfl (fun w hS => (Or_c o.1 zx.1.1 o.2.1 zx.1.2.1 o.2.2 zx.1.2.2 w (plR (.inl hP2.o) hS (F := F2) (ds := ds2) jM) (plR (.inl hix) hS (F := F2) (ds := ds2) jM)).mono (fun e w2 ⟨x, h1, h2⟩ => ⟨x, trivial, h1, h2⟩)) (fun zo _ => After_ret ?_)
      refine jN 16 ?_
      refine WQ.chunks (C' := [pt b3 [.slice ta A.length tc, gv] 33, pt b4 [.slice sa B.length sc, gv2] 33, pt b6 [.slice none 0 0, .int .i64 0] 50, pt b7 (dvc zo.1) 50, pt b10 [.map (some bm)] 140, rchM bm (rchD R (i, k)), dsC F2 ds2, zo.ch]) (fun w hS => (jK hS)) ?_
      refine WQ.chunksE (α := {x : List Nat × List DV // (∀ v ∈ ds2, v ∈ x.2) ∧ zo.1 ∈ x.2}) (C' := fun x => [pt b3 [.slice ta A.length tc, gv] 33, pt b4 [.slice sa B.length sc, gv2] 33, pt b6 [.slice none 0 0, .int .i64 0] 50, pt b7 (dvc zo.1) 50, pt b10 [.map (some bm)] 140, rchM bm (rchD R (i, k)), dsC x.1.1 x.1.2]) (fun w hS => ?_) (fun ⟨(F9, ds9), hsz1, hiz1⟩ => ?_)
      ·obtain ⟨F9, hF9⟩ := St.dsSnoc zo.2.1 ((St.pick (St.pick hS (c := zo.ch) jR) (c := dsC F2 ds2) jR))
       exact ⟨⟨(F9, ds2 ++ [(zo.1.1, zo.1.2.1, zo.1.2.2)]), fun v hv => List.mem_append_left _ hv, by simp⟩, (jK hF9)⟩
      dsimp only at hsz1 hiz1
      refine WQ.chunks (C' := [pt b3 [.slice ta A.length tc, gv] 33, pt b4 [.slice sa B.length sc, gv2] 33, pt b6 [.slice none 0 0, .int .i64 0] 50, pt b7 (dvc zo.1) 50, pt b10 [.map (some bm)] 140, rchM bm (rchD R (i, k)), dsC F9 ds9]) (fun w hS => (jK hS)) ?_
      refine WQ.back (⟨s, i + 1, (rchD R (i, k)), zo.1, F9, ds9⟩ : DfG) ?_ ?_ ?_ ?_
      ·exact ⟨by show s - B.length ≤ i + 1; omega, by show i + 1 ≤ min s A.length + 1; omega, hI.caseEE hks hin hkm (fun cf => by have h1 := zo.2.2 cf; dsimp only at h1; rw [h1, hxev]), (hP2.up hsz1).set hiz1⟩
      ·show min s A.length + 1 - (i + 1) < min s A.length + 1 - i; omega
      ·exact ⟨rfl, rfl, rfl, rfl, rfl, rfl, rfl, rfl, rfl, trivial⟩
      ·rfl
     ·have hkm : k < B.length := by simp at h91; omega
      obtain ⟨y, hy⟩ : ∃ y, B[k]? = some y := ⟨_, List.getElem?_eq_getElem hkm⟩
      obtain ⟨bB, oB, hsa, hcy⟩ := hB.r k y hy
      subst hsa
      have hym := List.mem_of_getElem? hy
      refine jN 3 ?_
      refine WC.draws [([7, 8], fun w => ∀ j v, (dvc zd.1)[j]? = some v → w.cell? ⟨b14, 0 + j, none⟩ = some v), ([7, 8], fun w => w.cell? ⟨b4, 0, none⟩ = some (.slice (some ⟨bB, oB, none⟩) B.length sc)), ([7, 8], fun w => ∀ j v, ([.slice y.da (canon y.d).1.length y.dc, .int .i64 ((canon y.d).2 : Int)] : List Value)[j]? = some v → w.cell? ⟨bB, oB + k * 7 + 5 + j, none⟩ = some v)] (by kernel_rfl) (fun w hS => facts_cons ((fun j v hv => by rw [Nat.zero_add]; exact hS.cell (cs := dvc zd.1) jM hv)) (facts_cons (hS.cell (cs := [.slice (some ⟨bB, oB, none⟩) B.length sc, gv2]) jM rfl) (facts_cons ((fun j v hv => by rw [Nat.add_assoc]; exact hS.oldc (hcy (5 + j) _ (by (show (tkC y)[5 + j]? = some v); rw [show tkC y = [.int .u8 (y.x.k : Int), .string (str y.x.t), .slice y.x.pa y.x.p.length y.x.pc, .int .i64 y.x.f, .int .i64 y.x.l] ++ [.slice y.da (canon y.d).1.length y.dc, .int .i64 ((canon y.d).2 : Int)] from rfl, List.getElem?_append_right (by simp)]; simpa using hv)) (by simp))) (facts_nil)))) ?_
      refine jF 0 0 rfl rfl (Yl.loadN F.agg50 rfl rfl) ?_
      refine jT 1 rfl (Yl.fieldAddr0 F.fld33_0 rfl) ?_
      refine jF 2 1 rfl rfl (Yl.load1 F.one30 rfl) ?_
      refine jT 3 rfl (Yl.move rfl) ?_
      refine jT 4 rfl (Yl.indexAddr F.sl30 rfl rfl hkm) ?_
      refine jT 5 rfl (Yl.fieldAddr F.fld105_5 rfl) ?_
      refine jF 6 2 rfl rfl (Yl.loadN F.agg50 rfl rfl) ?_
      refine jA 7 rfl ?_
      refine WL.call0 (β := DRes (fun cf => zd.1.1.ev cf && y.d.ev cf)) (res := fun z => .returned z.v) (cs := fun z => [z.ch]) (ψ := fun _ => True) F.fun55 (fun d h => by cases h; rfl) rfl (fun w hS => (And_c zd.1.1 y.d zd.1.2.1 y.da zd.1.2.2 y.dc w (plR (.inl hid) hS (F := F2) (ds := ds2) jM) ((hB.d y hym).next0 hS)).mono (fun e w2 ⟨x, h1, h2⟩ => ⟨x, trivial, h1, h2⟩)) (fun zy _ => After_ret ?_)
      refine jG ?_
      refine jA 8 rfl ?_
      refine WL.storeN F.agg50 rfl rfl rfl jO jU jS ?_
      refine jG ?_
      refine jD ?_
      refine jN 2 ?_
      refine WC.cutPE (α := OnP (rchD R (i, k)) ds2 i (k + 1) (fun cf => zd.1.1.ev cf && !zy.1.1.ev cf)) (fun z => [(3, pp b3), (4, pp b4), (6, pp b6), (7, pp b7), (8, .int .i64 (A.length : Int)), (9, .int .i64 (B.length : Int)), (10, pp b10), (11, .int .i64 (s : Int)), (12, .int .i64 (i : Int)), (13, .int .i64 (k : Int)), (14, pp b14), (15, .func (.func 74) [].toArray [pp b10].toArray), (16, pp b16), (17, pp b17)]) (fun z => [pt b3 [.slice ta A.length tc, gv] 33, pt b4 [.slice (some ⟨bB, oB, none⟩) B.length sc, gv2] 33, pt b6 [.slice none 0 0, .int .i64 0] 50, pt b7 (dvc o) 50, pt b10 [.map (some bm)] 140, rchM bm z.1.1, dsC z.1.2.1 z.1.2.2, pt b14 (dvc zd.1) 50, pt b16 (dvc zx.1) 50, pt b17 (dvc zy.1) 50, zy.ch]) (fun c a d v w h => by cases d <;> exact h) (fun Q' hP hQ => ?_) (fun xE => ?_)
      ·refine WC.draws [([7, 8], fun w => ∀ j v, (dvc zd.1)[j]? = some v → w.cell? ⟨b14, 0 + j, none⟩ = some v), ([6, 7, 8], fun w => ∀ j v, (dvc zy.1)[j]? = some v → w.cell? ⟨b17, 0 + j, none⟩ = some v)] (by kernel_rfl) (fun w hS => facts_cons ((fun j v hv => by rw [Nat.zero_add]; exact hS.cell (cs := dvc zd.1) jM hv)) (facts_cons ((fun j v hv => by rw [Nat.zero_add]; exact hS.cell (cs := dvc zy.1) jM hv)) (facts_nil))) ?_
       refine jT 0 rfl (Yl.move rfl) ?_
       refine jT 1 rfl (Yl.move rfl) ?_
       refine jT 2 rfl (Yl.move rfl) ?_
       refine jT 3 rfl (Yl.bin (v := .int .i64 ((k + 1 : Nat) : Int)) rfl rfl (fun w => run_addN6 (n := 1) (by omega) (by decide) _ _ _ w)) ?_
       refine jF 4 0 rfl rfl (Yl.loadN F.agg50 rfl rfl) ?_
       refine jF 5 1 rfl rfl (Yl.loadN F.agg50 rfl rfl) ?_
       refine jA 6 rfl ?_
       refine WL.call0 (β := DRes (fun cf => !zy.1.1.ev cf)) (res := fun z => .returned z.v) (cs := fun z => [z.ch]) (ψ := fun _ => True) F.fun72 (fun d h => by cases h; rfl) rfl (fun w hS => (Not_c zy.1.1 zy.1.2.1 zy.1.2.2 w (zy.rd hS jM)).mono (fun e w2 ⟨x, h1, h2⟩ => ⟨x, trivial, h1, h2⟩)) (fun zn _ => After_ret ?_)
       refine WD.on (closed_of (by decide +kernel)) (fun w hS => Sx.keep ((fun j v hv => by rw [Nat.zero_add]; exact hS.cell (cs := dvc zd.1) jM hv)) (Sx.gone rfl (Sx.none))) ?_
       refine jA 7 rfl ?_
       refine WL.call0 (β := DRes (fun cf => zd.1.1.ev cf && zn.1.1.ev cf)) (res := fun z => .returned z.v) (cs := fun z => [z.ch]) (ψ := fun _ => True) F.fun55 (fun d h => by cases h; rfl) rfl (fun w hS => (And_c zd.1.1 zn.1.1 zd.1.2.1 zn.1.2.1 zd.1.2.2 zn.1.2.2 w (plR (.inl hid) hS (F := F2) (ds := ds2) jM) (zn.rd hS jM)).mono (fun e w2 ⟨x, h1, h2⟩ => ⟨x, trivial, h1, h2⟩)) (fun za _ => After_ret ?_)
       refine jG ?_
       refine jA 8 rfl ?_
       refine WL.callFC (β := OnR (rchD R (i, k)) (i) (k + 1) za.1.1.ev) (res := fun _ => .tuple #[]) (cs := fun x => [rchM bm x.1.1, dsC x.1.2.1 x.1.2.2]) (Cs := [rchM bm (rchD R (i, k))]) (O' := [bm]) (us := []) (cap := [pp b10]) F.fun74 (fun d h => by cases h; rfl) rfl rfl (Rem.perm (c := rchM bm (rchD R (i, k))) jR) rch_O1 rch_O2 (fun w hS hS2 => (Differ1_c (i) (k + 1) za.1.1 za.1.2.1 za.1.2.2 b10 bm (rchD R (i, k)) w (hS.cell (cs := [.map (some bm)]) jM rfl) (pt_ne_mpg hS (cs := [.map (some bm)]) (e := 140) jM (f := fun p => ((rchD R (i, k)) p).map dvv) jM) (za.rd hS jM) (fun p v hp => plR (hP2.r p v hp) hS (F := F2) (ds := ds2) jM) hS2).mono (fun e w2 ⟨x, h1, h2, h3, h4, h5⟩ => ⟨⟨x, h1, h2, h3⟩, h4, h5⟩)) (fun xo => ?_)
       refine jG ?_
       refine jD ?_
       have hf9 : ∀ cf, za.1.1.ev cf = (fun cf => zd.1.1.ev cf && !zy.1.1.ev cf) cf := fun cf => by have h1 := za.2.2 cf; have h2 := zn.2.2 cf; dsimp only at h1 h2 ⊢; rw [h1, h2]
       refine WQ.chunks (C' := [pt b3 [.slice ta A.length tc, gv] 33, pt b4 [.slice (some ⟨bB, oB, none⟩) B.length sc, gv2] 33, pt b6 [.slice none 0 0, .int .i64 0] 50, pt b7 (dvc o) 50, pt b10 [.map (some bm)] 140, rchM bm xo.1.1, dsC (F2 ++ xo.1.2.1) (ds2 ++ xo.1.2.2), pt b14 (dvc zd.1) 50, pt b16 (dvc zx.1) 50, pt b17 (dvc zy.1) 50, zy.ch]) (fun w hS => by have h9 := St.dsApp ((St.pick (St.pick hS (c := dsC xo.1.2.1 xo.1.2.2) jR) (c := dsC F2 ds2) jR)); exact (jK h9)) ?_
       have hx9 : ∀ p cf, rchE xo.1.1 p cf = (rchE (rchD R (i, k)) p cf || (decide (p = (i, k + 1)) && (fun cf => zd.1.1.ev cf && !zy.1.1.ev cf) cf)) := fun p cf => by rw [xo.2.2.2 p cf, hf9 cf]
       exact WQ.byCut (hQ (⟨(xo.1.1, F2 ++ xo.1.2.1, ds2 ++ xo.1.2.2), fun p v hp => (xo.2.1 p v hp).imp id (List.mem_append_right _), fun v hv => List.mem_append_left _ hv, hx9⟩ : OnP (rchD R (i, k)) ds2 (i) (k + 1) (fun cf => zd.1.1.ev cf && !zy.1.1.ev cf))) ⟨rfl, rfl, rfl, rfl, rfl, rfl, rfl, rfl, rfl, rfl, rfl, rfl, rfl, rfl, trivial⟩
      obtain ⟨⟨R5, F5, ds5⟩, hr5, hs5, he5⟩ := xE
      have hP5 : DfP w R5 o ds5 := hP2.on ⟨(R5, F5, ds5), hr5, hs5, he5⟩
      dsimp only at hr5 hs5 he5
      show WQ _ _ _ _ _ _ [(3, pp b3), (4, pp b4), (6, pp b6), (7, pp b7), (8, .int .i64 (A.length : Int)), (9, .int .i64 (B.length : Int)), (10, pp b10), (11, .int .i64 (s : Int)), (12, .int .i64 (i : Int)), (13, .int .i64 (k : Int)), (14, pp b14), (15, .func (.func 74) [].toArray [pp b10].toArray), (16, pp b16), (17, pp b17)] [pt b3 [.slice ta A.length tc, gv] 33, pt b4 [.slice (some ⟨bB, oB, none⟩) B.length sc, gv2] 33, pt b6 [.slice none 0 0, .int .i64 0] 50, pt b7 (dvc o) 50, pt b10 [.map (some bm)] 140, rchM bm R5, dsC F5 ds5, pt b14 (dvc zd.1) 50, pt b16 (dvc zx.1) 50, pt b17 (dvc zy.1) 50, zy.ch]
      refine WQ.chunksE (α := {x : List Nat × List DV // (∀ v ∈ ds5, v ∈ x.2) ∧ zy.1 ∈ x.2}) (C' := fun x => [pt b3 [.slice ta A.length tc, gv] 33, pt b4 [.slice (some ⟨bB, oB, none⟩) B.length sc, gv2] 33, pt b6 [.slice none 0 0, .int .i64 0] 50, pt b7 (dvc o) 50, pt b10 [.map (some bm)] 140, rchM bm R5, dsC x.1.1 x.1.2, pt b14 (dvc zd.1) 50, pt b16 (dvc zx.1) 50, pt b17 (dvc zy.1) 50]) (fun w hS => ?_) (fun ⟨(F6, ds6), hsy6, hiy6⟩ => ?_)
      ·obtain ⟨F9, hF9⟩ := St.dsSnoc zy.2.1 ((St.pick (St.pick hS (c := zy.ch) jR) (c := dsC F5 ds5) jR))
       exact ⟨⟨(F9, ds5 ++ [(zy.1.1, zy.1.2.1, zy.1.2.2)]), fun v hv => List.mem_append_left _ hv, by simp⟩, (jK hF9)⟩
      dsimp only at hsy6 hiy6
      show WQ _ _ _ _ _ _ [(3, pp b3), (4, pp b4), (6, pp b6), (7, pp b7), (8, .int .i64 (A.length : Int)), (9, .int .i64 (B.length : Int)), (10, pp b10), (11, .int .i64 (s : Int)), (12, .int .i64 (i : Int)), (13, .int .i64 (k : Int)), (14, pp b14), (15, .func (.func 74) [].toArray [pp b10].toArray), (16, pp b16), (17, pp b17)] [pt b3 [.slice ta A.length tc, gv] 33, pt b4 [.slice (some ⟨bB, oB, none⟩) B.length sc, gv2] 33, pt b6 [.slice none 0 0, .int .i64 0] 50, pt b7 (dvc o) 50, pt b10 [.map (some bm)] 140, rchM bm R5, dsC F6 ds6, pt b14 (dvc zd.1) 50, pt b16 (dvc zx.1) 50, pt b17 (dvc zy.1) 50]
      have hP6 := hP5.up hsy6
      refine jN 14 ?_
      refine WC.cond rfl (fun h115 => ?_) (fun h115 => ?_)
      ·refine jN 2 ?_
       refine WL.loadN F.agg50 rfl rfl (vs := dvc o) rfl (fun w hS j v hv => by rw [Nat.zero_add]; exact hS.cell (cs := dvc o) jM hv) ?_
       refine jN 1 ?_
       refine WL.loadN F.agg50 rfl rfl (vs := dvc zy.1) rfl (fun w hS j v hv => by rw [Nat.zero_add]; exact hS.cell (cs := dvc zy.1) jM hv) ?_
       refine jN 1 ?_
       refine WL.call0 (β := DRes (fun cf => o.1.ev cf || zy.1.1.ev cf)) (res := fun z => .returned z.v) (cs := fun z => [z.ch]) (ψ := fun _ => True) F.fun57 (fun d h => by cases h; rfl) rfl (fun w hS => (Or_c o.1 zy.1.1 o.2.1 zy.1.2.1 o.2.2 zy.1.2.2 w (plR (.inl hP6.o) hS (F := F6) (ds := ds6) jM) (plR (.inl hiy6) hS (F := F6) (ds := ds6) jM)).mono (fun e w2 ⟨x, h1, h2⟩ => ⟨x, trivial, h1, h2⟩)) (fun zo _ => After_ret ?_)
       refine jN 14 ?_
       refine WQ.chunks (C' := [pt b3 [.slice ta A.length tc, gv] 33, pt b4 [.slice (some ⟨bB, oB, none⟩) B.length sc, gv2] 33, pt b6 [.slice none 0 0, .int .i64 0] 50, pt b7 (dvc zo.1) 50, pt b10 [.map (some bm)] 140, rchM bm R5, dsC F6 ds6, zo.ch]) (fun w hS => (jK hS)) ?_
       refine WQ.chunksE (α := {x : List Nat × List DV // (∀ v ∈ ds6, v ∈ x.2) ∧ zo.1 ∈ x.2}) (C' := fun x => [pt b3 [.slice ta A.length tc, gv] 33, pt b4 [.slice (some ⟨bB, oB, none⟩) B.length sc, gv2] 33, pt b6 [.slice none 0 0, .int .i64 0] 50, pt b7 (dvc zo.1) 50, pt b10 [.map (some bm)] 140, rchM bm R5, dsC x.1.1 x.1.2]) (fun w hS => ?_) (fun ⟨(F9, ds9), hsz2, hiz2⟩ => ?_)
       ·obtain ⟨F9, hF9⟩ := St.dsSnoc zo.2.1 ((St.pick (St.pick hS (c := zo.ch) jR) (c := dsC F6 ds6) jR))
        exact ⟨⟨(F9, ds6 ++ [(zo.1.1, zo.1.2.1, zo.1.2.2)]), fun v hv => List.mem_append_left _ hv, by simp⟩, (jK hF9)⟩
       dsimp only at hsz2 hiz2
       refine WQ.chunks (C' := [pt b3 [.slice ta A.length tc, gv] 33, pt b4 [.slice (some ⟨bB, oB, none⟩) B.length sc, gv2] 33, pt b6 [.slice none 0 0, .int .i64 0] 50, pt b7 (dvc zo.1) 50, pt b10 [.map (some bm)] 140, rchM bm R5, dsC F9 ds9]) (fun w hS => (jK hS)) ?_
       refine WQ.back (⟨s, i + 1, R5, zo.1, F9, ds9⟩ : DfG) ?_ ?_ ?_ ?_
       ·exact ⟨by show s - B.length ≤ i + 1; omega, by show i + 1 ≤ min s A.length + 1; omega, hI.caseEB hks hin hy hd9 (fun p cf => by rw [he5 p cf]; simp only [zy.2.2]; cases zd.1.1.ev cf <;> cases y.d.ev cf <;> simp) (fun cf => by have h1 := zo.2.2 cf; have h2 := zy.2.2 cf; dsimp only at h1 h2; rw [h1, h2]), (hP6.up hsz2).set hiz2⟩
       ·show min s A.length + 1 - (i + 1) < min s A.length + 1 - i; omega
       ·exact ⟨rfl, rfl, rfl, rfl, rfl, rfl, rfl, rfl, rfl, trivial⟩
       ·rfl
      ·exfalso; simp at h115; omega
    ·have hin : i < A.length := by simp at h69; omega
     obtain ⟨x, hx⟩ : ∃ x, A[i]? = some x := ⟨_, List.getElem?_eq_getElem hin⟩
     obtain ⟨bA, oA, hta, hcx⟩ := hA.r i x hx
     subst hta
     have hxm := List.mem_of_getElem? hx
     refine jN 1 ?_
     refine WC.draws [([7, 8], fun w => ∀ j v, (dvc zd.1)[j]? = some v → w.cell? ⟨b14, 0 + j, none⟩ = some v), ([7, 8], fun w => w.cell? ⟨b3, 0, none⟩ = some (.slice (some ⟨bA, oA, none⟩) A.length tc)), ([7, 8], fun w => ∀ j v, ([.slice x.da (canon x.d).1.length x.dc, .int .i64 ((canon x.d).2 : Int)] : List Value)[j]? = some v → w.cell? ⟨bA, oA + i * 7 + 5 + j, none⟩ = some v)] (by kernel_rfl) (fun w hS => facts_cons ((fun j v hv => by rw [Nat.zero_add]; exact hS.cell (cs := dvc zd.1) jM hv)) (facts_cons (hS.cell (cs := [.slice (some ⟨bA, oA, none⟩) A.length tc, gv]) jM rfl) (facts_cons ((fun j v hv => by rw [Nat.add_assoc]; exact hS.oldc (hcx (5 + j) _ (by (show (tkC x)[5 + j]? = some v); rw [show tkC x = [.int .u8 (x.x.k : Int), .string (str x.x.t), .slice x.x.pa x.x.p.length x.x.pc, .int .i64 x.x.f, .int .i64 x.x.l] ++ [.slice x.da (canon x.d).1.length x.dc, .int .i64 ((canon x.d).2 : Int)] from rfl, List.getElem?_append_right (by simp)]; simpa using hv)) (by simp))) (facts_nil)))) ?_
     refine jF 0 0 rfl rfl (Yl.loadN F.agg50 rfl rfl) ?_
     refine jT 1 rfl (Yl.fieldAddr0 F.fld33_0 rfl) ?_
     refine jF 2 1 rfl rfl (Yl.load1 F.one30 rfl) ?_
     refine jT 3 rfl (Yl.move rfl) ?_
     refine jT 4 rfl (Yl.indexAddr F.sl30 rfl rfl hin) ?_
     refine jT 5 rfl (Yl.fieldAddr F.fld105_5 rfl) ?_
     refine jF 6 2 rfl rfl (Yl.loadN F.agg50 rfl rfl) ?_
     refine jA 7 rfl ?_
     refine WL.call0 (β := DRes (fun cf => zd.1.1.ev cf && x.d.ev cf)) (res := fun z => .returned z.v) (cs := fun z => [z.ch]) (ψ := fun _ => True) F.fun55 (fun d h => by cases h; rfl) rfl (fun w hS => (And_c zd.1.1 x.d zd.1.2.1 x.da zd.1.2.2 x.dc w (plR (.inl hi1) hS (F := F1) (ds := ds1) jM) ((hA.d x hxm).next0 hS)).mono (fun e w2 ⟨x, h1, h2⟩ => ⟨x, trivial, h1, h2⟩)) (fun zx _ => After_ret ?_)
     refine jG ?_
     refine jA 8 rfl ?_
     refine WL.storeN F.agg50 rfl rfl rfl jO jU jS ?_
     refine jG ?_
     refine jD ?_
     refine jN 2 ?_
     refine WC.cutPE (α := OnP (rchD R (i, k)) ds1 (i + 1) k (fun cf => zd.1.1.ev cf && !zx.1.1.ev cf)) (fun z => [(3, pp b3), (4, pp b4), (6, pp b6), (7, pp b7), (8, .int .i64 (A.length : Int)), (9, .int .i64 (B.length : Int)), (10, pp b10), (11, .int .i64 (s : Int)), (12, .int .i64 (i : Int)), (13, .int .i64 (k : Int)), (14, pp b14), (15, .func (.func 74) [].toArray [pp b10].toArray), (16, pp b16), (17, pp b17)]) (fun z => [pt b3 [.slice (some ⟨bA, oA, none⟩) A.length tc, gv] 33, pt b4 [.slice sa B.length sc, gv2] 33, pt b6 [.slice none 0 0, .int .i64 0] 50, pt b7 (dvc o) 50, pt b10 [.map (some bm)] 140, rchM bm z.1.1, dsC z.1.2.1 z.1.2.2, pt b14 (dvc zd.1) 50, pt b16 (dvc zx.1) 50, pt b17 (dvc zd.1) 50, zx.ch]) (fun c a d v w h => by cases d <;> exact h) (fun Q' hP hQ => ?_) (fun xE => ?_)
     ·refine WC.draws [([7, 8], fun w => ∀ j v, (dvc zd.1)[j]? = some v → w.cell? ⟨b14, 0 + j, none⟩ = some v), ([6, 7, 8], fun w => ∀ j v, (dvc zx.1)[j]? = some v → w.cell? ⟨b16, 0 + j, none⟩ = some v)] (by kernel_rfl) (fun w hS => facts_cons ((fun j v hv => by rw [Nat.zero_add]; exact hS.cell (cs := dvc zd.1) jM hv)) (facts_cons ((fun j v hv => by rw [Nat.zero_add]; exact hS.cell (cs := dvc zx.1) jM hv)) (facts_nil))) ?_
      refine jT 0 rfl (Yl.move rfl) ?_
      refine jT 1 rfl (Yl.move rfl) ?_
      refine jT 2 rfl (Yl.bin (v := .int .i64 ((i + 1 : Nat) : Int)) rfl rfl (fun w => run_addN6 (n := 1) (by omega) (by decide) _ _ _ w)) ?_
      refine jT 3 rfl (Yl.move rfl) ?_
      refine jF 4 0 rfl rfl (Yl.loadN F.agg50 rfl rfl) ?_
      refine jF 5 1 rfl rfl (Yl.loadN F.agg50 rfl rfl) ?_
      refine jA 6 rfl ?_
      refine WL.call0 (β := DRes (fun cf => !zx.1.1.ev cf)) (res := fun z => .returned z.v) (cs := fun z => [z.ch]) (ψ := fun _ => True) F.fun72 (fun d h => by cases h; rfl) rfl (fun w hS => (Not_c zx.1.1 zx.1.2.1 zx.1.2.2 w (zx.rd hS jM)).mono (fun e w2 ⟨x, h1, h2⟩ => ⟨x, trivial, h1, h2⟩)) (fun zn _ => After_ret ?_)
      refine WD.on (closed_of (by decide +kernel)) (fun w hS => Sx.keep ((fun j v hv => by rw [Nat.zero_add]; exact hS.cell (cs := dvc zd.1) jM hv)) (Sx.gone rfl (Sx.none))) ?_
      refine jA 7 rfl ?_
      refine WL.call0 (β := DRes (fun cf => zd.1.1.ev cf && zn.1.1.ev cf)) (res := fun z => .returned z.v) (cs := fun z => [z.ch]) (ψ := fun _ => True) F.fun55 (fun d h => by cases h; rfl) rfl (fun w hS => (And_c zd.1.1 zn.1.1 zd.1.2.1 zn.1.2.1 zd.1.2.2 zn.1.2.2 w (plR (.inl hi1) hS (F := F1) (ds := ds1) jM) (zn.rd hS jM)).mono (fun e w2 ⟨x, h1, h2⟩ => ⟨x, trivial, h1, h2⟩)) (fun za _ => After_ret ?_)
      refine jG ?_
      refine jA 8 rfl ?_
      refine WL.callFC (β := OnR (rchD R (i, k)) (i + 1) (k) za.1.1.ev) (res := fun _ => .tuple #[]) (cs := fun x => [rchM bm x.1.1, dsC x.1.2.1 x.1.2.2]) (Cs := [rchM bm (rchD R (i, k))]) (O' := [bm]) (us := []) (cap := [pp b10]) F.fun74 (fun d h => by cases h; rfl) rfl rfl (Rem.perm (c := rchM bm (rchD R (i, k))) jR) rch_O1 rch_O2 (fun w hS hS2 => (Differ1_c (i + 1) (k) za.1.1 za.1.2.1 za.1.2.2 b10 bm (rchD R (i, k)) w (hS.cell (cs := [.map (some bm)]) jM rfl) (pt_ne_mpg hS (cs := [.map (some bm)]) (e := 140) jM (f := fun p => ((rchD R (i, k)) p).map dvv) jM) (za.rd hS jM) (fun p v hp => plR (hP1.r p v hp) hS (F := F1) (ds := ds1) jM) hS2).mono (fun e w2 ⟨x, h1, h2, h3, h4, h5⟩ => ⟨⟨x, h1, h2, h3⟩, h4, h5⟩)) (fun xo => ?_)
      refine jG ?_
      refine jD ?_
      have hf9 : ∀ cf, za.1.1.ev cf = (fun cf => zd.1.1.ev cf && !zx.1.1.ev cf) cf := fun cf => by have h1 := za.2.2 cf; have h2 := zn.2.2 cf; dsimp only at h1 h2 ⊢; rw [h1, h2]
      refine WQ.chunks (C' := [pt b3 [.slice (some ⟨bA, oA, none⟩) A.length tc, gv] 33, pt b4 [.slice sa B.length sc, gv2] 33, pt b6 [.slice none 0 0, .int .i64 0] 50, pt b7 (dvc o) 50, pt b10 [.map (some bm)] 140, rchM bm xo.1.1, dsC (F1 ++ xo.1.2.1) (ds1 ++ xo.1.2.2), pt b14 (dvc zd.1) 50, pt b16 (dvc zx.1) 50, pt b17 (dvc zd.1) 50, zx.ch]) (fun w hS => by have h9 := St.dsApp ((St.pick (St.pick hS (c := dsC xo.1.2.1 xo.1.2.2) jR) (c := dsC F1 ds1) jR)); exact (jK h9)) ?_
      have hx9 : ∀ p cf, rchE xo.1.1 p cf = (rchE (rchD R (i, k)) p cf || (decide (p = (i + 1, k)) && (fun cf => zd.1.1.ev cf && !zx.1.1.ev cf) cf)) := fun p cf => by rw [xo.2.2.2 p cf, hf9 cf]
      exact WQ.byCut (hQ (⟨(xo.1.1, F1 ++ xo.1.2.1, ds1 ++ xo.1.2.2), fun p v hp => (xo.2.1 p v hp).imp id (List.mem_append_right _), fun v hv => List.mem_append_left _ hv, hx9⟩ : OnP (rchD R (i, k)) ds1 (i + 1) (k) (fun cf => zd.1.1.ev cf && !zx.1.1.ev cf))) ⟨rfl, rfl, rfl, rfl, rfl, rfl, rfl, rfl, rfl, rfl, rfl, rfl, rfl, rfl, trivial⟩
     obtain ⟨⟨R3, F3, ds3⟩, hr3, hs3, he3⟩ := xE
     have hP3 : DfP w R3 o ds3 := hP1.on ⟨(R3, F3, ds3), hr3, hs3, he3⟩
     dsimp only at hr3 hs3 he3
     show WQ _ _ _ _ _ _ [(3, pp b3), (4, pp b4), (6, pp b6), (7, pp b7), (8, .int .i64 (A.length : Int)), (9, .int .i64 (B.length : Int)), (10, pp b10), (11, .int .i64 (s : Int)), (12, .int .i64 (i : Int)), (13, .int .i64 (k : Int)), (14, pp b14), (15, .func (.func 74) [].toArray [pp b10].toArray), (16, pp b16), (17, pp b17)] [pt b3 [.slice (some ⟨bA, oA, none⟩) A.length tc, gv] 33, pt b4 [.slice sa B.length sc, gv2] 33, pt b6 [.slice none 0 0, .int .i64 0] 50, pt b7 (dvc o) 50, pt b10 [.map (some bm)] 140, rchM bm R3, dsC F3 ds3, pt b14 (dvc zd.1) 50, pt b16 (dvc zx.1) 50, pt b17 (dvc zd.1) 50, zx.ch]
     refine WQ.chunksE (α := {x : List Nat × List DV // (∀ v ∈ ds3, v ∈ x.2) ∧ zx.1 ∈ x.2}) (C' := fun x => [pt b3 [.slice (some ⟨bA, oA, none⟩) A.length tc, gv] 33, pt b4 [.slice sa B.length sc, gv2] 33, pt b6 [.slice none 0 0, .int .i64 0] 50, pt b7 (dvc o) 50, pt b10 [.map (some bm)] 140, rchM bm R3, dsC x.1.1 x.1.2, pt b14 (dvc zd.1) 50, pt b16 (dvc zx.1) 50, pt b17 (dvc zd.1) 50]) (fun w hS => ?_) (fun ⟨(F4, ds4), hs4, hi4⟩ => ?_)
     ·obtain ⟨F9, hF9⟩ := St.dsSnoc zx.2.1 ((St.pick (St.pick hS (c := zx.ch) jR) (c := dsC F3 ds3) jR))
      exact ⟨⟨(F9, ds3 ++ [(zx.1.1, zx.1.2.1, zx.1.2.2)]), fun v hv => List.mem_append_left _ hv, by simp⟩, (jK hF9)⟩
     dsimp only at hs4 hi4
     show WQ _ _ _ _ _ _ [(3, pp b3), (4, pp b4), (6, pp b6), (7, pp b7), (8, .int .i64 (A.length : Int)), (9, .int .i64 (B.length : Int)), (10, pp b10), (11, .int .i64 (s : Int)), (12, .int .i64 (i : Int)), (13, .int .i64 (k : Int)), (14, pp b14), (15, .func (.func 74) [].toArray [pp b10].toArray), (16, pp b16), (17, pp b17)] [pt b3 [.slice (some ⟨bA, oA, none⟩) A.length tc, gv] 33, pt b4 [.slice sa B.length sc, gv2] 33, pt b6 [.slice none 0 0, .int .i64 0] 50, pt b7 (dvc o) 50, pt b10 [.map (some bm)] 140, rchM bm R3, dsC F4 ds4, pt b14 (dvc zd.1) 50, pt b16 (dvc zx.1) 50, pt b17 (dvc zd.1) 50]
     have hP4 := hP3.up hs4
     have hix : zx.1 ∈ ds4 := hi4
     have hid : zx.1 ∈ ds4 := hi4
     have hxev : ∀ cf, zx.1.1.ev cf = (zd.1.1.ev cf && x.d.ev cf) := zx.2.2
     have heR : ∀ p cf, rchE R3 p cf = (rchE (rchD R (i, k)) p cf || (decide (p = (i + 1, k)) && (zd.1.1.ev cf && !x.d.ev cf))) := fun p cf => by rw [he3 p cf]; simp only [hxev]; cases zd.1.1.ev cf <;> cases x.d.ev cf <;> simp
     refine jN 3 ?_
     refine WL.loadN F.agg50 rfl rfl (vs := dvc zx.1) rfl (fun w hS j v hv => by rw [Nat.zero_add]; exact hS.cell (cs := dvc zx.1) jM hv) ?_
     refine jN 7 ?_
     refine WA.chunks (C' := [pt b3 [.slice (some ⟨bA, oA, none⟩) A.length tc, gv] 33, pt b4 [.slice sa B.length sc, gv2] 33, pt b6 [.slice none 0 0, .int .i64 0] 50, pt b7 (dvc o) 50, pt b10 [.map (some bm)] 140, rchM bm R3, dsC F4 ds4, pt b14 (dvc zx.1) 50, pt b16 (dvc zx.1) 50, pt b17 (dvc zd.1) 50]) (fun w hS => (jK hS)) ?_
     refine jN 8 ?_
     refine WC.cond rfl (fun h91 => ?_) (fun h91 => ?_)
     ·have hkm : k = B.length := by simp at h91; omega
      refine jN 3 ?_
      refine WL.loadN F.agg50 rfl rfl (vs := dvc o) rfl (fun w hS j v hv => by rw [Nat.zero_add]; exact hS.cell (cs := dvc o) jM hv) ?_
      refine jN 1 ?_
      refine WL.loadN F.agg50 rfl rfl (vs := dvc zx.1) rfl (fun w hS j v hv => by rw [Nat.zero_add]; exact hS.cell (cs := dvc zx.1) jM hv) ?_
      refine jN 1 ?_
      refine WL.call0 (β := DRes (fun cf => o.1.ev cf || zx.1.1.ev cf)) (res := fun z => .returned z.v) (cs := fun z => [z.ch]) (ψ := fun _ => True) F.fun57 (fun d h => by cases h; rfl) rfl (fun w hS => (Or_c o.1 zx.1.1 o.2.1 zx.1.2.1 o.2.2 zx.1.2.2 w (plR (.inl hP4.o) hS (F := F4) (ds := ds4) jM) (plR (.inl hix) hS (F := F4) (ds := ds4) jM)).mono (fun e w2 ⟨x, h1, h2⟩ => ⟨x, trivial, h1, h2⟩)) (fun zo _ => After_ret ?_)
      refine jN 16 ?_
      refine WQ.chunks (C' := [pt b3 [.slice (some ⟨bA, oA, none⟩) A.length tc, gv] 33, pt b4 [.slice sa B.length sc, gv2] 33, pt b6 [.slice none 0 0, .int .i64 0] 50, pt b7 (dvc zo.1) 50, pt b10 [.map (some bm)] 140, rchM bm R3, dsC F4 ds4, zo.ch]) (fun w hS => (jK hS)) ?_
      refine WQ.chunksE (α := {x : List Nat × List DV // (∀ v ∈ ds4, v ∈ x.2) ∧ zo.1 ∈ x.2}) (C' := fun x => [pt b3 [.slice (some ⟨bA, oA, none⟩) A.length tc, gv] 33, pt b4 [.slice sa B.length sc, gv2] 33, pt b6 [.slice none 0 0, .int .i64 0] 50, pt b7 (dvc zo.1) 50, pt b10 [.map (some bm)] 140, rchM bm R3, dsC x.1.1 x.1.2]) (fun w hS => ?_) (fun ⟨(F9, ds9), hsz1, hiz1⟩ => ?_)
      ·obtain ⟨F9, hF9⟩ := St.dsSnoc zo.2.1 ((St.pick (St.pick hS (c := zo.ch) jR) (c := dsC F4 ds4) jR))
       exact ⟨⟨(F9, ds4 ++ [(zo.1.1, zo.1.2.1, zo.1.2.2)]), fun v hv => List.mem_append_left _ hv, by simp⟩, (jK hF9)⟩
      dsimp only at hsz1 hiz1
      refine WQ.chunks (C' := [pt b3 [.slice (some ⟨bA, oA, none⟩) A.length tc, gv] 33, pt b4 [.slice sa B.length sc, gv2] 33, pt b6 [.slice none 0 0, .int .i64 0] 50, pt b7 (dvc zo.1) 50, pt b10 [.map (some bm)] 140, rchM bm R3, dsC F9 ds9]) (fun w hS => (jK hS)) ?_
      refine WQ.back (⟨s, i + 1, R3, zo.1, F9, ds9⟩ : DfG) ?_ ?_ ?_ ?_
      ·exact ⟨by show s - B.length ≤ i + 1; omega, by show i + 1 ≤ min s A.length + 1; omega, hI.caseAE hks hx hkm hd9 heR (fun cf => by have h1 := zo.2.2 cf; dsimp only at h1; rw [h1, hxev]), (hP4.up hsz1).set hiz1⟩
      ·show min s A.length + 1 - (i + 1) < min s A.length + 1 - i; omega
      ·exact ⟨rfl, rfl, rfl, rfl, rfl, rfl, rfl, rfl, rfl, trivial⟩
      ·rfl
     ·have hkm : k < B.length := by simp at h91; omega
      obtain ⟨y, hy⟩ : ∃ y, B[k]? = some y := ⟨_, List.getElem?_eq_getElem hkm⟩
      obtain ⟨bB, oB, hsa, hcy⟩ := hB.r k y hy
      subst hsa
      have hym := List.mem_of_getElem? hy
      refine jN 3 ?_
      refine WC.draws [([7, 8], fun w => ∀ j v, (dvc zx.1)[j]? = some v → w.cell? ⟨b14, 0 + j, none⟩ = some v), ([7, 8], fun w => w.cell? ⟨b4, 0, none⟩ = some (.slice (some ⟨bB, oB, none⟩) B.length sc)), ([7, 8], fun w => ∀ j v, ([.slice y.da (canon y.d).1.length y.dc, .int .i64 ((canon y.d).2 : Int)] : List Value)[j]? = some v → w.cell? ⟨bB, oB + k * 7 + 5 + j, none⟩ = some v)] (by kernel_rfl) (fun w hS => facts_cons ((fun j v hv => by rw [Nat.zero_add]; exact hS.cell (cs := dvc zx.1) jM hv)) (facts_cons (hS.cell (cs := [.slice (some ⟨bB, oB, none⟩) B.length sc, gv2]) jM rfl) (facts_cons ((fun j v hv => by rw [Nat.add_assoc]; exact hS.oldc (hcy (5 + j) _ (by (show (tkC y)[5 + j]? = some v); rw [show tkC y = [.int .u8 (y.x.k : Int), .string (str y.x.t), .slice y.x.pa y.x.p.length y.x.pc, .int .i64 y.x.f, .int .i64 y.x.l] ++ [.slice y.da (canon y.d).1.length y.dc, .int .i64 ((canon y.d).2 : Int)] from rfl, List.getElem?_append_right (by simp)]; simpa using hv)) (by simp))) (facts_nil)))) ?_
      refine jF 0 0 rfl rfl (Yl.loadN F.agg50 rfl rfl) ?_
      refine jT 1 rfl (Yl.fieldAddr0 F.fld33_0 rfl) ?_
      refine jF 2 1 rfl rfl (Yl.load1 F.one30 rfl) ?_
      refine jT 3 rfl (Yl.move rfl) ?_
      refine jT 4 rfl (Yl.indexAddr F.sl30 rfl rfl hkm) ?_
      refine jT 5 rfl (Yl.fieldAddr F.fld105_5 rfl) ?_
      refine jF 6 2 rfl rfl (Yl.loadN F.agg50 rfl rfl) ?_
      refine jA 7 rfl ?_
      refine WL.call0 (β := DRes (fun cf => zx.1.1.ev cf && y.d.ev cf)) (res := fun z => .returned z.v) (cs := fun z => [z.ch]) (ψ := fun _ => True) F.fun55 (fun d h => by cases h; rfl) rfl (fun w hS => (And_c zx.1.1 y.d zx.1.2.1 y.da zx.1.2.2 y.dc w (plR (.inl hid) hS (F := F4) (ds := ds4) jM) ((hB.d y hym).next0 hS)).mono (fun e w2 ⟨x, h1, h2⟩ => ⟨x, trivial, h1, h2⟩)) (fun zy _ => After_ret ?_)
      refine jG ?_
      refine jA 8 rfl ?_
      refine WL.storeN F.agg50 rfl rfl rfl jO jU jS ?_
      refine jG ?_
      refine jD ?_
      refine jN 2 ?_
      refine WC.cutPE (α := OnP R3 ds4 i (k + 1) (fun cf => zx.1.1.ev cf && !zy.1.1.ev cf)) (fun z => [(3, pp b3), (4, pp b4), (6, pp b6), (7, pp b7), (8, .int .i64 (A.length : Int)), (9, .int .i64 (B.length : Int)), (10, pp b10), (11, .int .i64 (s : Int)), (12, .int .i64 (i : Int)), (13, .int .i64 (k : Int)), (14, pp b14), (15, .func (.func 74) [].toArray [pp b10].toArray), (16, pp b16), (17, pp b17)]) (fun z => [pt b3 [.slice (some ⟨bA, oA, none⟩) A.length tc, gv] 33, pt b4 [.slice (some ⟨bB, oB, none⟩) B.length sc, gv2] 33, pt b6 [.slice none 0 0, .int .i64 0] 50, pt b7 (dvc o) 50, pt b10 [.map (some bm)] 140, rchM bm z.1.1, dsC z.1.2.1 z.1.2.2, pt b14 (dvc zx.1) 50, pt b16 (dvc zx.1) 50, pt b17 (dvc zy.1) 50, zy.ch]) (fun c a d v w h => by cases d <;> exact h) (fun Q' hP hQ => ?_) (fun xE => ?_)
      ·refine WC.draws [([7, 8], fun w => ∀ j v, (dvc zx.1)[j]? = some v → w.cell? ⟨b14, 0 + j, none⟩ = some v), ([6, 7, 8], fun w => ∀ j v, (dvc zy.1)[j]? = some v → w.cell? ⟨b17, 0 + j, none⟩ = some v)] (by kernel_rfl) (fun w hS => facts_cons ((fun j v hv => by rw [Nat.zero_add]; exact hS.cell (cs := dvc zx.1) jM hv)) (facts_cons ((fun j v hv => by rw [Nat.zero_add]; exact hS.cell (cs := dvc zy.1) jM hv)) (facts_nil))) ?_
       refine jT 0 rfl (Yl.move rfl) ?_
       refine jT 1 rfl (Yl.move rfl) ?_
       refine jT 2 rfl (Yl.move rfl) ?_
       refine jT 3 rfl (Yl.bin (v := .int .i64 ((k + 1 : Nat) : Int)) rfl rfl (fun w => run_addN6 (n := 1) (by omega) (by decide) _ _ _ w)) ?_
       refine jF 4 0 rfl rfl (Yl.loadN F.agg50 rfl rfl) ?_
       refine jF 5 1 rfl rfl (Yl.loadN F.agg50 rfl rfl) ?_
       refine jA 6 rfl ?_
       refine WL.call0 (β := DRes (fun cf => !zy.1.1.ev cf)) (res := fun z => .returned z.v) (cs := fun z => [z.ch]) (ψ := fun _ => True) F.fun72 (fun d h => by cases h; rfl) rfl (fun w hS => (Not_c zy.1.1 zy.1.2.1 zy.1.2.2 w (zy.rd hS jM)).mono (fun e w2 ⟨x, h1, h2⟩ => ⟨x, trivial, h1, h2⟩)) (fun zn _ => After_ret ?_)
       refine WD.on (closed_of (by decide +kernel)) (fun w hS => Sx.keep ((fun j v hv => by rw [Nat.zero_add]; exact hS.cell (cs := dvc zx.1) jM hv)) (Sx.gone rfl (Sx.none))) ?_
       refine jA 7 rfl ?_
       refine WL.call0 (β := DRes (fun cf => zx.1.1.ev cf && zn.1.1.ev cf)) (res := fun z => .returned z.v) (cs := fun z => [z.ch]) (ψ := fun _ => True) F.fun55 (fun d h => by cases h; rfl) rfl (fun w hS => (And_c zx.1.1 zn.1.1 zx.1.2.1 zn.1.2.1 zx.1.2.2 zn.1.2.2 w (plR (.inl hid) hS (F := F4) (ds := ds4) jM) (zn.rd hS jM)).mono (fun e w2 ⟨x, h1, h2⟩ => ⟨x, trivial, h1, h2⟩)) (fun za _ => After_ret ?_)
       refine jG ?_
       refine jA 8 rfl ?_
       refine WL.callFC (β := OnR R3 (i) (k + 1) za.1.1.ev) (res := fun _ => .tuple #[]) (cs := fun x => [rchM bm x.1.1, dsC x.1.2.1 x.1.2.2]) (Cs := [rchM bm R3]) (O' := [bm]) (us := []) (cap := [pp b10]) F.fun74 (fun d h => by cases h; rfl) rfl rfl (Rem.perm (c := rchM bm R3) jR) rch_O1 rch_O2 (fun w hS hS2 => (Differ1_c (i) (k + 1) za.1.1 za.1.2.1 za.1.2.2 b10 bm R3 w (hS.cell (cs := [.map (some bm)]) jM rfl) (pt_ne_mpg hS (cs := [.map (some bm)]) (e := 140) jM (f := fun p => (R3 p).map dvv) jM) (za.rd hS jM) (fun p v hp => plR (hP4.r p v hp) hS (F := F4) (ds := ds4) jM) hS2).mono (fun e w2 ⟨x, h1, h2, h3, h4, h5⟩ => ⟨⟨x, h1, h2, h3⟩, h4, h5⟩)) (fun xo => ?_)
       refine jG ?_
       refine jD ?_
       have hf9 : ∀ cf, za.1.1.ev cf = (fun cf => zx.1.1.ev cf && !zy.1.1.ev cf) cf := fun cf => by have h1 := za.2.2 cf; have h2 := zn.2.2 cf; dsimp only at h1 h2 ⊢; rw [h1, h2]
       refine WQ.chunks (C' := [pt b3 [.slice (some ⟨bA, oA, none⟩) A.length tc, gv] 33, pt b4 [.slice (some ⟨bB, oB, none⟩) B.length sc, gv2] 33, pt b6 [.slice none 0 0, .int .i64 0] 50, pt b7 (dvc o) 50, pt b10 [.map (some bm)] 140, rchM bm xo.1.1, dsC (F4 ++ xo.1.2.1) (ds4 ++ xo.1.2.2), pt b14 (dvc zx.1) 50, pt b16 (dvc zx.1) 50, pt b17 (dvc zy.1) 50, zy.ch]) (fun w hS => by have h9 := St.dsApp ((St.pick (St.pick hS (c := dsC xo.1.2.1 xo.1.2.2) jR) (c := dsC F4 ds4) jR)); exact (jK h9)) ?_
       have hx9 : ∀ p cf, rchE xo.1.1 p cf = (rchE R3 p cf || (decide (p = (i, k + 1)) && (fun cf => zx.1.1.ev cf && !zy.1.1.ev cf) cf)) := fun p cf => by rw [xo.2.2.2 p cf, hf9 cf]
       exact WQ.byCut (hQ (⟨(xo.1.1, F4 ++ xo.1.2.1, ds4 ++ xo.1.2.2), fun p v hp => (xo.2.1 p v hp).imp id (List.mem_append_right _), fun v hv => List.mem_append_left _ hv, hx9⟩ : OnP R3 ds4 (i) (k + 1) (fun cf => zx.1.1.ev cf && !zy.1.1.ev cf))) ⟨rfl, rfl, rfl, rfl, rfl, rfl, rfl, rfl, rfl, rfl, rfl, rfl, rfl, rfl, trivial⟩
      obtain ⟨⟨R5, F5, ds5⟩, hr5, hs5, he5⟩ := xE
      have hP5 : DfP w R5 o ds5 := hP4.on ⟨(R5, F5, ds5), hr5, hs5, he5⟩
      dsimp only at hr5 hs5 he5
      show WQ _ _ _ _ _ _ [(3, pp b3), (4, pp b4), (6, pp b6), (7, pp b7), (8, .int .i64 (A.length : Int)), (9, .int .i64 (B.length : Int)), (10, pp b10), (11, .int .i64 (s : Int)), (12, .int .i64 (i : Int)), (13, .int .i64 (k : Int)), (14, pp b14), (15, .func (.func 74) [].toArray [pp b10].toArray), (16, pp b16), (17, pp b17)] [pt b3 [.slice (some ⟨bA, oA, none⟩) A.length tc, gv] 33, pt b4 [.slice (some ⟨bB, oB, none⟩) B.length sc, gv2] 33, pt b6 [.slice none 0 0, .int .i64 0] 50, pt b7 (dvc o) 50, pt b10 [.map (some bm)] 140, rchM bm R5, dsC F5 ds5, pt b14 (dvc zx.1) 50, pt b16 (dvc zx.1) 50, pt b17 (dvc zy.1) 50, zy.ch]
      refine WQ.chunksE (α := {x : List Nat × List DV // (∀ v ∈ ds5, v ∈ x.2) ∧ zy.1 ∈ x.2}) (C' := fun x => [pt b3 [.slice (some ⟨bA, oA, none⟩) A.length tc, gv] 33, pt b4 [.slice (some ⟨bB, oB, none⟩) B.length sc, gv2] 33, pt b6 [.slice none 0 0, .int .i64 0] 50, pt b7 (dvc o) 50, pt b10 [.map (some bm)] 140, rchM bm R5, dsC x.1.1 x.1.2, pt b14 (dvc zx.1) 50, pt b16 (dvc zx.1) 50, pt b17 (dvc zy.1) 50]) (fun w hS => ?_) (fun ⟨(F6, ds6), hsy6, hiy6⟩ => ?_)
      ·obtain ⟨F9, hF9⟩ := St.dsSnoc zy.2.1 ((St.pick (St.pick hS (c := zy.ch) jR) (c := dsC F5 ds5) jR))
       exact ⟨⟨(F9, ds5 ++ [(zy.1.1, zy.1.2.1, zy.1.2.2)]), fun v hv => List.mem_append_left _ hv, by simp⟩, (jK hF9)⟩
      dsimp only at hsy6 hiy6
      show WQ _ _ _ _ _ _ [(3, pp b3), (4, pp b4), (6, pp b6), (7, pp b7), (8, .int .i64 (A.length : Int)), (9, .int .i64 (B.length : Int)), (10, pp b10), (11, .int .i64 (s : Int)), (12, .int .i64 (i : Int)), (13, .int .i64 (k : Int)), (14, pp b14), (15, .func (.func 74) [].toArray [pp b10].toArray), (16, pp b16), (17, pp b17)] [pt b3 [.slice (some ⟨bA, oA, none⟩) A.length tc, gv] 33, pt b4 [.slice (some ⟨bB, oB, none⟩) B.length sc, gv2] 33, pt b6 [.slice none 0 0, .int .i64 0] 50, pt b7 (dvc o) 50, pt b10 [.map (some bm)] 140, rchM bm R5, dsC F6 ds6, pt b14 (dvc zx.1) 50, pt b16 (dvc zx.1) 50, pt b17 (dvc zy.1) 50]
      have hP6 := hP5.up hsy6
      refine jN 14 ?_
      refine WC.cond rfl (fun h115 => ?_) (fun h115 => ?_)
      ·exfalso; simp at h115; omega
      ·refine jN 1 ?_
       refine WC.draws [([], fun w => w.cell? ⟨b3, 0, none⟩ = some (.slice (some ⟨bA, oA, none⟩) A.length tc)), ([], fun w => w.cell? ⟨bA, oA + i * 7 + 0, none⟩ = some (.int .u8 (x.x.k : Int))), ([], fun w => w.cell? ⟨b4, 0, none⟩ = some (.slice (some ⟨bB, oB, none⟩) B.length sc)), ([], fun w => w.cell? ⟨bB, oB + k * 7 + 0, none⟩ = some (.int .u8 (y.x.k : Int))), ([], fun w => w.cell? ⟨b3, 0, none⟩ = some (.slice (some ⟨bA, oA, none⟩) A.length tc)), ([], fun w => w.cell? ⟨bA, oA + i * 7 + 1, none⟩ = some (.string (str x.x.t))), ([], fun w => w.cell? ⟨b4, 0, none⟩ = some (.slice (some ⟨bB, oB, none⟩) B.length sc)), ([], fun w => w.cell? ⟨bB, oB + k * 7 + 1, none⟩ = some (.string (str y.x.t)))] (by kernel_rfl) (fun w hS => facts_cons (hS.cell (cs := [.slice (some ⟨bA, oA, none⟩) A.length tc, gv]) jM rfl) (facts_cons (hS.oldc (hcx 0 _ rfl) (by simp)) (facts_cons (hS.cell (cs := [.slice (some ⟨bB, oB, none⟩) B.length sc, gv2]) jM rfl) (facts_cons (hS.oldc (hcy 0 _ rfl) (by simp)) (facts_cons (hS.cell (cs := [.slice (some ⟨bA, oA, none⟩) A.length tc, gv]) jM rfl) (facts_cons (hS.oldc (hcx 1 _ rfl) (by simp)) (facts_cons (hS.cell (cs := [.slice (some ⟨bB, oB, none⟩) B.length sc, gv2]) jM rfl) (facts_cons (hS.oldc (hcy 1 _ rfl) (by simp)) (facts_nil))))))))) ?_
       refine jT 0 rfl (Yl.fieldAddr0 F.fld33_0 rfl) ?_
       refine jF 1 0 rfl rfl (Yl.load1 F.one30 rfl) ?_
       refine jT 2 rfl (Yl.move rfl) ?_
       refine jT 3 rfl (Yl.indexAddr F.sl30 rfl rfl hin) ?_
       refine jT 4 rfl (Yl.fieldAddr F.fld105_0 rfl) ?_
       refine jF 5 1 rfl rfl (Yl.load1 F.one5 rfl) ?_
       refine jT 6 rfl (Yl.fieldAddr0 F.fld33_0 rfl) ?_
       refine jF 7 2 rfl rfl (Yl.load1 F.one30 rfl) ?_
       refine jT 8 rfl (Yl.move rfl) ?_
       refine jT 9 rfl (Yl.indexAddr F.sl30 rfl rfl hkm) ?_
       refine jT 10 rfl (Yl.fieldAddr F.fld105_0 rfl) ?_
       refine jF 11 3 rfl rfl (Yl.load1 F.one5 rfl) ?_
       refine jT 12 rfl (Yl.eqI rfl rfl) ?_
       refine jT 13 rfl (Yl.move rfl) ?_
       refine fun hcl => WA.splitB (i := 136) rfl (fun g136 => ?_) (fun g136 => ?_)
       ·refine (show WD _ _ _ _ _ _ _ _ _ _ _ _ from ?_) hcl
        have hkk : x.x.k = y.x.k := by simp at g136; omega
        refine WD.takeG (i := 14) rfl rfl rfl rfl rfl rfl (by decide +kernel) (by decide +kernel) (by decide +kernel) (fun _ _ _ h => h) (by kernel_rfl) need_none (Yl.fieldAddr0 F.fld33_0 rfl) ?_
        refine WD.takeG (i := 15) rfl rfl rfl rfl rfl rfl (by decide +kernel) (by decide +kernel) (by decide +kernel) (fun _ _ _ h => h) (by kernel_rfl) (need_at2 4 rfl (by decide +kernel)) (Yl.load1 F.one30 rfl) ?_
        refine WD.takeG (i := 16) rfl rfl rfl rfl rfl rfl (by decide +kernel) (by decide +kernel) (by decide +kernel) (fun _ _ _ h => h) (by kernel_rfl) need_none (Yl.move rfl) ?_
        refine WD.takeG (i := 17) rfl rfl rfl rfl rfl rfl (by decide +kernel) (by decide +kernel) (by decide +kernel) (fun _ _ _ h => h) (by kernel_rfl) need_none (Yl.indexAddr F.sl30 rfl rfl hin) ?_
        refine WD.takeG (i := 18) rfl rfl rfl rfl rfl rfl (by decide +kernel) (by decide +kernel) (by decide +kernel) (fun _ _ _ h => h) (by kernel_rfl) need_none (Yl.fieldAddr F.fld105_1 rfl) ?_
        refine WD.takeG (i := 19) rfl rfl rfl rfl rfl rfl (by decide +kernel) (by decide +kernel) (by decide +kernel) (fun _ _ _ h => h) (by kernel_rfl) (need_at2 5 rfl (by decide +kernel)) (Yl.load1 F.one9 rfl) ?_
        refine WD.takeG (i := 20) rfl rfl rfl rfl rfl rfl (by decide +kernel) (by decide +kernel) (by decide +kernel) (fun _ _ _ h => h) (by kernel_rfl) need_none (Yl.fieldAddr0 F.fld33_0 rfl) ?_
        refine WD.takeG (i := 21) rfl rfl rfl rfl rfl rfl (by decide +kernel) (by decide +kernel) (by decide +kernel) (fun _ _ _ h => h) (by kernel_rfl) (need_at2 6 rfl (by decide +kernel)) (Yl.load1 F.one30 rfl) ?_
        refine WD.takeG (i := 22) rfl rfl rfl rfl rfl rfl (by decide +kernel) (by decide +kernel) (by decide +kernel) (fun _ _ _ h => h) (by kernel_rfl) need_none (Yl.move rfl) ?_
        refine WD.takeG (i := 23) rfl rfl rfl rfl rfl rfl (by decide +kernel) (by decide +kernel) (by decide +kernel) (fun _ _ _ h => h) (by kernel_rfl) need_none (Yl.indexAddr F.sl30 rfl rfl hkm) ?_
        refine WD.takeG (i := 24) rfl rfl rfl rfl rfl rfl (by decide +kernel) (by decide +kernel) (by decide +kernel) (fun _ _ _ h => h) (by kernel_rfl) need_none (Yl.fieldAddr F.fld105_1 rfl) ?_
        refine WD.takeG (i := 25) rfl rfl rfl rfl rfl rfl (by decide +kernel) (by decide +kernel) (by decide +kernel) (fun _ _ _ h => h) (by kernel_rfl) (need_at2 7 rfl (by decide +kernel)) (Yl.load1 F.one9 rfl) ?_
        refine WD.takeG (i := 26) rfl rfl rfl rfl rfl rfl (by decide +kernel) (by decide +kernel) (by decide +kernel) (fun _ _ _ h => h) (by kernel_rfl) need_none (Yl.eqS rfl rfl) ?_
        refine jT 27 rfl (Yl.pickT rfl rfl) ?_
        refine jT 28 rfl (Yl.assign rfl) ?_
        refine jD ?_
        refine jN 1 ?_
        refine WC.cond rfl (fun h122 => ?_) (fun h122 => ?_)
        ·have htt : x.x.t = y.x.t := by simpa using h122
         refine jN 6 ?_
         refine WL.bin (v := .int .i64 ((i + 1 : Nat) : Int)) rfl rfl rfl (fun w => run_addN6 (n := 1) (by omega) (by decide) _ _ _ w) ?_
         refine jN 3 ?_
         refine WL.bin (v := .int .i64 ((k + 1 : Nat) : Int)) rfl rfl rfl (fun w => run_addN6 (n := 1) (by omega) (by decide) _ _ _ w) ?_
         refine jN 1 ?_
         refine WL.loadN F.agg50 rfl rfl (vs := dvc zy.1) rfl (fun w hS j v hv => by rw [Nat.zero_add]; exact hS.cell (cs := dvc zy.1) jM hv) ?_
         refine jN 1 ?_
         refine WL.callFC (β := OnR R5 (i + 1) (k + 1) zy.1.1.ev) (res := fun _ => .tuple #[]) (cs := fun x => [rchM bm x.1.1, dsC x.1.2.1 x.1.2.2]) (Cs := [rchM bm R5]) (O' := [bm]) (us := []) (cap := [pp b10]) F.fun74 (fun d h => by cases h; rfl) rfl rfl (Rem.perm (c := rchM bm R5) jR) rch_O1 rch_O2 (fun w hS hS2 => (Differ1_c (i + 1) (k + 1) zy.1.1 zy.1.2.1 zy.1.2.2 b10 bm R5 w (hS.cell (cs := [.map (some bm)]) jM rfl) (pt_ne_mpg hS (cs := [.map (some bm)]) (e := 140) jM (f := fun p => (R5 p).map dvv) jM) (plR (.inl hiy6) hS (F := F6) (ds := ds6) jM) (fun p v hp => plR (hP6.r p v hp) hS (F := F6) (ds := ds6) jM) hS2).mono (fun e w2 ⟨x, h1, h2, h3, h4, h5⟩ => ⟨⟨x, h1, h2, h3⟩, h4, h5⟩)) (fun xo => ?_)
         refine jN 12 ?_
         refine WQ.chunksE (α := OnP R5 ds6 (i + 1) (k + 1) (fun cf => zy.1.1.ev cf)) (C' := fun x => [pt b3 [.slice (some ⟨bA, oA, none⟩) A.length tc, gv] 33, pt b4 [.slice (some ⟨bB, oB, none⟩) B.length sc, gv2] 33, pt b6 [.slice none 0 0, .int .i64 0] 50, pt b7 (dvc o) 50, pt b10 [.map (some bm)] 140, rchM bm x.1.1, dsC x.1.2.1 x.1.2.2]) (fun w hS => ?_) (fun ⟨(R7, F7, ds7), hr7, hs7, he7⟩ => ?_)
         ·have h9 := St.dsApp ((St.pick (St.pick hS (c := dsC xo.1.2.1 xo.1.2.2) jR) (c := dsC F6 ds6) jR))
          exact ⟨(⟨(xo.1.1, F6 ++ xo.1.2.1, ds6 ++ xo.1.2.2), fun p v hp => (xo.2.1 p v hp).imp id (List.mem_append_right _), fun v hv => List.mem_append_left _ hv, xo.2.2.2⟩ : OnP R5 ds6 (i + 1) (k + 1) (fun cf => zy.1.1.ev cf)), (jK h9)⟩
         have hP7 : DfP w R7 o ds7 := hP6.on ⟨(R7, F7, ds7), hr7, hs7, he7⟩
         dsimp only at hr7 hs7 he7
         refine WQ.chunks (C' := [pt b3 [.slice (some ⟨bA, oA, none⟩) A.length tc, gv] 33, pt b4 [.slice (some ⟨bB, oB, none⟩) B.length sc, gv2] 33, pt b6 [.slice none 0 0, .int .i64 0] 50, pt b7 (dvc o) 50, pt b10 [.map (some bm)] 140, rchM bm R7, dsC F7 ds7]) (fun w hS => (jK hS)) ?_
         refine WQ.back (⟨s, i + 1, R7, o, F7, ds7⟩ : DfG) ?_ ?_ ?_ ?_
         ·exact ⟨by show s - B.length ≤ i + 1; omega, by show i + 1 ≤ min s A.length + 1; omega, hI.caseEq hks hx hy hkk htt hd9 (fun p cf => by rw [he7 p cf, he5 p cf, heR p cf]; simp only [zy.2.2, hxev]; cases zd.1.1.ev cf <;> cases x.d.ev cf <;> cases y.d.ev cf <;> simp) (fun _ => rfl), hP7⟩
         ·show min s A.length + 1 - (i + 1) < min s A.length + 1 - i; omega
         ·exact ⟨rfl, rfl, rfl, rfl, rfl, rfl, rfl, rfl, rfl, trivial⟩
         ·rfl
        ·have hne : ¬ (x.x.k = y.x.k ∧ x.x.t = y.x.t) := fun e => by first | exact hne e | (rw [e.2] at h122; simp at h122)
         refine jN 2 ?_
         refine WL.loadN F.agg50 rfl rfl (vs := dvc o) rfl (fun w hS j v hv => by rw [Nat.zero_add]; exact hS.cell (cs := dvc o) jM hv) ?_
         refine jN 1 ?_
         refine WL.loadN F.agg50 rfl rfl (vs := dvc zy.1) rfl (fun w hS j v hv => by rw [Nat.zero_add]; exact hS.cell (cs := dvc zy.1) jM hv) ?_
         refine jN 1 ?_
         refine WL.call0 (β := DRes (fun cf => o.1.ev cf || zy.1.1.ev cf)) (res := fun z => .returned z.v) (cs := fun z => [z.ch]) (ψ := fun _ => True) F.fun57 (fun d h => by cases h; rfl) rfl (fun w hS => (Or_c o.1 zy.1.1 o.2.1 zy.1.2.1 o.2.2 zy.1.2.2 w (plR (.inl hP6.o) hS (F := F6) (ds := ds6) jM) (plR (.inl hiy6) hS (F := F6) (ds := ds6) jM)).mono (fun e w2 ⟨x, h1, h2⟩ => ⟨x, trivial, h1, h2⟩)) (fun zo _ => After_ret ?_)
         refine jN 14 ?_
         refine WQ.chunks (C' := [pt b3 [.slice (some ⟨bA, oA, none⟩) A.length tc, gv] 33, pt b4 [.slice (some ⟨bB, oB, none⟩) B.length sc, gv2] 33, pt b6 [.slice none 0 0, .int .i64 0] 50, pt b7 (dvc zo.1) 50, pt b10 [.map (some bm)] 140, rchM bm R5, dsC F6 ds6, zo.ch]) (fun w hS => (jK hS)) ?_
         refine WQ.chunksE (α := {x : List Nat × List DV // (∀ v ∈ ds6, v ∈ x.2) ∧ zo.1 ∈ x.2}) (C' := fun x => [pt b3 [.slice (some ⟨bA, oA, none⟩) A.length tc, gv] 33, pt b4 [.slice (some ⟨bB, oB, none⟩) B.length sc, gv2] 33, pt b6 [.slice none 0 0, .int .i64 0] 50, pt b7 (dvc zo.1) 50, pt b10 [.map (some bm)] 140, rchM bm R5, dsC x.1.1 x.1.2]) (fun w hS => ?_) (fun ⟨(F9, ds9), hsz3, hiz3⟩ => ?_)
         ·obtain ⟨F9, hF9⟩ := St.dsSnoc zo.2.1 ((St.pick (St.pick hS (c := zo.ch) jR) (c := dsC F6 ds6) jR))
          exact ⟨⟨(F9, ds6 ++ [(zo.1.1, zo.1.2.1, zo.1.2.2)]), fun v hv => List.mem_append_left _ hv, by simp⟩, (jK hF9)⟩
         dsimp only at hsz3 hiz3
         refine WQ.chunks (C' := [pt b3 [.slice (some ⟨bA, oA, none⟩) A.length tc, gv] 33, pt b4 [.slice (some ⟨bB, oB, none⟩) B.length sc, gv2] 33, pt b6 [.slice none 0 0, .int .i64 0] 50, pt b7 (dvc zo.1) 50, pt b10 [.map (some bm)] 140, rchM bm R5, dsC F9 ds9]) (fun w hS => (jK hS)) ?_
         refine WQ.back (⟨s, i + 1, R5, zo.1, F9, ds9⟩ : DfG) ?_ ?_ ?_ ?_
         ·exact ⟨by show s - B.length ≤ i + 1; omega, by show i + 1 ≤ min s A.length + 1; omega, hI.caseNe hks hx hy hne hd9 (fun p cf => by rw [he5 p cf, heR p cf]; simp only [zy.2.2, hxev]; cases zd.1.1.ev cf <;> cases x.d.ev cf <;> cases y.d.ev cf <;> simp) (fun cf => by have h1 := zo.2.2 cf; have h2 := zy.2.2 cf; dsimp only at h1 h2; rw [h1, h2, hxev]), (hP6.up hsz3).set hiz3⟩
         ·show min s A.length + 1 - (i + 1) < min s A.length + 1 - i; omega
         ·exact ⟨rfl, rfl, rfl, rfl, rfl, rfl, rfl, rfl, rfl, trivial⟩
         ·rfl
       ·refine (show WD _ _ _ _ _ _ _ _ _ _ _ _ from ?_) hcl
        have hne : ¬ (x.x.k = y.x.k ∧ x.x.t = y.x.t) := fun e => by rw [e.1] at g136; simp at g136
        refine WD.skip (i := 14) rfl rfl rfl rfl rfl rfl rfl (by decide +kernel) (by decide +kernel) (by decide +kernel) (fun _ _ _ h => h) (by kernel_rfl) ?_
        refine WD.skip (i := 15) rfl rfl rfl rfl rfl rfl rfl (by decide +kernel) (by decide +kernel) (by decide +kernel) (fun _ _ _ h => h) (by kernel_rfl) ?_
        refine WD.skip (i := 16) rfl rfl rfl rfl rfl rfl rfl (by decide +kernel) (by decide +kernel) (by decide +kernel) (fun _ _ _ h => h) (by kernel_rfl) ?_
        refine WD.skip (i := 17) rfl rfl rfl rfl rfl rfl rfl (by decide +kernel) (by decide +kernel) (by decide +kernel) (fun _ _ _ h => h) (by kernel_rfl) ?_
        refine WD.skip (i := 18) rfl rfl rfl rfl rfl rfl rfl (by decide +kernel) (by decide +kernel) (by decide +kernel) (fun _ _ _ h => h) (by kernel_rfl) ?_
        refine WD.skip (i := 19) rfl rfl rfl rfl rfl rfl rfl (by decide +kernel) (by decide +kernel) (by decide +kernel) (fun _ _ _ h => h) (by kernel_rfl) ?_
        refine WD.skip (i := 20) rfl rfl rfl rfl rfl rfl rfl (by decide +kernel) (by decide +kernel) (by decide +kernel) (fun _ _ _ h => h) (by kernel_rfl) ?_
        refine WD.skip (i := 21) rfl rfl rfl rfl rfl rfl rfl (by decide +kernel) (by decide +kernel) (by decide +kernel) (fun _ _ _ h => h) (by kernel_rfl) ?_
        refine WD.skip (i := 22) rfl rfl rfl rfl rfl rfl rfl (by decide +kernel) (by decide +kernel) (by decide +kernel) (fun _ _ _ h => h) (by kernel_rfl) ?_
        refine WD.skip (i := 23) rfl rfl rfl rfl rfl rfl rfl (by decide +kernel) (by decide +kernel) (by decide +kernel) (fun _ _ _ h => h) (by kernel_rfl) ?_
        refine WD.skip (i := 24) rfl rfl rfl rfl rfl rfl rfl (by decide +kernel) (by decide +kernel) (by decide +kernel) (fun _ _ _ h => h) (by kernel_rfl) ?_
        refine WD.skip (i := 25) rfl rfl rfl rfl rfl rfl rfl (by decide +kernel) (by decide +kernel) (by decide +kernel) (fun _ _ _ h => h) (by kernel_rfl) ?_
        refine WD.skip (i := 26) rfl rfl rfl rfl rfl rfl rfl (by decide +kernel) (by decide +kernel) (by decide +kernel) (fun _ _ _ h => h) (by kernel_rfl) ?_
        refine jT 27 rfl (Yl.pickF rfl rfl) ?_
        refine jT 28 rfl (Yl.assign rfl) ?_
        refine jD ?_
        refine jN 4 ?_
        refine WL.loadN F.agg50 rfl rfl (vs := dvc o) rfl (fun w hS j v hv => by rw [Nat.zero_add]; exact hS.cell (cs := dvc o) jM hv) ?_
        refine jN 1 ?_
        refine WL.loadN F.agg50 rfl rfl (vs := dvc zy.1) rfl (fun w hS j v hv => by rw [Nat.zero_add]; exact hS.cell (cs := dvc zy.1) jM hv) ?_
        refine jN 1 ?_
        refine WL.call0 (β := DRes (fun cf => o.1.ev cf || zy.1.1.ev cf)) (res := fun z => .returned z.v) (cs := fun z => [z.ch]) (ψ := fun _ => True) F.fun57 (fun d h => by cases h; rfl) rfl (fun w hS => (Or_c o.1 zy.1.1 o.2.1 zy.1.2.1 o.2.2 zy.1.2.2 w (plR (.inl hP6.o) hS (F := F6) (ds := ds6) jM) (plR (.inl hiy6) hS (F := F6) (ds := ds6) jM)).mono (fun e w2 ⟨x, h1, h2⟩ => ⟨x, trivial, h1, h2⟩)) (fun zo _ => After_ret ?_)
        refine jN 14 ?_
        refine WQ.chunks (C' := [pt b3 [.slice (some ⟨bA, oA, none⟩) A.length tc, gv] 33, pt b4 [.slice (some ⟨bB, oB, none⟩) B.length sc, gv2] 33, pt b6 [.slice none 0 0, .int .i64 0] 50, pt b7 (dvc zo.1) 50, pt b10 [.map (some bm)] 140, rchM bm R5, dsC F6 ds6, zo.ch]) (fun w hS => (jK hS)) ?_
        refine WQ.chunksE (α := {x : List Nat × List DV // (∀ v ∈ ds6, v ∈ x.2) ∧ zo.1 ∈ x.2}) (C' := fun x => [pt b3 [.slice (some ⟨bA, oA, none⟩) A.length tc, gv] 33, pt b4 [.slice (some ⟨bB, oB, none⟩) B.length sc, gv2] 33, pt b6 [.slice none 0 0, .int .i64 0] 50, pt b7 (dvc zo.1) 50, pt b10 [.map (some bm)] 140, rchM bm R5, dsC x.1.1 x.1.2]) (fun w hS => ?_) (fun ⟨(F9, ds9), hsz3, hiz3⟩ => ?_)
        ·obtain ⟨F9, hF9⟩ := St.dsSnoc zo.2.1 ((St.pick (St.pick hS (c := zo.ch) jR) (c := dsC F6 ds6) jR))
         exact ⟨⟨(F9, ds6 ++ [(zo.1.1, zo.1.2.1, zo.1.2.2)]), fun v hv => List.mem_append_left _ hv, by simp⟩, (jK hF9)⟩
        dsimp only at hsz3 hiz3
        refine WQ.chunks (C' := [pt b3 [.slice (some ⟨bA, oA, none⟩) A.length tc, gv] 33, pt b4 [.slice (some ⟨bB, oB, none⟩) B.length sc, gv2] 33, pt b6 [.slice none 0 0, .int .i64 0] 50, pt b7 (dvc zo.1) 50, pt b10 [.map (some bm)] 140, rchM bm R5, dsC F9 ds9]) (fun w hS => (jK hS)) ?_
        refine WQ.back (⟨s, i + 1, R5, zo.1, F9, ds9⟩ : DfG) ?_ ?_ ?_ ?_
        ·exact ⟨by show s - B.length ≤ i + 1; omega, by show i + 1 ≤ min s A.length + 1; omega, hI.caseNe hks hx hy hne hd9 (fun p cf => by rw [he5 p cf, heR p cf]; simp only [zy.2.2, hxev]; cases zd.1.1.ev cf <;> cases x.d.ev cf <;> cases y.d.ev cf <;> simp) (fun cf => by have h1 := zo.2.2 cf; have h2 := zy.2.2 cf; dsimp only at h1 h2; rw [h1, h2, hxev]), (hP6.up hsz3).set hiz3⟩
        ·show min s A.length + 1 - (i + 1) < min s A.length + 1 - i; omega
        ·exact ⟨rfl, rfl, rfl, rfl, rfl, rfl, rfl, rfl, rfl, trivial⟩
        ·rfl
  ·have hni : min s A.length < i := by simp at h44; omega
   refine jN 14 ?_
   refine WQ.chunks (C' := [pt b3 [.slice ta A.length tc, gv] 33, pt b4 [.slice sa B.length sc, gv2] 33, pt b6 [.slice none 0 0, .int .i64 0] 50, pt b7 (dvc o) 50, pt b10 [.map (some bm)] 140, rchM bm R, dsC Fp ds]) (fun w hS => (jK hS)) ?_
   refine WQ.back (⟨s + 1, 0, R, o, Fp, ds⟩ : DfG) ?_ ?_ ?_ ?_
   ·exact ⟨by show s + 1 ≤ _; omega, hI.done hni, hPo⟩
   ·show A.length + B.length + 1 - (s + 1) < A.length + B.length + 1 - s; omega
   ·exact ⟨rfl, rfl, rfl, rfl, rfl, rfl, rfl, rfl, trivial⟩
   ·rfl
 ·have hse : A.length + B.length < s := by simp at h33; omega
  refine jN 8 ?_
  refine WL.loadN F.agg50 rfl rfl (vs := dvc o) rfl (fun w hS j v hv => by rw [Nat.zero_add]; exact hS.cell (cs := dvc o) jM hv) ?_
  refine jN 5 ?_
  exact WQ.ret (rs := [.cell 6 50]) rfl (.cellN F.agg50 rfl jM rfl .nil) (fun w hS => ⟨(o, Fp, ds), hPo.o, hI.last hse, rfl, (jK hS)⟩)
open Go Go.Eng Go.Proofs Dg
def itB (u : Nat) (x y : ItV) : Bool := decide (x.p = y.p ∧ x.k = y.k ∧ x.t = y.t ∧ x.f = y.f ∧ x.l = y.l ∧ thoseL x.q u = thoseL y.q u)
def noB (u : Nat) (x y : NoV) : Bool := decide (x.p = y.p ∧ x.k = y.k ∧ x.f = y.f ∧ x.l = y.l ∧ thoseL x.q u = thoseL y.q u)
def ptK (u : Nat) (ts : List TkV) : Nat → List TkV
 | 0 => []
 | k + 1 => match ts[k]? with
  | none => ptK u ts k
  | some y => if (ptK u ts k).any (fun z => decide (thoseL z.x.q u = thoseL y.x.q u)) then ptK u ts k else ptK u ts k ++ [y]
section
variable {w0 w : World} {C : List Chunk} {x : RwV} {m : MdV} {u i k : Nat}
theorem MdG.tm (hm : MdG u x i k m) {t : TkV} (ht : t ∈ m.ts) : t.x ∈ x.i := List.mem_of_mem_take (by rw [← hm.t.x]; exact List.mem_map_of_mem ht)
theorem MdG.hm (hm : MdG u x i k m) {t : RgV} (ht : t ∈ m.hs) : t.x ∈ x.n := List.mem_of_mem_take (by rw [← hm.h.x]; exact List.mem_map_of_mem ht)
theorem thoseL_len {q : List QB} {u : Nat} : (thoseL q u).length ≤ 4294967296 := Nat.le_trans (List.length_filter_le _ _) (cfgs_len u)
theorem MdG.tsR (hm : MdG u x i k m) (hx : RwR w0 x) (hp : ∀ y ∈ x.i, y.p.length ≤ 1000000000) (hS : St w0 [] C w) (h1 : mdT m ∈ C) (h2 : dsC m.F m.ds ∈ C) : TsR w m.ts m.ta :=
 ⟨RdSl.of_row (fun _ _ => rfl) (fun h => h) (Nat.le_refl _) (hS.ok _ h1), fun t ht => ⟨(hx.io _ (hm.tm ht)).p.next hS, hp _ (hm.tm ht)⟩, fun t ht => dsC_rd (hS.ok _ h2) (hm.t.d t ht).2.2⟩
end
end Go.Proofs.YtndpdhamadiopaaGreatDoor
namespace Fm
open Go
def splitC (c : UInt8) : List UInt8 → List (List UInt8)
 | [] => [[]]
 | x :: xs => if x = c then [] :: splitC c xs else match splitC c xs with
  | [] => [[x]]
  | p :: ps => (x :: p) :: ps
def splitOn (c : UInt8) (cur : List UInt8) (l : List UInt8) : List (List UInt8) := match splitC c l with
 | [] => [cur]
 | p :: ps => (cur ++ p) :: ps
def digV (l : List UInt8) : Nat := l.foldl (fun n c => 10 * n + (c.toNat - 48)) 0
theorem digV_snoc (l : List UInt8) (c : UInt8) : digV (l ++ [c]) = 10 * digV l + (c.toNat - 48) := by simp [digV]
def valD (s : List UInt8) : Int := if s.head? = some 45 then -(digV s.tail : Int) else (digV s : Int)
theorem u8_dig {d : Nat} (h : d < 10) : (UInt8.ofNat (48 + d)).toNat = 48 + d := by
 rw [UInt8.toNat_ofNat']; omega
theorem dec_ok : ∀ (k u : Nat), u < k → digV (Lib.decDigits u) = u ∧ (∀ c ∈ Lib.decDigits u, 48 ≤ c.toNat ∧ c.toNat ≤ 57) ∧ Lib.decDigits u ≠ []
 | 0, u, h => by omega
 | k + 1, u, h => by
  by_cases h1 : u < 10
  ·have hd := u8_dig h1
   rw [Lib.decDigits, dif_pos h1]
   refine ⟨by simp only [digV, List.foldl_cons, List.foldl_nil, hd]; omega, fun c hc => ?_, by simp⟩
   rw [List.mem_singleton.1 hc, hd]; omega
  ·have hd := u8_dig (Nat.mod_lt u (show 0 < 10 by decide))
   obtain ⟨e1, e2, e3⟩ := dec_ok k (u / 10) (by omega)
   rw [Lib.decDigits, dif_neg h1]
   refine ⟨by rw [digV_snoc, e1, hd]; omega, fun c hc => ?_, by simp⟩
   rcases List.mem_append.1 hc with hc | hc
   ·exact e2 c hc
   ·rw [List.mem_singleton.1 hc, hd]; omega
theorem dec_ne (u : Nat) : Lib.decDigits u ≠ [] := (dec_ok (u + 1) u (by omega)).2.2
theorem itoa_cases (x : Int) : (x < 0 ∧ Lib.itoa x = 45 :: Lib.decDigits x.natAbs) ∨ (0 ≤ x ∧ Lib.itoa x = Lib.decDigits x.natAbs) := by
 unfold Lib.itoa
 by_cases h : x < 0
 ·exact .inl ⟨h, if_pos h⟩
 ·refine .inr ⟨by omega, ?_⟩
  rw [if_neg h, show x.toNat = x.natAbs by omega]
def isNum (s : List UInt8) : Bool := decide (Lib.itoa (valD s) = s) && decide ((valD s).natAbs < 1000000000)
def unsign (s : List UInt8) : List UInt8 := if s.head? = some 45 then s.tail else s
end Fm
namespace Fm
open Go
def isLet (c : UInt8) : Bool := (decide (97 ≤ c.toNat) && decide (c.toNat ≤ 122)) || (decide (65 ≤ c.toNat) && decide (c.toNat ≤ 90))
def isDig (c : UInt8) : Bool := decide (48 ≤ c.toNat) && decide (c.toNat ≤ 57)
def isPrt (c : UInt8) : Bool := isLet c || isDig c || decide (c = 95)
def isBlk (c : UInt8) : Bool := decide (c = 32) || decide (c = 9)
def okC (c : UInt8) : Bool := decide (c = 9) || (decide (32 ≤ c.toNat) && decide (c.toNat ≤ 126))
def runP (s : List UInt8) : List UInt8 := s.takeWhile isPrt
def namB (s : List UInt8) : Bool := match s with
 | [] => false
 | c :: _ => decide (s.length ≤ 32) && !isDig c && s.all isPrt
def numB (s : List UInt8) : Bool := decide (Lib.itoa (digV s : Int) = s) && decide (digV s ≤ 2147483647)
def signs2 : List (List UInt8) := [[60, 61], [62, 61], [61, 61], [33, 61], [38, 38], [124, 124]]
def signs1 : List UInt8 := [43, 45, 42, 47, 37, 60, 62, 61, 33, 40, 41, 123, 125, 44, 59, 58]
def signsL : List (List UInt8) := signs2 ++ signs1.map fun c => [c]
def signF (s : List UInt8) : Option (List UInt8) := signsL.find? fun x => x.isPrefixOf s
def tok1 (s : List UInt8) : Option (Nat × List UInt8) :=
 if namB (runP s) then some (1, runP s) else if numB (runP s) then some (2, runP s) else (signF s).map fun x => (3, x)
def cmt (s : List UInt8) : Bool := ([47, 47] : List UInt8).isPrefixOf s
def toksN : Nat → List UInt8 → Option (List (Nat × List UInt8))
 | 0, _ => some []
 | _ + 1, [] => some []
 | n + 1, c :: r => if isBlk c then toksN n r else if cmt (c :: r) then some [] else match tok1 (c :: r) with
  | none => none
  | some t => match toksN n ((c :: r).drop t.2.length) with
   | none => none
   | some l => some (t :: l)
def toksL (s : List UInt8) : Option (List (Nat × List UInt8)) := if s.all okC then toksN s.length s else none
theorem runP_pre (s : List UInt8) : runP s <+: s := List.takeWhile_prefix _
theorem namB_ne {s : List UInt8} (h : namB s = true) : s ≠ [] := by rintro rfl; cases h
theorem numB_ne {s : List UInt8} (h : numB s = true) : s ≠ [] := by
 rintro rfl
 unfold numB at h
 rw [Bool.and_eq_true, decide_eq_true_eq] at h
 have h1 := h.1
 rcases itoa_cases (digV [] : Int) with ⟨h2, _⟩ | ⟨_, e⟩
 ·omega
 ·rw [e] at h1
  exact dec_ne _ h1
theorem signF_mem {s x : List UInt8} (h : signF s = some x) : x ∈ signsL ∧ x <+: s := by
 unfold signF at h
 refine ⟨List.mem_of_find?_eq_some h, ?_⟩
 have := List.find?_some h
 exact List.isPrefixOf_iff_prefix.1 this
theorem signsL_ne : ∀ x ∈ signsL, x ≠ [] ∧ x.length ≤ 2 := by decide
theorem tok1_pre {s : List UInt8} {t : Nat × List UInt8} (h : tok1 s = some t) : t.2 <+: s ∧ t.2 ≠ [] := by
 unfold tok1 at h
 split at h
 ·rename_i h1
  cases h
  exact ⟨runP_pre s, namB_ne h1⟩
 ·split at h
  ·rename_i h1
   cases h
   exact ⟨runP_pre s, numB_ne h1⟩
  ·cases hs : signF s with
   | none => rw [hs] at h; cases h
   | some x =>
    rw [hs] at h
    cases h
    obtain ⟨h1, h2⟩ := signF_mem hs
    exact ⟨h2, (signsL_ne x h1).1⟩
theorem tok1_len {s : List UInt8} {t : Nat × List UInt8} (h : tok1 s = some t) : 1 ≤ t.2.length ∧ t.2.length ≤ s.length := by
 obtain ⟨h1, h2⟩ := tok1_pre h
 exact ⟨List.length_pos_iff.2 h2, h1.length_le⟩
theorem toksN_more : ∀ {n m : Nat} {s : List UInt8}, s.length ≤ n → s.length ≤ m → toksN n s = toksN m s
 | 0, 0, _, _, _ => rfl
 | 0, m + 1, s, h, _ => by
  have : s = [] := List.length_eq_zero_iff.1 (by omega)
  subst this; rfl
 | n + 1, 0, s, _, h => by
  have : s = [] := List.length_eq_zero_iff.1 (by omega)
  subst this; rfl
 | n + 1, m + 1, [], _, _ => rfl
 | n + 1, m + 1, c :: r, h1, h2 => by
  simp only [List.length_cons] at h1 h2
  unfold toksN
  rw [toksN_more (n := n) (m := m) (s := r) (by omega) (by omega)]
  split
  ·rfl
  ·split
   ·rfl
   ·cases ht : tok1 (c :: r) with
    | none => rfl
    | some t =>
     have := tok1_len ht
     have hd : ((c :: r).drop t.2.length).length ≤ r.length := by rw [List.length_drop]; simp only [List.length_cons]; omega
     dsimp only
     rw [toksN_more (n := n) (m := m) (by omega) (by omega)]
theorem toksN_cmt {n : Nat} {c : UInt8} {r : List UInt8} (h : isBlk c = false) (hc : cmt (c :: r) = true) : toksN n (c :: r) = some [] := by
 cases n with
 | zero => rfl
 | succ n => rw [toksN, if_neg (by rw [h]; simp), if_pos hc]
theorem toksN_bad {n : Nat} {c : UInt8} {r : List UInt8} (hn : (c :: r).length ≤ n) (h : isBlk c = false) (hc : cmt (c :: r) = false) (ht : tok1 (c :: r) = none) : toksN n (c :: r) = none := by
 obtain ⟨k, rfl⟩ : ∃ k, n = k + 1 := ⟨n - 1, by simp only [List.length_cons] at hn; omega⟩
 rw [toksN, if_neg (by rw [h]; simp), if_neg (by rw [hc]; simp), ht]
theorem toksN_tok {n : Nat} {c : UInt8} {r : List UInt8} {t : Nat × List UInt8} (hn : (c :: r).length ≤ n) (h : isBlk c = false) (hc : cmt (c :: r) = false) (ht : tok1 (c :: r) = some t) : toksN n (c :: r) = (toksN n ((c :: r).drop t.2.length)).map (t :: ·) := by
 obtain ⟨k, rfl⟩ : ∃ k, n = k + 1 := ⟨n - 1, by simp only [List.length_cons] at hn; omega⟩
 simp only [List.length_cons] at hn
 have h1 := tok1_len ht
 have hd : ((c :: r).drop t.2.length).length ≤ k := by rw [List.length_drop]; simp only [List.length_cons]; omega
 rw [toksN, if_neg (by rw [h]; simp), if_neg (by rw [hc]; simp), ht]
 dsimp only
 rw [toksN_more (n := k) (m := k + 1) hd (by omega)]
 cases toksN (k + 1) ((c :: r).drop t.2.length) <;> rfl
def Lexd (s : List UInt8) (i : Nat) (out : List (Nat × List UInt8)) : Prop := toksN s.length s = (toksN s.length (s.drop i)).map (out ++ ·)
theorem Lexd.zero (s : List UInt8) : Lexd s 0 [] := by
 unfold Lexd
 rw [List.drop_zero]
 cases toksN s.length s <;> simp
theorem Lexd.stop {s : List UInt8} {i : Nat} {out : List (Nat × List UInt8)} (h : Lexd s i out) (hi : s.length ≤ i) : toksN s.length s = some out := by
 unfold Lexd at h
 rw [h, List.drop_eq_nil_of_le hi]
 cases hn : s.length with
 | zero => simp [toksN]
 | succ n => simp [toksN]
theorem drop_at {s : List UInt8} {i : Nat} {c : UInt8} (hc : s[i]? = some c) : s.drop i = c :: s.drop (i + 1) := by
 have hlt : i < s.length := (List.getElem?_eq_some_iff.1 hc).1
 rw [List.drop_eq_getElem_cons hlt]
 congr 1
 exact (List.getElem?_eq_some_iff.1 hc).2
theorem Lexd.cmt {s : List UInt8} {i : Nat} {out : List (Nat × List UInt8)} (h : Lexd s i out) {c : UInt8} (hc : s[i]? = some c) (hb : isBlk c = false) (hm : cmt (s.drop i) = true) : toksN s.length s = some out := by
 have e := drop_at hc
 unfold Lexd at h
 rw [e] at h hm
 rw [h, toksN_cmt hb hm]
 simp
theorem Lexd.bad {s : List UInt8} {i : Nat} {out : List (Nat × List UInt8)} (h : Lexd s i out) {c : UInt8} (hc : s[i]? = some c) (hb : isBlk c = false) (hm : Fm.cmt (s.drop i) = false) (ht : tok1 (s.drop i) = none) : toksN s.length s = none := by
 have e := drop_at hc
 have hl : (s.drop i).length ≤ s.length := by rw [List.length_drop]; omega
 unfold Lexd at h
 rw [e] at h hm ht hl
 rw [h, toksN_bad hl hb hm ht]
 rfl
theorem Lexd.tok {s : List UInt8} {i : Nat} {out : List (Nat × List UInt8)} (h : Lexd s i out) {c : UInt8} (hc : s[i]? = some c) (hb : isBlk c = false) (hm : Fm.cmt (s.drop i) = false) {t : Nat × List UInt8} (ht : tok1 (s.drop i) = some t) : Lexd s (i + t.2.length) (out ++ [t]) := by
 have e := drop_at hc
 have hl : (s.drop i).length ≤ s.length := by rw [List.length_drop]; omega
 unfold Lexd at h ⊢
 have e2 : s.drop (i + t.2.length) = (s.drop i).drop t.2.length := by rw [List.drop_drop]
 rw [e2]
 rw [e] at h hm ht hl ⊢
 rw [h, toksN_tok hl hb hm ht]
 cases toksN s.length ((c :: s.drop (i + 1)).drop t.2.length) <;> simp
end Fm
namespace Go.Proofs.YtndpdhamadiopaaGreatDoor
open Go Go.Eng Go.Proofs
open Fm
open Go Go.Eng Go.Proofs
open Fm
def namBad (l : List UInt8) : Bool := match l with
 | [] => true
 | c :: _ => decide (32 < l.length) || isDig c
end Go.Proofs.YtndpdhamadiopaaGreatDoor
namespace Fm
open Go
def numBad (s : List UInt8) : Bool := decide (s.length < 1) || decide (10 < s.length) || (decide (1 < s.length) && decide (s.head? = some 48))
end Fm
namespace Go.Proofs
open Go.Shelf
def Tryz.laysM171_ren : Go.Shelf.Ren := ⟨fun | 171 => 272 | 243 => 284 | 246 => 312 | 283 => 323 | 284 => 324 | 285 => 325 | 286 => 326 | 129 => 159 | 317 => 329 | 318 => 330 | 319 => 331 | 320 => 332 | 337 => 333 | 338 => 334 | n => n, fun | 3 => 3 | 9 => 9 | 2 => 2 | 4 => 4 | 171 => 440 | 0 => 0 | 53 => 270 | 37 => 147 | 5 => 5 | 173 => 442 | 212 => 449 | 51 => 24 | 20 => 20 | 213 => 450 | 46 => 215 | 232 => 451 | 233 => 452 | n => n, fun | 17 => 6 | 18 => 7 | 19 => 8 | n => n⟩
def Tryz.laysC172_ren : Go.Shelf.Ren := ⟨fun | 172 => 271 | 244 => 282 | 245 => 283 | 247 => 307 | 279 => 308 | 280 => 309 | 281 => 310 | 282 => 311 | 287 => 320 | 316 => 321 | 171 => 272 | 205 => 322 | 321 => 327 | 322 => 328 | 243 => 284 | 246 => 312 | 283 => 323 | 284 => 324 | 285 => 325 | 286 => 326 | 129 => 159 | 317 => 329 | 318 => 330 | 319 => 331 | 320 => 332 | 337 => 333 | 338 => 334 | n => n, fun | 9 => 9 | 3 => 3 | 75 => 151 | 76 => 152 | 4 => 4 | 5 => 5 | 167 => 421 | 37 => 147 | 0 => 0 | 85 => 422 | 2 => 2 | 168 => 424 | 53 => 270 | 175 => 435 | 46 => 215 | 210 => 438 | 127 => 207 | 145 => 447 | 143 => 445 | 21 => 21 | 171 => 440 | 173 => 442 | 212 => 449 | 51 => 24 | 20 => 20 | 213 => 450 | 232 => 451 | 233 => 452 | 80 => 155 | n => n, fun | 15 => 4 | 16 => 5 | 17 => 6 | 18 => 7 | 19 => 8 | n => n⟩
theorem Tryz.laysC172 : Go.Proofs.LaysC.n172 Tryz.prog Tryz.laysC172_ren := {
 mixed := by kernel_rfl
 f129 := Tryz.func159.trans (congrArg some (by kernel_rfl))
 f171 := Tryz.func272.trans (congrArg some (by kernel_rfl))
 f172 := Tryz.func271.trans (congrArg some (by kernel_rfl))
 f205 := Tryz.func322.trans (congrArg some (by kernel_rfl))
 f243 := Tryz.func284.trans (congrArg some (by kernel_rfl))
 f244 := Tryz.func282.trans (congrArg some (by kernel_rfl))
 f245 := Tryz.func283.trans (congrArg some (by kernel_rfl))
 f246 := Tryz.func312.trans (congrArg some (by kernel_rfl))
 f247 := Tryz.func307.trans (congrArg some (by kernel_rfl))
 f279 := Tryz.func308.trans (congrArg some (by kernel_rfl))
 f280 := Tryz.func309.trans (congrArg some (by kernel_rfl))
 f281 := Tryz.func310.trans (congrArg some (by kernel_rfl))
 f282 := Tryz.func311.trans (congrArg some (by kernel_rfl))
 f283 := Tryz.func323.trans (congrArg some (by kernel_rfl))
 f284 := Tryz.func324.trans (congrArg some (by kernel_rfl))
 f285 := Tryz.func325.trans (congrArg some (by kernel_rfl))
 f286 := Tryz.func326.trans (congrArg some (by kernel_rfl))
 f287 := Tryz.func320.trans (congrArg some (by kernel_rfl))
 f316 := Tryz.func321.trans (congrArg some (by kernel_rfl))
 f317 := Tryz.func329.trans (congrArg some (by kernel_rfl))
 f318 := Tryz.func330.trans (congrArg some (by kernel_rfl))
 f319 := Tryz.func331.trans (congrArg some (by kernel_rfl))
 f320 := Tryz.func332.trans (congrArg some (by kernel_rfl))
 f321 := Tryz.func327.trans (congrArg some (by kernel_rfl))
 f322 := Tryz.func328.trans (congrArg some (by kernel_rfl))
 f337 := Tryz.func333.trans (congrArg some (by kernel_rfl))
 f338 := Tryz.func334.trans (congrArg some (by kernel_rfl))
 t0 := Tryz.underlying0
 a0 := Tryz.isAgg0
 z0 := Tryz.sizeOf0
 v0 := Tryz.zeroValue0
 t2 := Tryz.underlying2
 a2 := Tryz.isAgg2
 z2 := Tryz.sizeOf2
 v2 := Tryz.zeroValue2
 t3 := Tryz.underlying3
 a3 := Tryz.isAgg3
 z3 := Tryz.sizeOf3
 v3 := Tryz.zeroValue3
 t4 := Tryz.underlying4
 a4 := Tryz.isAgg4
 z4 := Tryz.sizeOf4
 v4 := Tryz.zeroValue4
 t5 := Tryz.underlying5
 a5 := Tryz.isAgg5
 z5 := Tryz.sizeOf5
 v5 := Tryz.zeroValue5
 t9 := Tryz.underlying9
 a9 := Tryz.isAgg9
 z9 := Tryz.sizeOf9
 v9 := Tryz.zeroValue9
 t20 := Tryz.underlying20
 a20 := Tryz.isAgg20
 z20 := Tryz.sizeOf20
 v20 := Tryz.zeroValue20
 t21 := Tryz.underlying21
 a21 := Tryz.isAgg21
 z21 := Tryz.sizeOf21
 v21 := Tryz.zeroValue21
 t37 := Tryz.underlying147
 a37 := Tryz.isAgg147
 z37 := Tryz.sizeOf147
 v37 := Tryz.zeroValue147
 t46 := Tryz.underlying215
 a46 := Tryz.isAgg215
 z46 := Tryz.sizeOf215
 v46 := Tryz.zeroValue215
 t51 := Tryz.underlying24
 a51 := Tryz.isAgg24
 z51 := Tryz.sizeOf24
 v51 := Tryz.zeroValue24
 t53 := Tryz.underlying270
 a53 := Tryz.isAgg270
 z53 := Tryz.sizeOf270
 v53 := Tryz.zeroValue270
 t75 := Tryz.underlying151
 a75 := Tryz.isAgg151
 z75 := Tryz.sizeOf151
 v75 := Tryz.zeroValue151
 t76 := Tryz.underlying152
 a76 := Tryz.isAgg152
 z76 := Tryz.sizeOf152
 v76 := Tryz.zeroValue152
 t85 := Tryz.underlying422
 a85 := Tryz.isAgg422
 z85 := Tryz.sizeOf422
 v85 := Tryz.zeroValue422
 t127 := Tryz.underlying207
 a127 := Tryz.isAgg207
 z127 := Tryz.sizeOf207
 v127 := Tryz.zeroValue207
 t143 := Tryz.underlying445
 a143 := Tryz.isAgg445
 z143 := Tryz.sizeOf445
 v143 := Tryz.zeroValue445
 t145 := Tryz.underlying447
 a145 := Tryz.isAgg447
 z145 := Tryz.sizeOf447
 v145 := Tryz.zeroValue447
 t167 := Tryz.underlying421
 a167 := Tryz.isAgg421
 z167 := Tryz.sizeOf421
 v167 := Tryz.zeroValue421
 t168 := Tryz.underlying424
 a168 := Tryz.isAgg424
 z168 := Tryz.sizeOf424
 v168 := Tryz.zeroValue424
 t171 := Tryz.underlying440
 a171 := Tryz.isAgg440
 z171 := Tryz.sizeOf440
 v171 := Tryz.zeroValue440
 t173 := Tryz.underlying442
 a173 := Tryz.isAgg442
 z173 := Tryz.sizeOf442
 v173 := Tryz.zeroValue442
 t175 := Tryz.underlying435
 a175 := Tryz.isAgg435
 z175 := Tryz.sizeOf435
 v175 := Tryz.zeroValue435
 t210 := Tryz.underlying438
 a210 := Tryz.isAgg438
 z210 := Tryz.sizeOf438
 v210 := Tryz.zeroValue438
 t212 := Tryz.underlying449
 a212 := Tryz.isAgg449
 z212 := Tryz.sizeOf449
 v212 := Tryz.zeroValue449
 t213 := Tryz.underlying450
 a213 := Tryz.isAgg450
 z213 := Tryz.sizeOf450
 t232 := Tryz.underlying451
 a232 := Tryz.isAgg451
 z232 := Tryz.sizeOf451
 v232 := Tryz.zeroValue451
 t233 := Tryz.underlying452
 a233 := Tryz.isAgg452
 z233 := Tryz.sizeOf452
 v233 := Tryz.zeroValue452
 g15 := by kernel_rfl
 g16 := by kernel_rfl
 g17 := by kernel_rfl
 g18 := by kernel_rfl
 g19 := by kernel_rfl
 t80 := Tryz.underlying155
 a80 := Tryz.isAgg155
 z80 := Tryz.sizeOf155
 v80 := Tryz.zeroValue155
 i0 := by kernel_rfl
 i2 := by kernel_rfl
 i3 := by kernel_rfl
 i4 := by kernel_rfl
 i5 := by kernel_rfl
 i9 := by kernel_rfl
 i20 := by kernel_rfl
 i21 := by kernel_rfl
 i37 := by kernel_rfl
 i46 := by kernel_rfl
 i51 := by kernel_rfl
 i53 := by kernel_rfl
 i75 := by kernel_rfl
 i76 := by kernel_rfl
 i80 := by kernel_rfl
 i85 := by kernel_rfl
 i127 := by kernel_rfl
 i143 := by kernel_rfl
 i145 := by kernel_rfl
 i167 := by kernel_rfl
 i168 := by kernel_rfl
 i171 := by kernel_rfl
 i173 := by kernel_rfl
 i175 := by kernel_rfl
 i210 := by kernel_rfl
 i212 := by kernel_rfl
 i232 := by kernel_rfl
 i233 := by kernel_rfl
 m15 := by kernel_rfl
 m16 := by kernel_rfl
 m17 := by kernel_rfl
 m18 := by kernel_rfl
 m19 := by kernel_rfl
 c0 := by kernel_rfl
 c2 := by kernel_rfl
 c3 := by kernel_rfl
 c4 := by kernel_rfl
 c5 := by kernel_rfl
 c9 := by kernel_rfl
 c20 := by kernel_rfl
 c21 := by kernel_rfl
 c37 := by kernel_rfl
 c46 := by kernel_rfl
 c51 := by kernel_rfl
 c53 := by kernel_rfl
 c75 := by kernel_rfl
 c76 := by kernel_rfl
 c80 := by kernel_rfl
 c85 := by kernel_rfl
 c127 := by kernel_rfl
 c143 := by kernel_rfl
 c145 := by kernel_rfl
 c167 := by kernel_rfl
 c168 := by kernel_rfl
 c171 := by kernel_rfl
 c173 := by kernel_rfl
 c175 := by kernel_rfl
 c210 := by kernel_rfl
 c212 := by kernel_rfl
 c213 := by kernel_rfl
 c232 := by kernel_rfl
 c233 := by kernel_rfl }
open Go.RowKit in
theorem Tryz.strconv_Atoi_ok (s : ByteArray) (hmax : s.size ≤ 9223372036854775806) (v : Int) (h : Lib.atoiAll s.data.toList = .ok v) (w : World) :
  Calls Tryz.prog 271 #[.string s] w fun e w' => e = .returned (.tuple #[.int .i64 v, .nilIface]) ∧ (w' = w ∨ ∃ t, w' = Lib.bytesWorld w 5 t) := Any.strconv_Atoi_ok Tryz.laysC172 s hmax v h w
open Go.RowKit in
theorem Tryz.strconv_Atoi_syntax (s : ByteArray) (hlim : s.size ≤ 281474976710656) (h : Lib.atoiAll s.data.toList = Lib.NumEnd.syntax) (ev : Value) (w : World) (hv : w.cell? ⟨4, 0, none⟩ = some ev) (hev : ev = .nilIface ∨ ∃ te pe, ev = .iface te pe) :
  Calls Tryz.prog 271 #[.string s] w fun e w' => ∃ N, e = .returned (.tuple #[.int .i64 (0), .iface 424 (.pointer (some ⟨N, 0, none⟩))]) ∧ w.heap.size ≤ N ∧ w'.heap[N]? = some (.cells #[.string ⟨#[65, 116, 111, 105]⟩, .string s, ev] 438 (0, 0)) ∧ Below w.heap.size w w' := Any.strconv_Atoi_syntax Tryz.laysC172 s hlim h ev w hv hev
open Go.RowKit in
theorem Tryz.strconv_Atoi_range (s : ByteArray) (hlim : s.size ≤ 281474976710656) (h : Lib.atoiAll s.data.toList = .range) (ev : Value) (w : World) (hv : w.cell? ⟨5, 0, none⟩ = some ev) (hev : ev = .nilIface ∨ ∃ te pe, ev = .iface te pe) :
  Calls Tryz.prog 271 #[.string s] w fun e w' => ∃ N, e = .returned (.tuple #[.int .i64 (Lib.atoiSat s.data.toList), .iface 424 (.pointer (some ⟨N, 0, none⟩))]) ∧ w.heap.size ≤ N ∧ w'.heap[N]? = some (.cells #[.string ⟨#[65, 116, 111, 105]⟩, .string s, ev] 438 (0, 0)) ∧ Below w.heap.size w w' := Any.strconv_Atoi_range Tryz.laysC172 s hlim h ev w hv hev
end Go.Proofs
namespace Go.Proofs.YtndpdhamadiopaaGreatDoor
open Go Go.Eng Go.Proofs Go.RowKit Fm
def Tab (w : World) : Prop := Lib.TabIs Tryz.prog w "internal/strconv.uint64pow10" .u64 Lib.pow10Tab
theorem Tab.next {w0 w : World} {C : List Chunk} (h : Tab w0) (hS : St w0 [] C w) : Tab w := by
 unfold Tab Lib.TabIs World.var? at h ⊢
 cases hg : Tryz.prog.globalNamed "internal/strconv.uint64pow10" with
 | none => rw [hg] at h; cases h
 | some g =>
  rw [hg] at h
  simp only [Option.bind_some] at h ⊢
  have hlt : g < w0.heap.size := by
   rcases Nat.lt_or_ge g w0.heap.size with hl | hl
   ·exact hl
   ·rw [Array.getElem?_eq_none hl] at h; cases h
  rw [hS.old g hlt (by simp)]
  exact h
structure LibW (w : World) : Prop where
 tab : Tab w
 es : ∃ ev, w.cell? ⟨4, 0, none⟩ = some ev ∧ (ev = .nilIface ∨ ∃ te pe, ev = .iface te pe)
 er : ∃ ev, w.cell? ⟨5, 0, none⟩ = some ev ∧ (ev = .nilIface ∨ ∃ te pe, ev = .iface te pe)
theorem LibW.next {w0 w : World} {C : List Chunk} (h : LibW w0) (hS : St w0 [] C w) : LibW w := by
 obtain ⟨e1, h1, h1'⟩ := h.es
 obtain ⟨e2, h2, h2'⟩ := h.er
 exact ⟨h.tab.next hS, ⟨e1, hS.oldc h1 (by simp), h1'⟩, ⟨e2, hS.oldc h2 (by simp), h2'⟩⟩
def AtoiIs (s : List UInt8) (v : Int) (er : Value) : Prop := (er = .nilIface ∧ Lib.atoiAll s = .ok v) ∨ ((∃ t p, er = .iface t p) ∧ ∀ x, Lib.atoiAll s ≠ .ok x)
open Go Go.Eng Go.Proofs
open Fm
def namF (s : List UInt8) : Option (Nat × List UInt8) := if namB (runP s) then some (1, runP s) else none
def numF (s : List UInt8) : Option (Nat × List UInt8) := if numB (runP s) then some (2, runP s) else none
def sgnF (s : List UInt8) : Option (Nat × List UInt8) := (signF s).map fun x => (3, x)
abbrev kt (o : Option (Nat × List UInt8)) : Value := match o with
 | some t => .tuple #[.int .u8 (t.1 : Int), .string (str t.2)]
 | none => .tuple #[.int .u8 0, .string (str [])]
open Go Go.Eng Go.Proofs
open Fm
def sgV : List Value := signsL.map fun x => Value.string (str x)
def SgW (w : World) : Prop := ∀ j v, sgV[j]? = some v → w.cell? ⟨0, j, none⟩ = some v
theorem SgW.next {w0 w : World} {C : List Chunk} (h : SgW w0) (hS : St w0 [] C w) : SgW w := fun j v hv => hS.oldc (h j v hv) (by simp)
open Go Go.Eng Go.Proofs Dg
theorem RdSl.of_pt {α : Type} {cells : α → List Value} {sz : Nat} {w : World} {l : List α} {b : Nat} {e : TypeId} (hl : ∀ x ∈ l, (cells x).length = sz) (h : (pt b (l.flatMap cells) e).ok w) : RdSl cells sz w l (some ⟨b, 0, none⟩) := fun i x hx => by
 refine ⟨b, 0, rfl, fun j u hu => ?_⟩
 rw [Nat.zero_add]
 exact cell_of_heap h (flat_at hl hx j u hu)
structure TwoR (x y : RwV) (u : Nat) : Prop where
 uu : u < 4294967296
 xi : x.i.length < 300
 xn : x.n.length < 300
 yi : y.i.length < 300
 yn : y.n.length < 300
 xp : ∀ z ∈ x.i, z.p.length ≤ 1000000000
 xq : ∀ z ∈ x.n, z.p.length ≤ 1000000000
 yp : ∀ z ∈ y.i, z.p.length ≤ 1000000000
 yq : ∀ z ∈ y.n, z.p.length ≤ 1000000000
 xt : ∀ z ∈ x.i, z.t.length ≤ 31000
 xu : ∀ z ∈ x.i, inU z.q u
 xv : ∀ z ∈ x.n, inU z.q u
 yu : ∀ z ∈ y.i, inU z.q u
 yv : ∀ z ∈ y.n, inU z.q u
theorem TwoR.of {x y : RwV} {uu n : Nat} (hu : uu < 16777216) (hn : n < 300) (h : ∀ z ∈ [x, y], RbR uu n z) : TwoR x y uu := by
 have hx := h x (by simp)
 have hy := h y (by simp)
 have nx := hx.nn
 have ny := hy.nn
 exact {
  uu := by omega
  xi := by omega
  xn := by omega
  yi := by omega
  yn := by omega
  xp := fun z hz => by have := (hx.i z hz).nn; omega
  xq := fun z hz => by have := (hx.o z hz).nn; omega
  yp := fun z hz => by have := (hy.i z hz).nn; omega
  yq := fun z hz => by have := (hy.o z hz).nn; omega
  xt := fun z hz => by have := (hx.i z hz).nn; omega
  xu := fun z hz => (hx.i z hz).b.inU
  xv := fun z hz => (hx.o z hz).b.inU
  yu := fun z hz => (hy.i z hz).b.inU
  yv := fun z hz => (hy.o z hz).b.inU }
theorem RdSl.at_ {α : Type} {cells : α → List Value} {sz : Nat} {w : World} {l : List α} {a : Option Addr} {b o : Nat} (h : RdSl cells sz w l a) (ha : a = some ⟨b, o, none⟩) {i : Nat} {x : α} (hx : l[i]? = some x) {j : Nat} {u : Value} (hu : (cells x)[j]? = some u) : w.cell? ⟨b, o + i * sz + j, none⟩ = some u := by
 obtain ⟨b2, o2, e, hc⟩ := h i x hx
 rw [ha] at e
 cases e
 exact hc j u hu
def ptR (rs : List RtV) : Nat → List RtV
 | 0 => []
 | k + 1 => match rs[k]? with
  | none => ptR rs k
  | some y => if (ptR rs k).any (fun z => decide (z.c = y.c)) then ptR rs k else ptR rs k ++ [y]
abbrev crC (y : RtV) : List Value := [.slice y.ca y.c.length y.cc]
theorem thoseL_32 {q : List QB} {u : Nat} : ∀ z ∈ thoseL q u, z < 4294967296 := fun z hz => cfgsN_32 (Nat.le_refl 32) (List.mem_filter.1 hz).1
structure TeLG where
 i : Nat
 ca : Option Addr
 cc : Nat
 fa : Option Addr
 fc : Nat
theorem mem_take_succ {l : List Nat} {i n x : Nat} (hx : l[i]? = some x) (h : n ∉ l.take i) (hne : n ≠ x) : n ∉ l.take (i + 1) := by
 rw [List.take_add_one, hx]
 simp [h, hne]
theorem rHas6_c (l : List Nat) (a : Option Addr) (c n : Nat) (hl : l.length ≤ 1000000000000000) (w : World) (hr : RdN w l a) :
  Pure Tryz.prog 70 [.slice a l.length c, .int .u32 (n : Int)] w (.bool (decide (n ∈ l))) := by
 refine enter Tryz.func70 rfl Tryz.ntmps70 rfl (St.init _) ?_
 refine jN 14 ?_
 refine WC.loop (α := Nat) (fun i => i ≤ l.length ∧ n ∉ l.take i) (fun i => [(0, .slice a l.length c), (1, .int .u32 (n : Int)), (5, .int .i64 (i : Int))]) (fun _ => []) (fun i => l.length - i) (0) ?_ ?_ ?_ ?_
 ·exact ⟨Nat.zero_le _, by simp⟩
 ·exact ⟨rfl, rfl, rfl, trivial⟩
 ·rfl
 rintro i ⟨hi, hno⟩
 refine jN 13 ?_
 refine WC.cond rfl (fun h9 => ?_) (fun h9 => ?_)
 ·have hlt : i < l.length := by simpa using h9
  obtain ⟨x, hx⟩ : ∃ z, l[i]? = some z := ⟨_, List.getElem?_eq_getElem hlt⟩
  obtain ⟨b, o, rfl, hcx⟩ := hr i x hx
  refine jN 11 ?_
  refine WL.indexAddr F.sl53 rfl rfl rfl hlt ?_
  refine jN 1 ?_
  refine WL.load1 F.one24 rfl rfl (v := .int .u32 (x : Int)) (fun w hS => hS.oldc (hcx 0 _ rfl) (by simp)) ?_
  refine jN 6 ?_
  refine WC.cond rfl (fun h17 => ?_) (fun h17 => ?_)
  ·have hnx : n = x := by have h9 := beq_iff_eq.1 h17; omega
   have hb : decide (n ∈ l) = true := decide_eq_true (by rw [hnx]; exact List.mem_of_getElem? hx)
   refine jN 12 ?_
   exact WQ.ret (rs := [.tmp 4]) rfl (.tmp rfl .nil) (fun w hS => ⟨by rw [hb]; rfl, hS.sublist (List.nil_sublist _)⟩)
  ·have hne : n ≠ x := by rintro rfl; simp at h17
   refine jN 11 ?_
   refine WQ.back (i + 1) ?_ ?_ ?_ ?_
   ·exact ⟨hlt, mem_take_succ hx hno hne⟩
   ·omega
   ·exact ⟨rfl, rfl, rfl, trivial⟩
   ·rfl
 ·have hie : i = l.length := by simp at h9; omega
  have hb : decide (n ∈ l) = false := decide_eq_false (by rw [hie, List.take_length] at hno; exact hno)
  refine jN 12 ?_
  exact WQ.ret (rs := [.tmp 4]) rfl (.tmp rfl .nil) (fun w hS => ⟨by rw [hb]; rfl, hS.sublist (List.nil_sublist _)⟩)
def ofR (n : Nat) (rs : List RtV) : List RtV := rs.filter fun r => decide (n ∈ r.c)
theorem ofR_T {n i : Nat} {rs : List RtV} {r : RtV} (h : rs[i]? = some r) (hb : decide (n ∈ r.c) = true) : ofR n (rs.take (i + 1)) = ofR n (rs.take i) ++ [r] := by
 unfold ofR
 exact filter_take_T (fun r => decide (n ∈ r.c)) h hb
theorem ofR_F {n i : Nat} {rs : List RtV} {r : RtV} (h : rs[i]? = some r) (hb : decide (n ∈ r.c) = false) : ofR n (rs.take (i + 1)) = ofR n (rs.take i) := by
 unfold ofR
 exact filter_take_F (fun r => decide (n ∈ r.c)) h hb
theorem ofR_len (n i : Nat) (rs : List RtV) : (ofR n (rs.take i)).length ≤ i := Nat.le_trans (List.length_filter_le _ _) (List.length_take_le _ _)
def sameKT (x y : RtV) : Bool := decide (x.x.k = y.x.k) && decide (x.x.t = y.x.t)
structure OfG where
 i : Nat
 a : Option Addr
 c : Nat
set_option maxRecDepth 100000 in
theorem rOf6_c (rs : List RtV) (hl : rs.length ≤ 1000) (ra : Option Addr) (rc n : Nat) (w : World) (hr : RdSl rtC 6 w rs ra) (hd : ∀ t ∈ rs, RdN w t.c t.ca ∧ t.c.length ≤ 1000000000000000) :
  Calls Tryz.prog 22 [.slice ra rs.length rc, .int .u32 (n : Int)].toArray w fun e w' => ∃ x : Option Addr × Nat, e = .returned (.slice x.1 (ofR n rs).length x.2) ∧ St w [] [rowc (.slice x.1 (ofR n rs).length x.2) (ofR n rs).length 73 6 ((ofR n rs).flatMap rtC)] w' := by
 refine enter Tryz.func22 rfl Tryz.ntmps22 rfl (St.init _) ?_
 refine jN 20 ?_
 refine WC.chunks (C' := [rowc (.slice none 0 0) 0 73 6 []]) (fun w hS => (jK (hS.rowNil 73 6))) ?_
 refine WC.loop (α := OfG) (fun g => g.i ≤ rs.length) (fun g => [(0, .slice ra rs.length rc), (1, .int .u32 (n : Int)), (5, .slice g.a (ofR n (rs.take g.i)).length g.c), (6, .int .i64 (g.i : Int))]) (fun g => [rowc (.slice g.a (ofR n (rs.take g.i)).length g.c) (ofR n (rs.take g.i)).length 73 6 ((ofR n (rs.take g.i)).flatMap rtC)]) (fun g => rs.length - g.i) (⟨0, none, 0⟩) ?_ ?_ ?_ ?_
 ·exact Nat.zero_le _
 ·exact ⟨rfl, rfl, rfl, rfl, trivial⟩
 ·rfl
 rintro ⟨i, a, c⟩ hi
 dsimp only at hi
 show WC _ _ _ _ _ _ _ [(0, .slice ra rs.length rc), (1, .int .u32 (n : Int)), (5, .slice a (ofR n (rs.take i)).length c), (6, .int .i64 (i : Int))] [rowc (.slice a (ofR n (rs.take i)).length c) (ofR n (rs.take i)).length 73 6 ((ofR n (rs.take i)).flatMap rtC)]
 have hln := ofR_len n i rs
 refine jN 13 ?_
 refine WC.cond rfl (fun h10 => ?_) (fun h10 => ?_)
 ·have hlt : i < rs.length := by simpa using h10
  obtain ⟨r, hr9⟩ : ∃ z, rs[i]? = some z := ⟨_, List.getElem?_eq_getElem hlt⟩
  have hrm := List.mem_of_getElem? hr9
  obtain ⟨b, o, rfl, hcx⟩ := hr i r hr9
  refine jN 11 ?_
  refine WL.indexAddr F.sl34 rfl rfl rfl hlt ?_
  refine jN 1 ?_
  refine WL.fieldAddr F.fld73_5 rfl rfl ?_
  refine jN 1 ?_
  refine WL.load1 F.one53 rfl rfl (v := .slice r.ca r.c.length r.cc) (fun w hS => hS.oldc (hcx 5 _ rfl) (by simp)) ?_
  refine jN 3 ?_
  refine WL.callV F.fun70 rfl rfl (fun w hS => rHas6_c r.c r.ca r.cc n (hd r hrm).2 w ((hd r hrm).1.next hS)) ?_
  refine jN 2 ?_
  refine WC.cond rfl (fun h19 => ?_) (fun h19 => ?_)
  ·refine jN 8 ?_
   refine WL.indexAddr F.sl34 rfl rfl rfl hlt ?_
   refine jN 1 ?_
   refine WL.loadN F.agg73 rfl rfl (vs := rtC r) rfl (fun w hS j v hv => hS.oldc (hcx j v hv) (by simp)) ?_
   refine jN 1 ?_
   refine WL.buildSlice F.sl34 F.ez34 rfl rfl rfl rfl jB rfl (fun b25 => ?_)
   refine jN 1 ?_
   refine WL.appendE (news := rtC r) F.el34 rfl rfl rfl jR (fun w hS jj u hu => by rw [Nat.zero_add]; exact hS.cell (cs := rtC r) jM hu) rfl jO (Nat.le_trans (m := 2000) (by omega) (by decide)) (by omega) (fun a2 c2 => ?_)
   refine jN 13 ?_
   refine WQ.chunks (C' := [rowc (.slice a2 ((ofR n (rs.take i)).length + 1) c2) ((ofR n (rs.take i)).length + 1) 73 6 ((ofR n (rs.take i)).flatMap rtC ++ rtC r)]) (fun w hS => (jK hS)) ?_
   have hs := ofR_T hr9 h19
   refine WQ.back (⟨i + 1, a2, c2⟩ : OfG) ?_ ?_ ?_ ?_
   ·show i + 1 ≤ rs.length; omega
   ·show rs.length - (i + 1) < rs.length - i; omega
   ·simp only [hs, List.length_append, List.length_cons, List.length_nil]; exact ⟨rfl, rfl, rfl, rfl, trivial⟩
   ·simp only [hs, List.length_append, List.length_cons, List.length_nil, List.flatMap_append]; rfl
  ·refine jN 11 ?_
   refine WQ.chunks (C' := [rowc (.slice a (ofR n (rs.take i)).length c) (ofR n (rs.take i)).length 73 6 ((ofR n (rs.take i)).flatMap rtC)]) (fun w hS => (jK hS)) ?_
   have hs := ofR_F hr9 h19
   refine WQ.back (⟨i + 1, a, c⟩ : OfG) ?_ ?_ ?_ ?_
   ·show i + 1 ≤ rs.length; omega
   ·show rs.length - (i + 1) < rs.length - i; omega
   ·simp only [hs]; exact ⟨rfl, rfl, rfl, rfl, trivial⟩
   ·simp only [hs]
 ·have hie : i = rs.length := by simp at h10; omega
  subst hie
  rw [List.take_length]
  refine jN 14 ?_
  exact WQ.ret (rs := [.tmp 4]) rfl (.tmp rfl .nil) (fun w hS => ⟨(a, c), rfl, hS⟩)
set_option maxRecDepth 100000 in
theorem rAlike6_c (l m : List RtV) (a a2 : Option Addr) (c c2 : Nat) (hll : l.length ≤ 1000000000) (w : World) (h1 : RdSl rtC 6 w l a) (h2 : RdSl rtC 6 w m a2) :
  Pure Tryz.prog 21 [.slice a l.length c, .slice a2 m.length c2] w (.bool (eqBy sameKT l m)) := by
 refine enter Tryz.func21 rfl Tryz.ntmps21 rfl (St.init _) ?_
 refine jN 21 ?_
 refine WC.cond rfl (fun h10 => ?_) (fun h10 => ?_)
 ·have hb : eqBy sameKT l m = false := eqBy_ne (by intro e; rw [e] at h10; simp at h10)
  refine jN 8 ?_
  exact WQ.ret (rs := [.tmp 4]) rfl (.tmp rfl .nil) (fun w hS => ⟨by rw [hb]; rfl, hS.sublist (List.nil_sublist _)⟩)
 ·have hlm : l.length = m.length := by simp at h10; omega
  refine jN 10 ?_
  refine WC.loop (α := Nat) (fun i => i ≤ l.length ∧ eqBy sameKT l m = eqBy sameKT (l.drop i) (m.drop i)) (fun i => [(0, .slice a l.length c), (1, .slice a2 m.length c2), (5, .int .i64 (i : Int))]) (fun _ => []) (fun i => l.length - i) (0) ?_ ?_ ?_ ?_
  ·exact ⟨Nat.zero_le _, rfl⟩
  ·exact ⟨rfl, rfl, rfl, trivial⟩
  ·rfl
  rintro i ⟨hi, he⟩
  refine jN 13 ?_
  refine WC.cond rfl (fun h14 => ?_) (fun h14 => ?_)
  ·have hlt : i < l.length := by simpa using h14
   have hlt2 : i < m.length := by omega
   obtain ⟨x, hx⟩ : ∃ x, l[i]? = some x := ⟨_, List.getElem?_eq_getElem hlt⟩
   obtain ⟨y, hy⟩ : ∃ x, m[i]? = some x := ⟨_, List.getElem?_eq_getElem hlt2⟩
   obtain ⟨b, o, rfl, hcx⟩ := h1 i x hx
   obtain ⟨b2, o2, rfl, hcy⟩ := h2 i y hy
   have hat := eqBy_at hx hy he
   refine jN 5 ?_
   refine WC.draws [([], fun w => w.cell? ⟨b, o + i * 6 + 0, none⟩ = some (.int .u8 (x.x.k : Int))), ([], fun w => w.cell? ⟨b2, o2 + i * 6 + 0, none⟩ = some (.int .u8 (y.x.k : Int))), ([], fun w => w.cell? ⟨b, o + i * 6 + 1, none⟩ = some (.string (str x.x.t))), ([], fun w => w.cell? ⟨b2, o2 + i * 6 + 1, none⟩ = some (.string (str y.x.t)))] (by kernel_rfl) (fun w hS => facts_cons (hS.oldc (hcx 0 _ rfl) (by simp)) (facts_cons (hS.oldc (hcy 0 _ rfl) (by simp)) (facts_cons (hS.oldc (hcx 1 _ rfl) (by simp)) (facts_cons (hS.oldc (hcy 1 _ rfl) (by simp)) (facts_nil))))) ?_
   refine jT 0 rfl (Yl.move rfl) ?_
   refine jT 1 rfl (Yl.move rfl) ?_
   refine jT 2 rfl (Yl.indexAddr F.sl34 rfl rfl hlt) ?_
   refine jT 3 rfl (Yl.fieldAddr F.fld73_0 rfl) ?_
   refine jF 4 0 rfl rfl (Yl.load1 F.one5 rfl) ?_
   refine jT 5 rfl (Yl.move rfl) ?_
   refine jT 6 rfl (Yl.move rfl) ?_
   refine jT 7 rfl (Yl.indexAddr F.sl34 rfl rfl hlt2) ?_
   refine jT 8 rfl (Yl.fieldAddr F.fld73_0 rfl) ?_
   refine jF 9 1 rfl rfl (Yl.load1 F.one5 rfl) ?_
   refine jT 10 rfl (Yl.neI rfl rfl) ?_
   refine jT 11 rfl (Yl.move rfl) ?_
   refine fun hcl => WA.splitB (i := 28) rfl (fun g28 => ?_) (fun g28 => ?_)
   ·refine (show WD _ _ _ _ _ _ _ _ _ _ _ _ from ?_) hcl
    have hxy : sameKT x y = false := by
     unfold sameKT
     rw [decide_eq_false (p := x.x.k = y.x.k) (by intro e; rw [e] at g28; simp at g28), Bool.false_and]
    refine WD.skip (i := 12) rfl rfl rfl rfl rfl rfl rfl (by decide +kernel) (by decide +kernel) (by decide +kernel) (fun _ _ _ h => h) (by kernel_rfl) ?_
    refine WD.skip (i := 13) rfl rfl rfl rfl rfl rfl rfl (by decide +kernel) (by decide +kernel) (by decide +kernel) (fun _ _ _ h => h) (by kernel_rfl) ?_
    refine WD.skip (i := 14) rfl rfl rfl rfl rfl rfl rfl (by decide +kernel) (by decide +kernel) (by decide +kernel) (fun _ _ _ h => h) (by kernel_rfl) ?_
    refine WD.skip (i := 15) rfl rfl rfl rfl rfl rfl rfl (by decide +kernel) (by decide +kernel) (by decide +kernel) (fun _ _ _ h => h) (by kernel_rfl) ?_
    refine WD.skip (i := 16) rfl rfl rfl rfl rfl rfl rfl (by decide +kernel) (by decide +kernel) (by decide +kernel) (fun _ _ _ h => h) (by kernel_rfl) ?_
    refine WD.skip (i := 17) rfl rfl rfl rfl rfl rfl rfl (by decide +kernel) (by decide +kernel) (by decide +kernel) (fun _ _ _ h => h) (by kernel_rfl) ?_
    refine WD.skip (i := 18) rfl rfl rfl rfl rfl rfl rfl (by decide +kernel) (by decide +kernel) (by decide +kernel) (fun _ _ _ h => h) (by kernel_rfl) ?_
    refine WD.skip (i := 19) rfl rfl rfl rfl rfl rfl rfl (by decide +kernel) (by decide +kernel) (by decide +kernel) (fun _ _ _ h => h) (by kernel_rfl) ?_
    refine WD.skip (i := 20) rfl rfl rfl rfl rfl rfl rfl (by decide +kernel) (by decide +kernel) (by decide +kernel) (fun _ _ _ h => h) (by kernel_rfl) ?_
    refine WD.skip (i := 21) rfl rfl rfl rfl rfl rfl rfl (by decide +kernel) (by decide +kernel) (by decide +kernel) (fun _ _ _ h => h) (by kernel_rfl) ?_
    refine WD.skip (i := 22) rfl rfl rfl rfl rfl rfl rfl (by decide +kernel) (by decide +kernel) (by decide +kernel) (fun _ _ _ h => h) (by kernel_rfl) ?_
    refine jT 23 rfl (Yl.pickT rfl rfl) ?_
    refine jD ?_
    refine jN 14 ?_
    exact WQ.ret (rs := [.tmp 4]) rfl (.tmp rfl .nil) (fun w hS => ⟨by rw [show eqBy sameKT l m = false by (rw [hat, hxy]; rfl)]; rfl, hS.sublist (List.nil_sublist _)⟩)
   ·refine (show WD _ _ _ _ _ _ _ _ _ _ _ _ from ?_) hcl
    have hk : decide (x.x.k = y.x.k) = true := decide_eq_true (by simp at g28; omega)
    refine WD.takeG (i := 12) rfl rfl rfl rfl rfl rfl (by decide +kernel) (by decide +kernel) (by decide +kernel) (fun _ _ _ h => h) (by kernel_rfl) need_none (Yl.move rfl) ?_
    refine WD.takeG (i := 13) rfl rfl rfl rfl rfl rfl (by decide +kernel) (by decide +kernel) (by decide +kernel) (fun _ _ _ h => h) (by kernel_rfl) need_none (Yl.move rfl) ?_
    refine WD.takeG (i := 14) rfl rfl rfl rfl rfl rfl (by decide +kernel) (by decide +kernel) (by decide +kernel) (fun _ _ _ h => h) (by kernel_rfl) need_none (Yl.indexAddr F.sl34 rfl rfl hlt) ?_
    refine WD.takeG (i := 15) rfl rfl rfl rfl rfl rfl (by decide +kernel) (by decide +kernel) (by decide +kernel) (fun _ _ _ h => h) (by kernel_rfl) need_none (Yl.fieldAddr F.fld73_1 rfl) ?_
    refine WD.takeG (i := 16) rfl rfl rfl rfl rfl rfl (by decide +kernel) (by decide +kernel) (by decide +kernel) (fun _ _ _ h => h) (by kernel_rfl) (need_at2 2 rfl (by decide +kernel)) (Yl.load1 F.one9 rfl) ?_
    refine WD.takeG (i := 17) rfl rfl rfl rfl rfl rfl (by decide +kernel) (by decide +kernel) (by decide +kernel) (fun _ _ _ h => h) (by kernel_rfl) need_none (Yl.move rfl) ?_
    refine WD.takeG (i := 18) rfl rfl rfl rfl rfl rfl (by decide +kernel) (by decide +kernel) (by decide +kernel) (fun _ _ _ h => h) (by kernel_rfl) need_none (Yl.move rfl) ?_
    refine WD.takeG (i := 19) rfl rfl rfl rfl rfl rfl (by decide +kernel) (by decide +kernel) (by decide +kernel) (fun _ _ _ h => h) (by kernel_rfl) need_none (Yl.indexAddr F.sl34 rfl rfl hlt2) ?_
    refine WD.takeG (i := 20) rfl rfl rfl rfl rfl rfl (by decide +kernel) (by decide +kernel) (by decide +kernel) (fun _ _ _ h => h) (by kernel_rfl) need_none (Yl.fieldAddr F.fld73_1 rfl) ?_
    refine WD.takeG (i := 21) rfl rfl rfl rfl rfl rfl (by decide +kernel) (by decide +kernel) (by decide +kernel) (fun _ _ _ h => h) (by kernel_rfl) (need_at2 3 rfl (by decide +kernel)) (Yl.load1 F.one9 rfl) ?_
    refine WD.takeG (i := 22) rfl rfl rfl rfl rfl rfl (by decide +kernel) (by decide +kernel) (by decide +kernel) (fun _ _ _ h => h) (by kernel_rfl) need_none (Yl.neS rfl rfl) ?_
    refine jT 23 rfl (Yl.pickF rfl rfl) ?_
    refine jD ?_
    refine jN 1 ?_
    refine WC.cond rfl (fun h40 => ?_) (fun h40 => ?_)
    ·have hxy : sameKT x y = false := by
      unfold sameKT
      rw [decide_eq_false (p := x.x.t = y.x.t) (by intro e; rw [e] at h40; simp at h40), Bool.and_false]
     refine jN 12 ?_
     exact WQ.ret (rs := [.tmp 4]) rfl (.tmp rfl .nil) (fun w hS => ⟨by rw [show eqBy sameKT l m = false by (rw [hat, hxy]; rfl)]; rfl, hS.sublist (List.nil_sublist _)⟩)
    ·have hxy : sameKT x y = true := by
      unfold sameKT
      rw [hk, Bool.true_and, decide_eq_true_eq]
      simpa using h40
     refine jN 11 ?_
     refine WQ.back (i + 1) ?_ ?_ ?_ ?_
     ·exact ⟨by omega, by rw [hat, hxy, Bool.true_and]⟩
     ·omega
     ·exact ⟨rfl, rfl, rfl, trivial⟩
     ·rfl
  ·have hie : i = l.length := by simp at h14; omega
   have hb : eqBy sameKT l m = true := by rw [he, hie, List.drop_length, hlm, List.drop_length]; rfl
   refine jN 12 ?_
   exact WQ.ret (rs := [.tmp 4]) rfl (.tmp rfl .nil) (fun w hS => ⟨by rw [hb]; rfl, hS.sublist (List.nil_sublist _)⟩)
abbrev ktR (r : RtV) : Nat × List UInt8 := (r.x.k, r.x.t)
theorem eqKT : ∀ (l m : List RtV), eqBy sameKT l m = decide (l.map ktR = m.map ktR)
 | [], [] => rfl
 | [], _ :: _ => rfl
 | _ :: _, [] => rfl
 | x :: l, y :: m => by
  rw [eqBy, eqKT l m, Bool.eq_iff_iff]
  unfold sameKT
  simp only [Bool.and_eq_true, decide_eq_true_eq, List.map_cons, List.cons.injEq, ktR, Prod.mk.injEq]
theorem mem_those {u n : Nat} {q : List QB} (hn : n ∈ cfgs u) : decide (n ∈ thoseL q u) = setF q (cfg n) := by
 rw [← inN_set, Bool.eq_iff_iff, decide_eq_true_eq]
 unfold thoseL
 rw [List.mem_filter]
 exact ⟨fun h => h.2, fun h => ⟨hn, h⟩⟩
theorem filter_map_eq {α β γ : Type} {f : α → γ} {g : β → γ} {h : γ → γ} {p : α → Bool} {q : β → Bool} {r : γ → Bool} : ∀ {l : List α} {m : List β}, l.map f = m.map g → (∀ x ∈ l, p x = r (f x)) → (∀ y ∈ m, q y = r (g y)) → (l.filter p).map f = (m.filter q).map g
 | [], [], _, _, _ => rfl
 | [], _ :: _, h, _, _ => by simp at h
 | _ :: _, [], h, _, _ => by simp at h
 | x :: l, y :: m, e, hp, hq => by
  simp only [List.map_cons, List.cons.injEq] at e
  have ih := filter_map_eq (h := h) e.2 (fun z hz => hp z (by simp [hz])) (fun z hz => hq z (by simp [hz]))
  have hpq : p x = q y := by rw [hp x (by simp), hq y (by simp), e.1]
  cases hb : p x with
  | true => rw [List.filter_cons_of_pos hb, List.filter_cons_of_pos (hpq ▸ hb), List.map_cons, List.map_cons, ih, e.1]
  | false => rw [List.filter_cons_of_neg (by simp [hb]), List.filter_cons_of_neg (by simp [← hpq, hb]), ih]
theorem ofR_rd {u n : Nat} (hn : n ∈ cfgs u) {l : List ItV} {ts : List TkV} {ds : List DV} {rs : List RtV} {cs : List (List Nat × Option Addr)} (h1 : TkG l ts ds) (h2 : RtG u l rs cs) : (ofR n rs).map ktR = rdT (cfg n) ts := by
 have e := filter_map_eq (f := fun r : RtV => r.x) (g := fun t : TkV => t.x) (h := id) (p := fun r => decide (n ∈ r.c)) (q := fun t => t.d.ev (cfg n)) (r := fun x => setF x.q (cfg n)) (l := rs) (m := ts) (h2.x.trans h1.x.symm)
  (fun r hr => by rw [(h2.d r hr).1]; exact mem_those hn) (fun t ht => (h1.d t ht).2.1 _)
 have e2 := congrArg (fun z => z.map fun x : ItV => (x.k, x.t)) e
 simp only [List.map_map] at e2
 exact e2
theorem rdT_dep {u : Nat} {l : List ItV} {ts : List TkV} {ds : List DV} (h1 : TkG l ts ds) (i1 : ∀ y ∈ l, inU y.q u) {c c' : Cf} (hc : ∀ k, u.testBit k = true → c k = c' k) : rdT c ts = rdT c' ts := by
 unfold rdT
 congr 1
 refine List.filter_congr fun t ht => ?_
 rw [(h1.d t ht).2.1, (h1.d t ht).2.1]
 exact setF_dep (i1 _ (by rw [← h1.x]; exact List.mem_map_of_mem ht)) c c' hc
theorem differs_good {u : Nat} (hu : u < 4294967296) {q : List QB} (hq : inU q u) {l m : List ItV} {ts ss : List TkV} {ds es : List DV} {rs qs : List RtV} {cs fs : List (List Nat × Option Addr)}
  (t1 : TkG l ts ds) (t2 : TkG m ss es) (r1 : RtG u l rs cs) (r2 : RtG u m qs fs) (i1 : ∀ y ∈ l, inU y.q u) (i2 : ∀ y ∈ m, inU y.q u) {t : BT} (ho : t.ok 0) (he : ∀ c, t.ev c = (setF q c && dfF ts ss c (0, 0))) :
  alikeF t ((thoseL q u).filter fun n => !eqBy sameKT (ofR n rs) (ofR n qs)) u = true := by
 have e : ((thoseL q u).filter fun n => !eqBy sameKT (ofR n rs) (ofR n qs)) = thoseF u (fun c => setF q c && dfF ts ss c (0, 0)) := by
  unfold thoseL thoseF
  rw [List.filter_filter]
  refine List.filter_congr fun n hn => ?_
  rw [inN_set, eqKT, ofR_rd hn t1 r1, ofR_rd hn t2 r2]
  unfold dfF
  rw [List.drop_zero, List.drop_zero, Bool.and_comm]
  congr 1
  rw [Bool.eq_iff_iff]
  simp
 rw [e]
 refine alike_good ho he (fun c c' hc => ?_) (by simpa using hu)
 show (setF q c && dfF ts ss c (0, 0)) = (setF q c' && dfF ts ss c' (0, 0))
 rw [setF_dep hq c c' hc]
 unfold dfF
 rw [List.drop_zero, List.drop_zero, rdT_dep t1 i1 hc, rdT_dep t2 i2 hc]
structure DfL where
 i : Nat
 a : Option Addr
 c : Nat
set_option maxRecDepth 100000 in
theorem SourceDiffers_c (x y : RwV) (q : List QB) (qa : Option Addr) (qc : Nat) (w : World) (hl : LibW w) (hg : SgW w) (haw : ∀ w, LibW w → SgW w → Pure Tryz.prog 8 [] w (.bool true)) (hx : RwR w x) (hy : RwR w y) (hql : q.length ≤ LM) (hq : RdSl qC 2 w q qa) (hqo : ∀ z ∈ q, qOk z) :
  Pure Tryz.prog 4 [.agg (rwC x).toArray, .agg (rwC y).toArray, .slice qa q.length qc] w (.bool true) := by
 have hxy : ∀ a ∈ [x, y], RwR w a := by
  intro a ha
  rcases List.mem_cons.1 ha with rfl | ha
  ·exact hx
  ·rw [List.mem_singleton.1 ha]; exact hy
 have hql9 : q.length ≤ 140737488351232 := hql
 refine enter Tryz.func4 rfl Tryz.ntmps4 rfl (St.init _) ?_
 refine jN 3 ?_
 refine WL.boxN rfl rfl (fun b3 => ?_)
 refine jN 1 ?_
 refine WL.boxN rfl rfl (fun b4 => ?_)
 refine jN 11 ?_
 refine WL.buildSlice F.sl22 F.ez22 rfl rfl rfl rfl jB rfl (fun b19 => ?_)
 refine jN 3 ?_
 refine WL.call0 (β := Nat × Nat × Bool) (res := fun z => .returned (.tuple #[.int .u32 (z.1 : Int), .bool z.2.2])) (cs := fun _ => []) (ψ := fun z => z.1 < 16777216 ∧ (z.2.2 = true → z.2.1 < 300 ∧ subN (bitsQ q) z.1 ∧ ∀ a ∈ [x, y], RbR z.1 z.2.1 a)) F.fun7 (fun d h => by cases h; rfl) rfl (fun w hS => (rowBits_c [x, y] (some ⟨b19, 0, none⟩) 2 q qa qc 6 w (by (show 2 ≤ LM); decide) (RdSl.of_pt (fun _ _ => rfl) (hS.ok (pt b19 ([x, y].flatMap rwC) 43) jM)) (fun a ha => (hxy a ha).next hS) hql (hq.next hS) hqo).mono (fun e w2 ⟨u, n, b, h1, h2, h3, h4⟩ => ⟨(u, n, b), ⟨h1, fun hb => ⟨(h2 hb).1, (h2 hb).2.2.2.1, (h2 hb).2.2.2.2⟩⟩, h3, h4⟩)) (fun ⟨u, n, b⟩ ⟨hu, hub⟩ => ?_)
 dsimp only at hu hub
 show WA _ _ _ _ _ ((21, .tuple #[.int .u32 (u : Int), .bool b]) :: _) _
 refine jN 21 ?_
 refine WC.cond rfl (fun h25 => ?_) (fun h25 => ?_)
 ·refine jN 3 ?_
  refine WL.callV F.fun8 rfl rfl (fun w hS => haw w (hl.next hS) (hg.next hS)) ?_
  refine jN 6 ?_
  exact WQ.ret (rs := [.tmp 6]) rfl (.tmp rfl .nil) (fun w hS => ⟨rfl, hS.sublist (List.nil_sublist _)⟩)
 ·have hb : b = true := by simpa using h25
  obtain ⟨hn, hqu, hrb⟩ := hub hb
  have htw := TwoR.of hu hn hrb
  have huu := htw.uu
  refine jN 9 ?_
  refine WL.call0 (β := MdV) (res := fun m => .returned (.tuple #[.agg (mdA m).toArray, .agg (mdB m).toArray])) (cs := fun m => [mdT m, mdR m, mdD m, mdH m, dsC m.F m.ds, insC m.G m.cs]) (ψ := fun m => MdG u x x.i.length x.n.length m) F.fun9 (fun d h => by cases h; rfl) rfl (fun w hS => (made_c x u htw.uu htw.xi htw.xn w (hx.next hS)).mono (fun e w2 ⟨m, h1, h2, h3⟩ => ⟨m, h1, h2, h3⟩)) (fun ⟨ts, ta, tc, rs, ra, rc, gs, ga, gc, hs, ha, hc, F9, ds, G9, cs⟩ hm1 => ?_)
  have t1 : TkG x.i ts ds := by have := hm1.t; rwa [List.take_length] at this
  have r1 : RtG u x.i rs cs := by have := hm1.r; rwa [List.take_length] at this
  have l1 : ts.length = x.i.length := by rw [← t1.x, List.length_map]
  have l2 : rs.length = x.i.length := by rw [← r1.x, List.length_map]
  have hx3 := htw.xi
  show WA _ _ _ _ _ ((30, .tuple #[.agg [.slice ta ts.length tc, .slice ga gs.length gc].toArray, .agg [.slice ra rs.length rc, .slice ha hs.length hc].toArray]) :: _) ((rowc (.slice ta ts.length tc) ts.length 105 7 (ts.flatMap tkC)) :: (rowc (.slice ra rs.length rc) rs.length 73 6 (rs.flatMap rtC)) :: mdD (⟨ts, ta, tc, rs, ra, rc, gs, ga, gc, hs, ha, hc, F9, ds, G9, cs⟩ : MdV) :: mdH (⟨ts, ta, tc, rs, ra, rc, gs, ga, gc, hs, ha, hc, F9, ds, G9, cs⟩ : MdV) :: dsC F9 ds :: insC G9 cs :: _)
  refine jN 7 ?_
  refine WL.alloc F.zero33 rfl (fun b9 => ?_)
  refine jN 1 ?_
  refine WL.alloc F.zero37 rfl (fun b10 => ?_)
  refine jN 13 ?_
  refine WL.call0 (β := MdV) (res := fun m => .returned (.tuple #[.agg (mdA m).toArray, .agg (mdB m).toArray])) (cs := fun m => [mdT m, mdR m, mdD m, mdH m, dsC m.F m.ds, insC m.G m.cs]) (ψ := fun m => MdG u y y.i.length y.n.length m) F.fun9 (fun d h => by cases h; rfl) rfl (fun w hS => (made_c y u htw.uu htw.yi htw.yn w (hy.next hS)).mono (fun e w2 ⟨m, h1, h2, h3⟩ => ⟨m, h1, h2, h3⟩)) (fun ⟨ts2, ta2, tc2, rs2, ra2, rc2, gs2, ga2, gc2, hs2, ha2, hc2, F8, ds2, G8, cs2⟩ hm2 => ?_)
  have t2 : TkG y.i ts2 ds2 := by have := hm2.t; rwa [List.take_length] at this
  have r2 : RtG u y.i rs2 cs2 := by have := hm2.r; rwa [List.take_length] at this
  have l5 : ts2.length = y.i.length := by rw [← t2.x, List.length_map]
  have l6 : rs2.length = y.i.length := by rw [← r2.x, List.length_map]
  have hx5 := htw.yi
  show WA _ _ _ _ _ ((36, .tuple #[.agg [.slice ta2 ts2.length tc2, .slice ga2 gs2.length gc2].toArray, .agg [.slice ra2 rs2.length rc2, .slice ha2 hs2.length hc2].toArray]) :: _) ((rowc (.slice ta2 ts2.length tc2) ts2.length 105 7 (ts2.flatMap tkC)) :: (rowc (.slice ra2 rs2.length rc2) rs2.length 73 6 (rs2.flatMap rtC)) :: mdD (⟨ts2, ta2, tc2, rs2, ra2, rc2, gs2, ga2, gc2, hs2, ha2, hc2, F8, ds2, G8, cs2⟩ : MdV) :: mdH (⟨ts2, ta2, tc2, rs2, ra2, rc2, gs2, ga2, gc2, hs2, ha2, hc2, F8, ds2, G8, cs2⟩ : MdV) :: dsC F8 ds2 :: insC G8 cs2 :: _)
  refine jN 7 ?_
  refine WL.alloc F.zero33 rfl (fun b11 => ?_)
  refine jN 1 ?_
  refine WL.alloc F.zero37 rfl (fun b12 => ?_)
  refine jN 13 ?_
  refine WL.call0 (β := Option Addr × Nat) (res := fun x => .returned (.slice x.1 (thoseL q u).length x.2)) (cs := fun x => [rowc (.slice x.1 (thoseL q u).length x.2) (thoseL q u).length 24 1 ((thoseL q u).flatMap nC)]) (ψ := fun _ => True) F.fun16 (fun d h => by cases h; rfl) rfl (fun w hS => (those_c q qa qc (Nat.le_trans hql (by decide)) u huu w (hq.next hS) hqo).mono (fun e w2 ⟨x, h1, h2⟩ => ⟨x, trivial, h1, h2⟩)) (fun ⟨xa, xc⟩ _ => ?_)
  show WA _ _ _ _ _ ((41, .slice xa (thoseL q u).length xc) :: _) ((rowc (.slice xa (thoseL q u).length xc) (thoseL q u).length 24 1 ((thoseL q u).flatMap nC)) :: _)
  refine jN 18 ?_
  refine WC.chunks (C' := [pt b9 [.slice ta ts.length tc, .slice ga gs.length gc] 33, pt b10 [.slice ra rs.length rc, .slice ha hs.length hc] 37, pt b11 [.slice ta2 ts2.length tc2, .slice ga2 gs2.length gc2] 33, pt b12 [.slice ra2 rs2.length rc2, .slice ha2 hs2.length hc2] 37, rowc (.slice ta ts.length tc) ts.length 105 7 (ts.flatMap tkC), rowc (.slice ra rs.length rc) rs.length 73 6 (rs.flatMap rtC), rowc (.slice ta2 ts2.length tc2) ts2.length 105 7 (ts2.flatMap tkC), rowc (.slice ra2 rs2.length rc2) rs2.length 73 6 (rs2.flatMap rtC), dsC F9 ds, insC G9 cs, dsC F8 ds2, insC G8 cs2, rowc (.slice none 0 0) 0 24 1 [], rowc (.slice xa (thoseL q u).length xc) (thoseL q u).length 24 1 ((thoseL q u).flatMap nC)]) (fun w hS => (jK (St.rowNil hS 24 1))) ?_
  refine WC.loop (α := DfL) (fun g => g.i ≤ (thoseL q u).length) (fun g => [(2, .slice qa q.length qc), (7, .int .u32 (u : Int)), (9, pp b9), (10, pp b10), (11, pp b11), (12, pp b12), (13, .slice xa (thoseL q u).length xc), (14, .slice g.a (((thoseL q u).take g.i).filter fun n => !eqBy sameKT (ofR n rs) (ofR n rs2)).length g.c), (15, .int .i64 (g.i : Int))]) (fun g => [pt b9 [.slice ta ts.length tc, .slice ga gs.length gc] 33, pt b10 [.slice ra rs.length rc, .slice ha hs.length hc] 37, pt b11 [.slice ta2 ts2.length tc2, .slice ga2 gs2.length gc2] 33, pt b12 [.slice ra2 rs2.length rc2, .slice ha2 hs2.length hc2] 37, rowc (.slice ta ts.length tc) ts.length 105 7 (ts.flatMap tkC), rowc (.slice ra rs.length rc) rs.length 73 6 (rs.flatMap rtC), rowc (.slice ta2 ts2.length tc2) ts2.length 105 7 (ts2.flatMap tkC), rowc (.slice ra2 rs2.length rc2) rs2.length 73 6 (rs2.flatMap rtC), dsC F9 ds, insC G9 cs, dsC F8 ds2, insC G8 cs2, rowc (.slice g.a (((thoseL q u).take g.i).filter fun n => !eqBy sameKT (ofR n rs) (ofR n rs2)).length g.c) (((thoseL q u).take g.i).filter fun n => !eqBy sameKT (ofR n rs) (ofR n rs2)).length 24 1 ((((thoseL q u).take g.i).filter fun n => !eqBy sameKT (ofR n rs) (ofR n rs2)).flatMap nC), rowc (.slice xa (thoseL q u).length xc) (thoseL q u).length 24 1 ((thoseL q u).flatMap nC)]) (fun g => (thoseL q u).length - g.i) (⟨0, none, 0⟩) ?_ ?_ ?_ ?_
  ·exact Nat.zero_le _
  ·exact ⟨rfl, rfl, rfl, rfl, rfl, rfl, rfl, rfl, rfl, trivial⟩
  ·rfl
  rintro ⟨i, a, c⟩ hi
  dsimp only at hi
  show WC _ _ _ _ _ _ _ [(2, .slice qa q.length qc), (7, .int .u32 (u : Int)), (9, pp b9), (10, pp b10), (11, pp b11), (12, pp b12), (13, .slice xa (thoseL q u).length xc), (14, .slice a (((thoseL q u).take i).filter fun n => !eqBy sameKT (ofR n rs) (ofR n rs2)).length c), (15, .int .i64 (i : Int))] [pt b9 [.slice ta ts.length tc, .slice ga gs.length gc] 33, pt b10 [.slice ra rs.length rc, .slice ha hs.length hc] 37, pt b11 [.slice ta2 ts2.length tc2, .slice ga2 gs2.length gc2] 33, pt b12 [.slice ra2 rs2.length rc2, .slice ha2 hs2.length hc2] 37, rowc (.slice ta ts.length tc) ts.length 105 7 (ts.flatMap tkC), rowc (.slice ra rs.length rc) rs.length 73 6 (rs.flatMap rtC), rowc (.slice ta2 ts2.length tc2) ts2.length 105 7 (ts2.flatMap tkC), rowc (.slice ra2 rs2.length rc2) rs2.length 73 6 (rs2.flatMap rtC), dsC F9 ds, insC G9 cs, dsC F8 ds2, insC G8 cs2, rowc (.slice a (((thoseL q u).take i).filter fun n => !eqBy sameKT (ofR n rs) (ofR n rs2)).length c) (((thoseL q u).take i).filter fun n => !eqBy sameKT (ofR n rs) (ofR n rs2)).length 24 1 ((((thoseL q u).take i).filter fun n => !eqBy sameKT (ofR n rs) (ofR n rs2)).flatMap nC), rowc (.slice xa (thoseL q u).length xc) (thoseL q u).length 24 1 ((thoseL q u).flatMap nC)]
  have hwl : (((thoseL q u).take i).filter fun n => !eqBy sameKT (ofR n rs) (ofR n rs2)).length ≤ i := Nat.le_trans (List.length_filter_le _ _) (List.length_take_le _ _)
  have htl := thoseL_len (q := q) (u := u)
  refine jN 13 ?_
  refine WC.cond rfl (fun h45 => ?_) (fun h45 => ?_)
  ·have hlt : i < (thoseL q u).length := by simpa using h45
   obtain ⟨n, hx9⟩ : ∃ x, (thoseL q u)[i]? = some x := ⟨_, List.getElem?_eq_getElem hlt⟩
   have hn32 := thoseL_32 n (List.mem_of_getElem? hx9)
   refine WC.know (φ := ∃ g, xa = some ⟨g, 0, none⟩ ∧ (thoseL q u).length = (thoseL q u).length ∧ (thoseL q u).length ≤ xc) (fun w hS => rowc_addr (hS.ok (rowc (.slice xa (thoseL q u).length xc) (thoseL q u).length 24 1 ((thoseL q u).flatMap nC)) jM) (by omega)) (fun ⟨g9, hg9, _, _⟩ => ?_)
   subst hg9
   refine jN 5 ?_
   refine WC.cutPE (α := Unit) (fun _ => [(63, .bool (!eqBy sameKT (ofR n rs) (ofR n rs2))), (2, .slice qa q.length qc), (7, .int .u32 (u : Int)), (9, pp b9), (10, pp b10), (11, pp b11), (12, pp b12), (13, .slice (some ⟨g9, 0, none⟩) (thoseL q u).length xc), (14, .slice a (((thoseL q u).take i).filter fun n => !eqBy sameKT (ofR n rs) (ofR n rs2)).length c), (15, .int .i64 (i : Int))]) (fun _ => [pt b9 [.slice ta ts.length tc, .slice ga gs.length gc] 33, pt b10 [.slice ra rs.length rc, .slice ha hs.length hc] 37, pt b11 [.slice ta2 ts2.length tc2, .slice ga2 gs2.length gc2] 33, pt b12 [.slice ra2 rs2.length rc2, .slice ha2 hs2.length hc2] 37, rowc (.slice ta ts.length tc) ts.length 105 7 (ts.flatMap tkC), rowc (.slice ra rs.length rc) rs.length 73 6 (rs.flatMap rtC), rowc (.slice ta2 ts2.length tc2) ts2.length 105 7 (ts2.flatMap tkC), rowc (.slice ra2 rs2.length rc2) rs2.length 73 6 (rs2.flatMap rtC), dsC F9 ds, insC G9 cs, dsC F8 ds2, insC G8 cs2, rowc (.slice a (((thoseL q u).take i).filter fun n => !eqBy sameKT (ofR n rs) (ofR n rs2)).length c) (((thoseL q u).take i).filter fun n => !eqBy sameKT (ofR n rs) (ofR n rs2)).length 24 1 ((((thoseL q u).take i).filter fun n => !eqBy sameKT (ofR n rs) (ofR n rs2)).flatMap nC), rowc (.slice (some ⟨g9, 0, none⟩) (thoseL q u).length xc) (thoseL q u).length 24 1 ((thoseL q u).flatMap nC)]) (fun c a d v w h => by cases d <;> exact h) (fun Q' hP hQ => ?_) (fun xE => ?_)
   ·refine WC.drawsL (by kernel_rfl) (FactsOk.cons (ds := [6, 13, 14]) (LoadOk.one (t := 10) (off := 0) rfl jM rfl) (FactsOk.cons (ds := [6, 13, 14]) (LoadOk.by (Y := fun w => w.cell? ⟨g9, 0 + i * 1, none⟩ = some (.int .u32 (n : Int))) (fun w hS => (by rw [Nat.zero_add]; exact rowc_cells (hS.ok (rowc (.slice (some ⟨g9, 0, none⟩) (thoseL q u).length xc) (thoseL q u).length 24 1 ((thoseL q u).flatMap nC)) jM) (flat_at (cells := nC) (sz := 1) (fun _ _ => rfl) hx9 0 _ rfl)))) (FactsOk.cons (ds := [13, 14]) (LoadOk.one (t := 12) (off := 0) rfl jM rfl) (FactsOk.cons (ds := [13, 14]) (LoadOk.by (Y := fun w => w.cell? ⟨g9, 0 + i * 1, none⟩ = some (.int .u32 (n : Int))) (fun w hS => (by rw [Nat.zero_add]; exact rowc_cells (hS.ok (rowc (.slice (some ⟨g9, 0, none⟩) (thoseL q u).length xc) (thoseL q u).length 24 1 ((thoseL q u).flatMap nC)) jM) (flat_at (cells := nC) (sz := 1) (fun _ _ => rfl) hx9 0 _ rfl)))) (FactsOk.nil))))) ?_
    refine jT 0 rfl (Yl.fieldAddr0 F.fld37_0 rfl) ?_
    refine jF 1 0 rfl rfl (Yl.load1 F.one34 rfl) ?_
    refine jT 2 rfl (Yl.move rfl) ?_
    refine jT 3 rfl (Yl.move rfl) ?_
    refine jT 4 rfl (Yl.indexAddr F.sl53 rfl rfl hlt) ?_
    refine jF 5 1 rfl rfl (Yl.load1 F.one24 rfl) ?_
    refine jT 7 rfl (Yl.fieldAddr0 F.fld37_0 rfl) ?_
    refine jF 8 2 rfl rfl (Yl.load1 F.one34 rfl) ?_
    refine jT 9 rfl (Yl.move rfl) ?_
    refine jT 10 rfl (Yl.move rfl) ?_
    refine jT 11 rfl (Yl.indexAddr F.sl53 rfl rfl hlt) ?_
    refine jF 12 3 rfl rfl (Yl.load1 F.one24 rfl) ?_
    refine jA 6 rfl ?_
    refine WL.call0 (β := Option Addr × Nat) (res := fun z => .returned (.slice z.1 (ofR n rs).length z.2)) (cs := fun z => [rowc (.slice z.1 (ofR n rs).length z.2) (ofR n rs).length 73 6 ((ofR n rs).flatMap rtC)]) (ψ := fun _ => True) F.fun22 (fun d h => by cases h; rfl) rfl (fun w hS => (rOf6_c rs (by omega) ra rc n w (RdSl.of_row (fun _ _ => rfl) (fun h => h) (Nat.le_refl _) (hS.ok (rowc (.slice ra rs.length rc) rs.length 73 6 (rs.flatMap rtC)) jM)) (fun t ht => ⟨insC_rd (hS.ok (insC G9 cs) jM) (r1.d t ht).2, by rw [(r1.d t ht).1]; exact Nat.le_trans thoseL_len (by decide)⟩)).mono (fun e w2 ⟨x, h1, h2⟩ => ⟨x, trivial, h1, h2⟩)) (fun ⟨zp, zpc⟩ _ => ?_)
    refine WD.on (closed_of (by decide +kernel)) (fun w hS => Sx.gone rfl (Sx.gone rfl (Sx.keep (hS.cell jM rfl) (Sx.keep ((by rw [Nat.zero_add]; exact rowc_cells (hS.ok (rowc (.slice (some ⟨g9, 0, none⟩) (thoseL q u).length xc) (thoseL q u).length 24 1 ((thoseL q u).flatMap nC)) jM) (flat_at (cells := nC) (sz := 1) (fun _ _ => rfl) hx9 0 _ rfl))) (Sx.none))))) ?_
    refine jA 13 rfl ?_
    refine WL.call0 (β := Option Addr × Nat) (res := fun z => .returned (.slice z.1 (ofR n rs2).length z.2)) (cs := fun z => [rowc (.slice z.1 (ofR n rs2).length z.2) (ofR n rs2).length 73 6 ((ofR n rs2).flatMap rtC)]) (ψ := fun _ => True) F.fun22 (fun d h => by cases h; rfl) rfl (fun w hS => (rOf6_c rs2 (by omega) ra2 rc2 n w (RdSl.of_row (fun _ _ => rfl) (fun h => h) (Nat.le_refl _) (hS.ok (rowc (.slice ra2 rs2.length rc2) rs2.length 73 6 (rs2.flatMap rtC)) jM)) (fun t ht => ⟨insC_rd (hS.ok (insC G8 cs2) jM) (r2.d t ht).2, by rw [(r2.d t ht).1]; exact Nat.le_trans thoseL_len (by decide)⟩)).mono (fun e w2 ⟨x, h1, h2⟩ => ⟨x, trivial, h1, h2⟩)) (fun ⟨zq, zqc⟩ _ => ?_)
    refine jG ?_
    refine jA 14 rfl ?_
    refine WL.callV F.fun21 rfl rfl (fun w hS => rAlike6_c (ofR n rs) (ofR n rs2) zp zq zpc zqc (Nat.le_trans (List.length_filter_le _ _) (by omega)) w (RdSl.of_row (fun _ _ => rfl) (fun h => h) (Nat.le_refl _) (hS.ok (rowc (.slice zp (ofR n rs).length zpc) (ofR n rs).length 73 6 ((ofR n rs).flatMap rtC)) jM)) (RdSl.of_row (fun _ _ => rfl) (fun h => h) (Nat.le_refl _) (hS.ok (rowc (.slice zq (ofR n rs2).length zqc) (ofR n rs2).length 73 6 ((ofR n rs2).flatMap rtC)) jM))) ?_
    refine jG ?_
    refine jT 15 rfl (Yl.not rfl) ?_
    refine jD ?_
    refine WQ.chunks (C' := [pt b9 [.slice ta ts.length tc, .slice ga gs.length gc] 33, pt b10 [.slice ra rs.length rc, .slice ha hs.length hc] 37, pt b11 [.slice ta2 ts2.length tc2, .slice ga2 gs2.length gc2] 33, pt b12 [.slice ra2 rs2.length rc2, .slice ha2 hs2.length hc2] 37, rowc (.slice ta ts.length tc) ts.length 105 7 (ts.flatMap tkC), rowc (.slice ra rs.length rc) rs.length 73 6 (rs.flatMap rtC), rowc (.slice ta2 ts2.length tc2) ts2.length 105 7 (ts2.flatMap tkC), rowc (.slice ra2 rs2.length rc2) rs2.length 73 6 (rs2.flatMap rtC), dsC F9 ds, insC G9 cs, dsC F8 ds2, insC G8 cs2, rowc (.slice a (((thoseL q u).take i).filter fun n => !eqBy sameKT (ofR n rs) (ofR n rs2)).length c) (((thoseL q u).take i).filter fun n => !eqBy sameKT (ofR n rs) (ofR n rs2)).length 24 1 ((((thoseL q u).take i).filter fun n => !eqBy sameKT (ofR n rs) (ofR n rs2)).flatMap nC), rowc (.slice (some ⟨g9, 0, none⟩) (thoseL q u).length xc) (thoseL q u).length 24 1 ((thoseL q u).flatMap nC)]) (fun w hS => (jK hS)) ?_
    exact WQ.byCut (hQ ()) ⟨rfl, rfl, rfl, rfl, rfl, rfl, rfl, rfl, rfl, rfl, trivial⟩
   show WQ _ _ _ _ _ _ [(63, .bool (!eqBy sameKT (ofR n rs) (ofR n rs2))), (2, .slice qa q.length qc), (7, .int .u32 (u : Int)), (9, pp b9), (10, pp b10), (11, pp b11), (12, pp b12), (13, .slice (some ⟨g9, 0, none⟩) (thoseL q u).length xc), (14, .slice a (((thoseL q u).take i).filter fun n => !eqBy sameKT (ofR n rs) (ofR n rs2)).length c), (15, .int .i64 (i : Int))] [pt b9 [.slice ta ts.length tc, .slice ga gs.length gc] 33, pt b10 [.slice ra rs.length rc, .slice ha hs.length hc] 37, pt b11 [.slice ta2 ts2.length tc2, .slice ga2 gs2.length gc2] 33, pt b12 [.slice ra2 rs2.length rc2, .slice ha2 hs2.length hc2] 37, rowc (.slice ta ts.length tc) ts.length 105 7 (ts.flatMap tkC), rowc (.slice ra rs.length rc) rs.length 73 6 (rs.flatMap rtC), rowc (.slice ta2 ts2.length tc2) ts2.length 105 7 (ts2.flatMap tkC), rowc (.slice ra2 rs2.length rc2) rs2.length 73 6 (rs2.flatMap rtC), dsC F9 ds, insC G9 cs, dsC F8 ds2, insC G8 cs2, rowc (.slice a (((thoseL q u).take i).filter fun n => !eqBy sameKT (ofR n rs) (ofR n rs2)).length c) (((thoseL q u).take i).filter fun n => !eqBy sameKT (ofR n rs) (ofR n rs2)).length 24 1 ((((thoseL q u).take i).filter fun n => !eqBy sameKT (ofR n rs) (ofR n rs2)).flatMap nC), rowc (.slice (some ⟨g9, 0, none⟩) (thoseL q u).length xc) (thoseL q u).length 24 1 ((thoseL q u).flatMap nC)]
   refine jN 1 ?_
   refine WC.cond rfl (fun h63 => ?_) (fun h63 => ?_)
   ·refine jN 8 ?_
    refine WL.indexAddr F.sl53 rfl rfl rfl hlt ?_
    refine jN 1 ?_
    refine WL.load1 F.one24 rfl rfl (v := .int .u32 (n : Int)) (fun w hS => (by rw [Nat.zero_add]; exact rowc_cells (hS.ok (rowc (.slice (some ⟨g9, 0, none⟩) (thoseL q u).length xc) (thoseL q u).length 24 1 ((thoseL q u).flatMap nC)) jM) (flat_at (cells := nC) (sz := 1) (fun _ _ => rfl) hx9 0 _ rfl))) ?_
    refine jN 1 ?_
    refine WL.buildSlice F.sl53 F.ez53 rfl rfl rfl rfl jB rfl (fun b69 => ?_)
    refine jN 1 ?_
    refine WL.appendE (news := [.int .u32 (n : Int)]) F.el53 rfl rfl rfl jR (fun w hS jj u hu => by rw [Nat.zero_add]; exact hS.cell (cs := [.int .u32 (n : Int)]) jM hu) rfl jO (Nat.le_trans (m := 8589934592) (by omega) (by decide)) (by omega) (fun a2 c2 => ?_)
    refine jN 13 ?_
    refine WQ.chunks (C' := [pt b9 [.slice ta ts.length tc, .slice ga gs.length gc] 33, pt b10 [.slice ra rs.length rc, .slice ha hs.length hc] 37, pt b11 [.slice ta2 ts2.length tc2, .slice ga2 gs2.length gc2] 33, pt b12 [.slice ra2 rs2.length rc2, .slice ha2 hs2.length hc2] 37, rowc (.slice ta ts.length tc) ts.length 105 7 (ts.flatMap tkC), rowc (.slice ra rs.length rc) rs.length 73 6 (rs.flatMap rtC), rowc (.slice ta2 ts2.length tc2) ts2.length 105 7 (ts2.flatMap tkC), rowc (.slice ra2 rs2.length rc2) rs2.length 73 6 (rs2.flatMap rtC), dsC F9 ds, insC G9 cs, dsC F8 ds2, insC G8 cs2, rowc (.slice a2 ((((thoseL q u).take i).filter fun n => !eqBy sameKT (ofR n rs) (ofR n rs2)).length + 1) c2) ((((thoseL q u).take i).filter fun n => !eqBy sameKT (ofR n rs) (ofR n rs2)).length + 1) 24 1 ((((thoseL q u).take i).filter fun n => !eqBy sameKT (ofR n rs) (ofR n rs2)).flatMap nC ++ [.int .u32 (n : Int)]), rowc (.slice (some ⟨g9, 0, none⟩) (thoseL q u).length xc) (thoseL q u).length 24 1 ((thoseL q u).flatMap nC)]) (fun w hS => (jK hS)) ?_
    have hs9 : (((thoseL q u).take (i + 1)).filter fun n => !eqBy sameKT (ofR n rs) (ofR n rs2)) = (((thoseL q u).take i).filter fun n => !eqBy sameKT (ofR n rs) (ofR n rs2)) ++ [n] := filter_take_T _ hx9 h63
    refine WQ.back (⟨i + 1, a2, c2⟩ : DfL) ?_ ?_ ?_ ?_
    ·show i + 1 ≤ (thoseL q u).length; omega
    ·show (thoseL q u).length - (i + 1) < (thoseL q u).length - i; omega
    ·simp only [hs9, List.length_append, List.length_cons, List.length_nil]; exact ⟨rfl, rfl, rfl, rfl, rfl, rfl, rfl, rfl, rfl, trivial⟩
    ·simp only [hs9, List.length_append, List.length_cons, List.length_nil, List.flatMap_append]; rfl
   ·refine jN 11 ?_
    refine WQ.chunks (C' := [pt b9 [.slice ta ts.length tc, .slice ga gs.length gc] 33, pt b10 [.slice ra rs.length rc, .slice ha hs.length hc] 37, pt b11 [.slice ta2 ts2.length tc2, .slice ga2 gs2.length gc2] 33, pt b12 [.slice ra2 rs2.length rc2, .slice ha2 hs2.length hc2] 37, rowc (.slice ta ts.length tc) ts.length 105 7 (ts.flatMap tkC), rowc (.slice ra rs.length rc) rs.length 73 6 (rs.flatMap rtC), rowc (.slice ta2 ts2.length tc2) ts2.length 105 7 (ts2.flatMap tkC), rowc (.slice ra2 rs2.length rc2) rs2.length 73 6 (rs2.flatMap rtC), dsC F9 ds, insC G9 cs, dsC F8 ds2, insC G8 cs2, rowc (.slice a (((thoseL q u).take i).filter fun n => !eqBy sameKT (ofR n rs) (ofR n rs2)).length c) (((thoseL q u).take i).filter fun n => !eqBy sameKT (ofR n rs) (ofR n rs2)).length 24 1 ((((thoseL q u).take i).filter fun n => !eqBy sameKT (ofR n rs) (ofR n rs2)).flatMap nC), rowc (.slice (some ⟨g9, 0, none⟩) (thoseL q u).length xc) (thoseL q u).length 24 1 ((thoseL q u).flatMap nC)]) (fun w hS => (jK hS)) ?_
    have hs9 : (((thoseL q u).take (i + 1)).filter fun n => !eqBy sameKT (ofR n rs) (ofR n rs2)) = (((thoseL q u).take i).filter fun n => !eqBy sameKT (ofR n rs) (ofR n rs2)) := filter_take_F _ hx9 h63
    refine WQ.back (⟨i + 1, a, c⟩ : DfL) ?_ ?_ ?_ ?_
    ·show i + 1 ≤ (thoseL q u).length; omega
    ·show (thoseL q u).length - (i + 1) < (thoseL q u).length - i; omega
    ·simp only [hs9]; exact ⟨rfl, rfl, rfl, rfl, rfl, rfl, rfl, rfl, rfl, trivial⟩
    ·simp only [hs9]
  ·have hie : i = (thoseL q u).length := by simp at h45; omega
   subst hie
   have hgood : ∀ {zd : DV} {Fd : List Nat} {dsd : List DV} (hzo : zd.1.ok 0) (hze : ∀ c, zd.1.ev c = (setF q c && dfF ts ts2 c (0, 0))), alikeF zd.1 (((thoseL q u).take (thoseL q u).length).filter fun n => !eqBy sameKT (ofR n rs) (ofR n rs2)) u = true := fun hzo hze => by rw [List.take_length]; exact differs_good htw.uu hqu.inU t1 t2 r1 r2 htw.xu htw.yu hzo hze
   refine jN 6 ?_
   refine WC.drawsL (by kernel_rfl) (FactsOk.cons (ds := [4, 7, 9]) (LoadOk.whole (t := 9) rfl jM) (FactsOk.cons (ds := [4, 7, 9]) (LoadOk.whole (t := 11) rfl jM) (FactsOk.nil))) ?_
   refine jF 0 0 rfl rfl (Yl.loadN F.agg33 rfl rfl) ?_
   refine jF 1 1 rfl rfl (Yl.loadN F.agg33 rfl rfl) ?_
   refine jT 2 rfl (Yl.move rfl) ?_
   refine jT 5 rfl (Yl.move rfl) ?_
   refine jT 6 rfl (Yl.move rfl) ?_
   refine jA 3 rfl ?_
   refine WL.call0 (β := DRes (setF q)) (res := fun z => .returned z.v) (cs := fun z => [z.ch]) (ψ := fun _ => True) F.fun14 (fun d h => by cases h; rfl) rfl (fun w hS => (set6_c q qa qc (Nat.le_trans hql (by decide)) w (hq.next hS) hqo).mono (fun e w2 ⟨x, h1, h2⟩ => ⟨x, trivial, h1, h2⟩)) (fun zs _ => ?_)
   refine WD.on (closed_of (by decide +kernel)) (fun w hS => Sx.keep ((fun j v hv => by rw [Nat.zero_add]; exact hS.cell jM hv)) (Sx.keep ((fun j v hv => by rw [Nat.zero_add]; exact hS.cell jM hv)) (Sx.none))) ?_
   refine jA 4 rfl ?_
   refine WL.call0 (β := DV × List Nat × List DV) (res := fun z => .returned (dvv z.1)) (cs := fun z => [dsC z.2.1 z.2.2]) (ψ := fun z => z.1 ∈ z.2.2 ∧ z.1.1.ok 0 ∧ ∀ c, z.1.1.ev c = (setF q c && dfF ts ts2 c (0, 0))) F.fun24 (fun d h => by cases h; rfl) rfl (fun w hS => (Differ_c ts ts2 (by omega) (by omega) ta ta2 tc tc2 (.slice ga gs.length gc) (.slice ga2 gs2.length gc2) rfl rfl zs.1.1 zs.1.2.1 zs.1.2.2 w (hm1.tsR hx htw.xp hS jM jM) (hm2.tsR hy htw.yp hS jM jM) (zs.rd hS jM)).mono (fun e w2 ⟨x, h0, h1, h2, h3⟩ => ⟨x, ⟨h0, (dsC_rd (h3.ok _ (List.mem_singleton.2 rfl)) h0).1, fun c => by rw [h1, zs.2.2]⟩, h2, h3⟩)) (fun ⟨zd, Fd, dsd⟩ ⟨hzm, hzo, hze⟩ => ?_)
   refine jG ?_
   dsimp only at hzm hzo hze
   refine jA 7 rfl ?_
   refine WL.callV F.fun23 rfl rfl (fun w hS => alike_c zd.1 zd.2.1 zd.2.2 (((thoseL q u).take (thoseL q u).length).filter fun n => !eqBy sameKT (ofR n rs) (ofR n rs2)) a c u huu (fun z hz => thoseL_32 z (List.mem_of_mem_take (List.mem_filter.1 hz).1)) (by omega) w (dsC_rd (hS.ok (dsC Fd dsd) jM) hzm) (RdSl.of_row (fun _ _ => rfl) (fun h => h) (Nat.le_refl _) (hS.ok (rowc (.slice a (((thoseL q u).take (thoseL q u).length).filter fun n => !eqBy sameKT (ofR n rs) (ofR n rs2)).length c) (((thoseL q u).take (thoseL q u).length).filter fun n => !eqBy sameKT (ofR n rs) (ofR n rs2)).length 24 1 ((((thoseL q u).take (thoseL q u).length).filter fun n => !eqBy sameKT (ofR n rs) (ofR n rs2)).flatMap nC)) jM))) ?_
   refine jG ?_
   refine jT 8 rfl (Yl.move rfl) ?_
   refine fun hcl => WA.splitB (i := 79) rfl (fun g79 => ?_) (fun g79 => ?_)
   ·refine (show WD _ _ _ _ _ _ _ _ _ _ _ _ from ?_) hcl
    refine jA 9 rfl ?_
    refine WL.guardT rfl rfl rfl ?_
    refine WL.callV F.fun8 rfl rfl (fun w hS => haw w (hl.next hS) (hg.next hS)) ?_
    refine jG ?_
    refine jT 10 rfl (Yl.pickT rfl rfl) ?_
    refine jT 11 rfl (Yl.assign rfl) ?_
    refine jD ?_
    refine jN 2 ?_
    exact WQ.ret (rs := [.tmp 6]) rfl (.tmp rfl .nil) (fun w hS => ⟨rfl, hS.sublist (List.nil_sublist _)⟩)
   ·refine (show WD _ _ _ _ _ _ _ _ _ _ _ _ from ?_) hcl
    exfalso; rw [hgood (Fd := Fd) (dsd := dsd) hzo hze] at g79; simp at g79
end Go.Proofs.YtndpdhamadiopaaGreatDoor
namespace Go.X
open Go Go.Eng
inductive Tq (β : Type) where
 | lf
 | nd (l : Tq β) (v : Option β) (r : Tq β)
namespace Tq
variable {β : Type}
noncomputable def bitsF (f : Nat) : Nat → List Bool := Nat.rec (fun _ => []) (fun _ ih k => Bool.rec (Nat.beq (Nat.mod k 2) 0 :: ih (Nat.div k 2)) [] (Nat.beq k 0)) f
noncomputable def bits (k : Nat) : List Bool := bitsF k k
theorem beq0 (k : Nat) : Nat.beq k 0 = decide (k = 0) := by cases k <;> rfl
theorem bitsF_succ (f k : Nat) : bitsF (f + 1) k = if k = 0 then [] else decide (k % 2 = 0) :: bitsF f (k / 2) := by
 show @Bool.rec (fun _ => List Bool) (Nat.beq (k % 2) 0 :: bitsF f (k / 2)) [] (Nat.beq k 0) = _
 rw [beq0 k, beq0 (k % 2)]
 by_cases h : k = 0
 ·subst h; rfl
 ·rw [decide_eq_false h, if_neg h]
theorem bitsF_eq : ∀ (f g k : Nat), k ≤ f → k ≤ g → bitsF f k = bitsF g k
 | 0, 0, k, _, _ => rfl
 | 0, g + 1, k, h, _ => by
  have : k = 0 := Nat.le_zero.1 h
  subst this; rw [bitsF_succ, if_pos rfl]; rfl
 | f + 1, 0, k, _, h => by
  have : k = 0 := Nat.le_zero.1 h
  subst this; rw [bitsF_succ, if_pos rfl]; rfl
 | f + 1, g + 1, k, h1, h2 => by
  rw [bitsF_succ, bitsF_succ]
  by_cases h : k = 0
  ·rw [if_pos h, if_pos h]
  ·rw [if_neg h, if_neg h, bitsF_eq f g (k / 2) (by omega) (by omega)]
theorem bits_pos {k : Nat} (h : k ≠ 0) : bits k = decide (k % 2 = 0) :: bits (k / 2) := by
 obtain ⟨f, rfl⟩ : ∃ f, k = f + 1 := ⟨k - 1, by omega⟩
 show bitsF (f + 1) (f + 1) = _
 rw [bitsF_succ, if_neg h, bitsF_eq f ((f + 1) / 2) _ (by omega) (Nat.le_refl _)]
 rfl
noncomputable def getB (t : Tq β) : List Bool → Option β := Tq.rec (fun _ => none) (fun _ v _ gl gr p => List.rec v (fun b r _ => Bool.rec (gr r) (gl r) b) p) t
noncomputable def get (t : Tq β) (k : Nat) : Option β := getB t (bits k)
noncomputable def oneB (x : β) (p : List Bool) : Tq β := List.rec (.nd .lf (some x) .lf) (fun b _ ih => Bool.rec (.nd .lf none ih) (.nd ih none .lf) b) p
noncomputable def one (f : Nat) (x : β) (k : Nat) : Tq β := oneB x (bits k)
noncomputable def setB (t : Tq β) (x : β) : List Bool → Tq β := Tq.rec (fun p => oneB x p) (fun l v r sl sr p => List.rec (.nd l (some x) r) (fun b q _ => Bool.rec (.nd l v (sr q)) (.nd (sl q) v r) b) p) t
noncomputable def set (t : Tq β) (x : β) (k : Nat) : Tq β := setB t x (bits k)
theorem get_lf (k : Nat) : (Tq.lf : Tq β).get k = none := rfl
theorem get_nd (l r : Tq β) (v : Option β) (k : Nat) : (Tq.nd l v r).get k = if k = 0 then v else if k % 2 = 0 then l.get (k / 2) else r.get (k / 2) := by
 unfold get
 by_cases h : k = 0
 ·subst h; rfl
 ·rw [if_neg h, bits_pos h]
  by_cases h2 : k % 2 = 0
  ·rw [decide_eq_true h2, if_pos h2]; rfl
  ·rw [decide_eq_false h2, if_neg h2]; rfl
theorem set_lf (x : β) (k : Nat) : (Tq.lf : Tq β).set x k = one 40 x k := rfl
theorem one_zero (f : Nat) (x : β) : one f x 0 = .nd .lf (some x) .lf := rfl
theorem one_succ (f : Nat) (x : β) (k : Nat) : one (f + 1) x k = if k = 0 then .nd .lf (some x) .lf else if k % 2 = 0 then .nd (one f x (k / 2)) none .lf else .nd .lf none (one f x (k / 2)) := by
 unfold one
 by_cases h : k = 0
 ·subst h; rfl
 ·rw [if_neg h, bits_pos h]
  by_cases h2 : k % 2 = 0
  ·rw [decide_eq_true h2, if_pos h2]; rfl
  ·rw [decide_eq_false h2, if_neg h2]; rfl
theorem set_nd (l r : Tq β) (v : Option β) (x : β) (k : Nat) : (Tq.nd l v r).set x k = if k = 0 then .nd l (some x) r else if k % 2 = 0 then .nd (l.set x (k / 2)) v r else .nd l v (r.set x (k / 2)) := by
 unfold set
 by_cases h : k = 0
 ·subst h; rfl
 ·rw [if_neg h, bits_pos h]
  by_cases h2 : k % 2 = 0
  ·rw [decide_eq_true h2, if_pos h2]; rfl
  ·rw [decide_eq_false h2, if_neg h2]; rfl
theorem get_one : ∀ (f : Nat) (x : β) (k j : Nat), k < 2 ^ f → (one f x k).get j = if j = k then some x else none
 | 0, x, k, j, h => by
  have : k = 0 := by simpa using h
  subst this
  rw [one_zero, get_nd]; simp only [get_lf]
  by_cases hj : j = 0 <;> simp [hj]
 | f + 1, x, k, j, h => by
  rw [one_succ]
  rw [Nat.pow_succ] at h
  have ih := get_one f x (k / 2)
  by_cases hk : k = 0
  ·subst hk
   rw [if_pos rfl, get_nd]; simp only [get_lf]
   split <;> simp_all
  ·rw [if_neg hk]
   by_cases h2 : k % 2 = 0
   ·rw [if_pos h2, get_nd, ih (j / 2) (by omega)]; simp only [get_lf]
    by_cases hj : j = 0
    ·subst hj; rw [if_pos rfl, if_neg (Ne.symm hk)]
    ·rw [if_neg hj]
     by_cases hj2 : j % 2 = 0
     ·rw [if_pos hj2]
      by_cases he : j = k
      ·subst he; rw [if_pos rfl, if_pos rfl]
      ·rw [if_neg he, if_neg (by omega)]
     ·rw [if_neg hj2, if_neg (by intro e; subst e; exact hj2 h2)]
   ·rw [if_neg h2, get_nd, ih (j / 2) (by omega)]; simp only [get_lf]
    by_cases hj : j = 0
    ·subst hj; rw [if_pos rfl, if_neg (Ne.symm hk)]
    ·rw [if_neg hj]
     by_cases hj2 : j % 2 = 0
     ·rw [if_pos hj2, if_neg (by intro e; subst e; exact h2 hj2)]
     ·rw [if_neg hj2]
      by_cases he : j = k
      ·subst he; rw [if_pos rfl, if_pos rfl]
      ·rw [if_neg he, if_neg (by omega)]
theorem get_set : ∀ (t : Tq β) (x : β) (k j : Nat), k < 2 ^ 40 → (t.set x k).get j = if j = k then some x else t.get j
 | .lf, x, k, j, h => by rw [set_lf, get_one 40 x k j h]; rfl
 | .nd l v r, x, k, j, h => by
  rw [set_nd, get_nd]
  have il := get_set l x (k / 2)
  have ir := get_set r x (k / 2)
  by_cases hk : k = 0
  ·subst hk
   rw [if_pos rfl, get_nd]
   by_cases hj : j = 0
   ·subst hj; rw [if_pos rfl, if_pos rfl]
   ·rw [if_neg hj, if_neg hj, if_neg hj]
  ·rw [if_neg hk]
   by_cases h2 : k % 2 = 0
   ·rw [if_pos h2, get_nd, il (j / 2) (by omega)]
    by_cases hj : j = 0
    ·subst hj; rw [if_pos rfl, if_neg (Ne.symm hk), if_pos rfl]
    ·rw [if_neg hj, if_neg hj]
     by_cases hj2 : j % 2 = 0
     ·rw [if_pos hj2, if_pos hj2]
      by_cases he : j = k
      ·subst he; rw [if_pos rfl, if_pos rfl]
      ·rw [if_neg he, if_neg (by omega)]
     ·rw [if_neg hj2, if_neg hj2, if_neg (by intro e; subst e; exact hj2 h2)]
   ·rw [if_neg h2, get_nd, ir (j / 2) (by omega)]
    by_cases hj : j = 0
    ·subst hj; rw [if_pos rfl, if_neg (Ne.symm hk), if_pos rfl]
    ·rw [if_neg hj, if_neg hj]
     by_cases hj2 : j % 2 = 0
     ·rw [if_pos hj2, if_pos hj2, if_neg (by intro e; subst e; exact h2 hj2)]
     ·rw [if_neg hj2, if_neg hj2]
      by_cases he : j = k
      ·subst he; rw [if_pos rfl, if_pos rfl]
      ·rw [if_neg he, if_neg (by omega)]
end Tq
inductive D8 where
 | d0 | d1 | d2 | d3 | d4 | d5 | d6 | d7
structure P8 (α : Type) where
 (a0 a1 a2 a3 a4 a5 a6 a7 : α)
def up0 {α : Type} (U : α → α) (t : P8 α) : P8 α := ⟨U t.a0, t.a1, t.a2, t.a3, t.a4, t.a5, t.a6, t.a7⟩
def up1 {α : Type} (U : α → α) (t : P8 α) : P8 α := ⟨t.a0, U t.a1, t.a2, t.a3, t.a4, t.a5, t.a6, t.a7⟩
def up2 {α : Type} (U : α → α) (t : P8 α) : P8 α := ⟨t.a0, t.a1, U t.a2, t.a3, t.a4, t.a5, t.a6, t.a7⟩
def up3 {α : Type} (U : α → α) (t : P8 α) : P8 α := ⟨t.a0, t.a1, t.a2, U t.a3, t.a4, t.a5, t.a6, t.a7⟩
def up4 {α : Type} (U : α → α) (t : P8 α) : P8 α := ⟨t.a0, t.a1, t.a2, t.a3, U t.a4, t.a5, t.a6, t.a7⟩
def up5 {α : Type} (U : α → α) (t : P8 α) : P8 α := ⟨t.a0, t.a1, t.a2, t.a3, t.a4, U t.a5, t.a6, t.a7⟩
def up6 {α : Type} (U : α → α) (t : P8 α) : P8 α := ⟨t.a0, t.a1, t.a2, t.a3, t.a4, t.a5, U t.a6, t.a7⟩
def up7 {α : Type} (U : α → α) (t : P8 α) : P8 α := ⟨t.a0, t.a1, t.a2, t.a3, t.a4, t.a5, t.a6, U t.a7⟩
def toN : D8 → Nat
 | .d0 => 0
 | .d1 => 1
 | .d2 => 2
 | .d3 => 3
 | .d4 => 4
 | .d5 => 5
 | .d6 => 6
 | .d7 => 7
noncomputable def toD (n : Nat) : D8 := @Bool.rec (fun _ => D8)
 (@Bool.rec (fun _ => D8) (@Bool.rec (fun _ => D8) .d7 .d6 (Nat.ble n 6)) (@Bool.rec (fun _ => D8) .d5 .d4 (Nat.ble n 4)) (Nat.ble n 5))
 (@Bool.rec (fun _ => D8) (@Bool.rec (fun _ => D8) .d3 .d2 (Nat.ble n 2)) (@Bool.rec (fun _ => D8) .d1 .d0 (Nat.ble n 0)) (Nat.ble n 1)) (Nat.ble n 3)
theorem toN_toD : ∀ {n : Nat}, n < 8 → toN (toD n) = n
 | 0, _ => rfl
 | 1, _ => rfl
 | 2, _ => rfl
 | 3, _ => rfl
 | 4, _ => rfl
 | 5, _ => rfl
 | 6, _ => rfl
 | 7, _ => rfl
 | n + 8, h => by omega
noncomputable def dg (m k : Nat) : D8 := toD (Nat.mod (Nat.div k m) 8)
theorem dg_eq {m j k : Nat} : dg m j = dg m k ↔ j / m % 8 = k / m % 8 := by
 constructor
 ·intro h
  have this : toN (toD (j / m % 8)) = toN (toD (k / m % 8)) := congrArg toN h
  rwa [toN_toD (Nat.mod_lt _ (by omega)), toN_toD (Nat.mod_lt _ (by omega))] at this
 ·intro h
  unfold dg
  exact congrArg toD h
noncomputable def sel8 {α : Type} (d : D8) : P8 α → α := @D8.rec (fun _ => P8 α → α) (@P8.a0 α) (@P8.a1 α) (@P8.a2 α) (@P8.a3 α) (@P8.a4 α) (@P8.a5 α) (@P8.a6 α) (@P8.a7 α) d
noncomputable def put8 {α : Type} (d : D8) : (α → α) → P8 α → P8 α := @D8.rec (fun _ => (α → α) → P8 α → P8 α) (@up0 α) (@up1 α) (@up2 α) (@up3 α) (@up4 α) (@up5 α) (@up6 α) (@up7 α) d
theorem sel_put {α : Type} (d e : D8) (U : α → α) (t : P8 α) : (d = e → sel8 d (put8 e U t) = U (sel8 d t)) ∧ (d ≠ e → sel8 d (put8 e U t) = sel8 d t) := by
 constructor
 ·rintro rfl; cases d <;> rfl
 ·intro h; cases d <;> cases e <;> first | rfl | exact absurd rfl h
def Fx (L : Type) : Nat → Type
 | 0 => L
 | n + 1 => P8 (Fx L n)
section
variable {L : Type}
noncomputable def leafN (m : Nat) : (n : Nat) → Fx L n → Nat → L
 | 0, t, _ => t
 | n + 1, t, k => leafN (m * 8) n (@sel8 (Fx L n) (dg m k) t) k
noncomputable def updN (f : L → L) (m : Nat) : (n : Nat) → Nat → Fx L n → Fx L n
 | 0, _ => f
 | n + 1, k => @put8 (Fx L n) (dg m k) (updN f (m * 8) n k)
def allN (x : L) : (n : Nat) → Fx L n
 | 0 => x
 | n + 1 => (⟨allN x n, allN x n, allN x n, allN x n, allN x n, allN x n, allN x n, allN x n⟩ : P8 (Fx L n))
def zip8 {α : Type} (f : α → α → α) (t u : P8 α) : P8 α := ⟨f t.a0 u.a0, f t.a1 u.a1, f t.a2 u.a2, f t.a3 u.a3, f t.a4 u.a4, f t.a5 u.a5, f t.a6 u.a6, f t.a7 u.a7⟩
def zipN (f : L → L → L) : (n : Nat) → Fx L n → Fx L n → Fx L n
 | 0, t, u => f t u
 | n + 1, t, u => @zip8 (Fx L n) (zipN f n) t u
theorem leaf_all (x : L) : ∀ (n m k : Nat), leafN m n (allN x n) k = x
 | 0, _, _ => rfl
 | n + 1, m, k => by
  show leafN (m * 8) n (@sel8 (Fx L n) (dg m k) (⟨allN x n, allN x n, allN x n, allN x n, allN x n, allN x n, allN x n, allN x n⟩ : P8 (Fx L n))) k = x
  have e : @sel8 (Fx L n) (dg m k) (⟨allN x n, allN x n, allN x n, allN x n, allN x n, allN x n, allN x n, allN x n⟩ : P8 (Fx L n)) = allN x n := by cases dg m k <;> rfl
  rw [e]; exact leaf_all x n _ _
theorem leaf_zip (f : L → L → L) : ∀ (n m : Nat) (t u : Fx L n) (k : Nat), leafN m n (zipN f n t u) k = f (leafN m n t k) (leafN m n u k)
 | 0, _, _, _, _ => rfl
 | n + 1, m, t, u, k => by
  show leafN (m * 8) n (@sel8 (Fx L n) (dg m k) (@zip8 (Fx L n) (zipN f n) t u)) k = f (leafN (m * 8) n (@sel8 (Fx L n) (dg m k) t) k) (leafN (m * 8) n (@sel8 (Fx L n) (dg m k) u) k)
  have e : @sel8 (Fx L n) (dg m k) (@zip8 (Fx L n) (zipN f n) t u) = zipN f n (@sel8 (Fx L n) (dg m k) t) (@sel8 (Fx L n) (dg m k) u) := by cases dg m k <;> rfl
  rw [e]; exact leaf_zip f n _ _ _ _
theorem mod_eight (n a b : Nat) : (a % 8 ^ (n + 1) = b % 8 ^ (n + 1)) ↔ (a % 8 = b % 8 ∧ a / 8 % 8 ^ n = b / 8 % 8 ^ n) := by
 have h := fun x : Nat => show x % 8 ^ (n + 1) = x % 8 + 8 * (x / 8 % 8 ^ n) by rw [Nat.pow_succ, Nat.mul_comm, Nat.mod_mul]
 rw [h a, h b]
 omega
theorem leaf_upd (f : L → L) : ∀ (n m : Nat) (t : Fx L n) (k j : Nat), leafN m n (updN f m n k t) j = if j / m % 8 ^ n = k / m % 8 ^ n then f (leafN m n t j) else leafN m n t j
 | 0, m, t, k, j => by simp [Nat.mod_one]; rfl
 | n + 1, m, t, k, j => by
  have hd : ∀ x, x / (m * 8) = x / m / 8 := fun x => (Nat.div_div_eq_div_mul x m 8).symm
  show leafN (m * 8) n (@sel8 (Fx L n) (dg m j) (@put8 (Fx L n) (dg m k) (updN f (m * 8) n k) t)) j = if j / m % 8 ^ (n + 1) = k / m % 8 ^ (n + 1) then f (leafN (m * 8) n (@sel8 (Fx L n) (dg m j) t) j) else leafN (m * 8) n (@sel8 (Fx L n) (dg m j) t) j
  obtain ⟨h1, h2⟩ := @sel_put (Fx L n) (dg m j) (dg m k) (updN f (m * 8) n k) t
  by_cases hj : j / m % 8 = k / m % 8
  ·rw [h1 (dg_eq.2 hj), leaf_upd f n (m * 8), hd, hd]
   by_cases he : j / m / 8 % 8 ^ n = k / m / 8 % 8 ^ n
   ·rw [if_pos he, if_pos ((mod_eight ..).2 ⟨hj, he⟩)]
   ·rw [if_neg he, if_neg (fun h => he ((mod_eight ..).1 h).2)]
  ·rw [h2 (fun h => hj (dg_eq.1 h)), if_neg (fun h => hj ((mod_eight ..).1 h).1)]
theorem ble_lt (k m : Nat) : Nat.ble k m = decide (k < m + 1) := by
 by_cases h : k < m + 1
 ·rw [decide_eq_true h]; exact Nat.ble_eq_true_of_le (by omega)
 ·rw [decide_eq_false h]
  cases hb : Nat.ble k m with
  | false => rfl
  | true => exact absurd (Nat.le_of_ble_eq_true hb) (by omega)
end
def fam (c : Nat → Option Chunk) : Chunk where
 fp k := ∃ s x, c s = some x ∧ x.fp k
 ok w := (∀ s x, c s = some x → x.ok w) ∧ ∀ s t x y, c s = some x → c t = some y → s ≠ t → ∀ k, x.fp k → ¬ y.fp k
 loc w w' h hw := ⟨fun s x hs => x.loc w w' (fun k hk => h k ⟨s, x, hs, hk⟩) (hw.1 s x hs), hw.2⟩
section
variable {w0 w : World} {O : List Nat} {C : List Chunk} {c : Nat → Option Chunk}
theorem fam_get (h : St w0 O (fam c :: C) w) {s : Nat} {x : Chunk} (hs : c s = some x) : x.ok w := (h.ok _ (List.mem_cons_self ..)).1 s x hs
theorem fam_split (h : St w0 O (fam c :: C) w) {s : Nat} {x : Chunk} (hs : c s = some x) : St w0 O (x :: fam (fun t => if t = s then none else c t) :: C) w := by
 have hf := h.ok _ (List.mem_cons_self ..)
 have hd := List.pairwise_cons.1 h.disj
 refine ⟨h.os, h.tape, h.output, h.size, h.old, fun y hy => ?_, fun y hy k hk => ?_, ?_⟩
 ·rcases List.mem_cons.1 hy with rfl | hy
  ·exact hf.1 s _ hs
  ·rcases List.mem_cons.1 hy with rfl | hy
   ·refine ⟨fun t z ht => ?_, fun t u y z ht hu hne => ?_⟩
    ·dsimp only at ht; split at ht
     ·cases ht
     ·exact hf.1 t z ht
    ·dsimp only at ht hu
     split at ht
     ·cases ht
     ·split at hu
      ·cases hu
      ·exact hf.2 t u y z ht hu hne
   ·exact h.ok y (List.mem_cons_of_mem _ hy)
 ·rcases List.mem_cons.1 hy with rfl | hy
  ·exact h.bnd _ (List.mem_cons_self ..) k ⟨s, _, hs, hk⟩
  ·rcases List.mem_cons.1 hy with rfl | hy
   ·obtain ⟨t, z, ht, hz⟩ := hk
    dsimp only at ht; split at ht
    ·cases ht
    ·exact h.bnd _ (List.mem_cons_self ..) k ⟨t, z, ht, hz⟩
   ·exact h.bnd y (List.mem_cons_of_mem _ hy) k hk
 ·refine List.pairwise_cons.2 ⟨fun y hy k hk => ?_, List.pairwise_cons.2 ⟨fun y hy k hk => ?_, hd.2⟩⟩
  ·rcases List.mem_cons.1 hy with rfl | hy
   ·rintro ⟨t, z, ht, hz⟩
    dsimp only at ht; split at ht
    ·cases ht
    ·rename_i hne
     exact hf.2 s t x z hs ht (Ne.symm hne) k hk hz
   ·exact hd.1 y hy k ⟨s, x, hs, hk⟩
  ·obtain ⟨t, z, ht, hz⟩ := hk
   dsimp only at ht; split at ht
   ·cases ht
   ·exact hd.1 y hy k ⟨t, z, ht, hz⟩
theorem fam_join {s : Nat} {x : Chunk} (hs : c s = none) (h : St w0 O (x :: fam c :: C) w) : St w0 O (fam (fun t => if t = s then some x else c t) :: C) w := by
 have hx := h.ok x (List.mem_cons_self ..)
 have hf := h.ok _ (List.mem_cons_of_mem _ (List.mem_cons_self ..))
 obtain ⟨hd1, hd2⟩ := List.pairwise_cons.1 h.disj
 obtain ⟨hd3, hd4⟩ := List.pairwise_cons.1 hd2
 have hap := hd1 _ (List.mem_cons_self ..)
 refine ⟨h.os, h.tape, h.output, h.size, h.old, fun y hy => ?_, fun y hy k hk => ?_, ?_⟩
 ·rcases List.mem_cons.1 hy with rfl | hy
  ·refine ⟨fun t z ht => ?_, fun t u y z ht hu hne k hky hkz => ?_⟩
   ·dsimp only at ht; split at ht
    ·cases ht; exact hx
    ·exact hf.1 t z ht
   ·dsimp only at ht hu
    split at ht
    ·cases ht
     split at hu
     ·rename_i e1 e2; exact hne (e1.trans e2.symm)
     ·exact hap k hky ⟨u, z, hu, hkz⟩
    ·split at hu
     ·cases hu; exact hap k hkz ⟨t, y, ht, hky⟩
     ·exact hf.2 t u y z ht hu hne k hky hkz
  ·exact h.ok y (List.mem_cons_of_mem _ (List.mem_cons_of_mem _ hy))
 ·rcases List.mem_cons.1 hy with rfl | hy
  ·obtain ⟨t, z, ht, hz⟩ := hk
   dsimp only at ht; split at ht
   ·cases ht; exact h.bnd _ (List.mem_cons_self ..) k hz
   ·exact h.bnd _ (List.mem_cons_of_mem _ (List.mem_cons_self ..)) k ⟨t, z, ht, hz⟩
  ·exact h.bnd y (List.mem_cons_of_mem _ (List.mem_cons_of_mem _ hy)) k hk
 ·refine List.pairwise_cons.2 ⟨fun y hy k hk => ?_, hd4⟩
  obtain ⟨t, z, ht, hz⟩ := hk
  dsimp only at ht; split at ht
  ·cases ht; exact hd1 y (List.mem_cons_of_mem _ hy) k hz
  ·exact hd3 y hy k ⟨t, z, ht, hz⟩
theorem fam_eq {c d : Nat → Option Chunk} (h : ∀ s, c s = d s) (hS : St w0 O (fam c :: C) w) : St w0 O (fam d :: C) w := by
 rw [← show c = d from funext h]; exact hS
end
end Go.X
namespace Go.Eng
open Go Go.RowKit
section
variable {P : Program} {w0 : World} {O : List Nat} {ops : Array Oper} {Q : Exit → Act → World → Prop} {N : Nat} {D : List Deferred} {L : FL} {C : List Chunk} {K : Act → World → Prop}
variable {d : Nat} {ty : TypeId} {pos : String} {af : Array Edge}
theorem Yl.convert {F : World → Prop} {t1 t2 : TypeId} {x : Operand} {vx v : Value} (hx : ev L x = some vx) (hr : ∀ w, (Go.convert t1 t2 vx).run P w = .ok v w) :
  Yl P N D L F ⟨some d, .convert t1 t2 x, ty, pos, af, none⟩ v := fun a w hF _ => by
 simp [execOp, hF.ev hx, hr w]
def fldTB (P : Program) (t : TypeId) (f : Nat) : Option (TypeId × Nat) := match P.underlying t with
 | some (.struct fields) => (fields[f]?).map fun fd => (fd.type, fd.offset)
 | _ => none
theorem fldTB_some {t ft : TypeId} {f off : Nat} (h : fldTB P t f = some (ft, off)) : ∃ (fields : Array Field) (fd : Field), P.underlying t = some (.struct fields) ∧ fields[f]? = some fd ∧ fd.type = ft ∧ fd.offset = off := by
 unfold fldTB at h
 split at h
 ·rename_i fields hu
  cases hq : fields[f]? with
  | none => rw [hq] at h; cases h
  | some fd =>
   rw [hq] at h
   simp only [Option.map_some, Option.some.injEq, Prod.mk.injEq] at h
   exact ⟨fields, fd, hu, hq, h.1, h.2⟩
 ·cases h
end
end Go.Eng
namespace Go.X
open Go Go.Eng Go.RowKit Dg Go.Proofs.YtndpdhamadiopaaGreatDoor
inductive SV where
 | int (k : IntKind) (i : Int)
 | bool (b : Bool)
 | str (l : List Nat)
 | ptr (s off : Nat)
 | nilp
 | sl (s i n sz : Nat)        -- of a row, from element i on
 | slx (s off n cap : Nat)    -- its capacity is known
 | nils
 | dg (t : BT) (s : Nat)      -- a diagram's nodes
 | mp (s : Nat)
 | nilm
 | fn (f : Nat) (us cs : List SV)
 | nilf
 | ifc (t : Nat) (v : SV)
 | nili
 | agg (l : List SV)
 | tup (l : List SV)
 | opq (s : Nat)              -- not known
 | yl (s : Nat)               -- yield, of a loop's record
noncomputable def gAS (t : Fx (Option SV) 3) (k : Nat) : Option SV := @D8.rec (fun _ => Fx (Option SV) 1 → Fx (Option SV) 0) (@P8.a0 (Fx (Option SV) 0)) (@P8.a1 (Fx (Option SV) 0)) (@P8.a2 (Fx (Option SV) 0)) (@P8.a3 (Fx (Option SV) 0)) (@P8.a4 (Fx (Option SV) 0)) (@P8.a5 (Fx (Option SV) 0)) (@P8.a6 (Fx (Option SV) 0)) (@P8.a7 (Fx (Option SV) 0)) (dg 64 k) (@D8.rec (fun _ => Fx (Option SV) 2 → Fx (Option SV) 1) (@P8.a0 (Fx (Option SV) 1)) (@P8.a1 (Fx (Option SV) 1)) (@P8.a2 (Fx (Option SV) 1)) (@P8.a3 (Fx (Option SV) 1)) (@P8.a4 (Fx (Option SV) 1)) (@P8.a5 (Fx (Option SV) 1)) (@P8.a6 (Fx (Option SV) 1)) (@P8.a7 (Fx (Option SV) 1)) (dg 8 k) (@D8.rec (fun _ => Fx (Option SV) 3 → Fx (Option SV) 2) (@P8.a0 (Fx (Option SV) 2)) (@P8.a1 (Fx (Option SV) 2)) (@P8.a2 (Fx (Option SV) 2)) (@P8.a3 (Fx (Option SV) 2)) (@P8.a4 (Fx (Option SV) 2)) (@P8.a5 (Fx (Option SV) 2)) (@P8.a6 (Fx (Option SV) 2)) (@P8.a7 (Fx (Option SV) 2)) (dg 1 k) t))
noncomputable def uAS (x : SV) (k : Nat) (t : Fx (Option SV) 3) : Fx (Option SV) 3 := (@D8.rec (fun _ => (Fx (Option SV) 2 → Fx (Option SV) 2) → Fx (Option SV) 3 → Fx (Option SV) 3) (@up0 (Fx (Option SV) 2)) (@up1 (Fx (Option SV) 2)) (@up2 (Fx (Option SV) 2)) (@up3 (Fx (Option SV) 2)) (@up4 (Fx (Option SV) 2)) (@up5 (Fx (Option SV) 2)) (@up6 (Fx (Option SV) 2)) (@up7 (Fx (Option SV) 2)) (dg 1 k) (@D8.rec (fun _ => (Fx (Option SV) 1 → Fx (Option SV) 1) → Fx (Option SV) 2 → Fx (Option SV) 2) (@up0 (Fx (Option SV) 1)) (@up1 (Fx (Option SV) 1)) (@up2 (Fx (Option SV) 1)) (@up3 (Fx (Option SV) 1)) (@up4 (Fx (Option SV) 1)) (@up5 (Fx (Option SV) 1)) (@up6 (Fx (Option SV) 1)) (@up7 (Fx (Option SV) 1)) (dg 8 k) (@D8.rec (fun _ => (Fx (Option SV) 0 → Fx (Option SV) 0) → Fx (Option SV) 1 → Fx (Option SV) 1) (@up0 (Fx (Option SV) 0)) (@up1 (Fx (Option SV) 0)) (@up2 (Fx (Option SV) 0)) (@up3 (Fx (Option SV) 0)) (@up4 (Fx (Option SV) 0)) (@up5 (Fx (Option SV) 0)) (@up6 (Fx (Option SV) 0)) (@up7 (Fx (Option SV) 0)) (dg 64 k) (fun _ => some x)))) t
theorem gAS_eq (t : Fx (Option SV) 3) (k : Nat) : gAS t k = leafN 1 3 t k := rfl
theorem uAS_eq (x : SV) (k : Nat) (t : Fx (Option SV) 3) : uAS x k t = updN (fun _ => some x) 1 3 k t := rfl
noncomputable def gBS (t : Fx (Option SV) 5) (k : Nat) : Option SV := @D8.rec (fun _ => Fx (Option SV) 1 → Fx (Option SV) 0) (@P8.a0 (Fx (Option SV) 0)) (@P8.a1 (Fx (Option SV) 0)) (@P8.a2 (Fx (Option SV) 0)) (@P8.a3 (Fx (Option SV) 0)) (@P8.a4 (Fx (Option SV) 0)) (@P8.a5 (Fx (Option SV) 0)) (@P8.a6 (Fx (Option SV) 0)) (@P8.a7 (Fx (Option SV) 0)) (dg 4096 k) (@D8.rec (fun _ => Fx (Option SV) 2 → Fx (Option SV) 1) (@P8.a0 (Fx (Option SV) 1)) (@P8.a1 (Fx (Option SV) 1)) (@P8.a2 (Fx (Option SV) 1)) (@P8.a3 (Fx (Option SV) 1)) (@P8.a4 (Fx (Option SV) 1)) (@P8.a5 (Fx (Option SV) 1)) (@P8.a6 (Fx (Option SV) 1)) (@P8.a7 (Fx (Option SV) 1)) (dg 512 k) (@D8.rec (fun _ => Fx (Option SV) 3 → Fx (Option SV) 2) (@P8.a0 (Fx (Option SV) 2)) (@P8.a1 (Fx (Option SV) 2)) (@P8.a2 (Fx (Option SV) 2)) (@P8.a3 (Fx (Option SV) 2)) (@P8.a4 (Fx (Option SV) 2)) (@P8.a5 (Fx (Option SV) 2)) (@P8.a6 (Fx (Option SV) 2)) (@P8.a7 (Fx (Option SV) 2)) (dg 64 k) (@D8.rec (fun _ => Fx (Option SV) 4 → Fx (Option SV) 3) (@P8.a0 (Fx (Option SV) 3)) (@P8.a1 (Fx (Option SV) 3)) (@P8.a2 (Fx (Option SV) 3)) (@P8.a3 (Fx (Option SV) 3)) (@P8.a4 (Fx (Option SV) 3)) (@P8.a5 (Fx (Option SV) 3)) (@P8.a6 (Fx (Option SV) 3)) (@P8.a7 (Fx (Option SV) 3)) (dg 8 k) (@D8.rec (fun _ => Fx (Option SV) 5 → Fx (Option SV) 4) (@P8.a0 (Fx (Option SV) 4)) (@P8.a1 (Fx (Option SV) 4)) (@P8.a2 (Fx (Option SV) 4)) (@P8.a3 (Fx (Option SV) 4)) (@P8.a4 (Fx (Option SV) 4)) (@P8.a5 (Fx (Option SV) 4)) (@P8.a6 (Fx (Option SV) 4)) (@P8.a7 (Fx (Option SV) 4)) (dg 1 k) t))))
noncomputable def uBS (x : SV) (k : Nat) (t : Fx (Option SV) 5) : Fx (Option SV) 5 := (@D8.rec (fun _ => (Fx (Option SV) 4 → Fx (Option SV) 4) → Fx (Option SV) 5 → Fx (Option SV) 5) (@up0 (Fx (Option SV) 4)) (@up1 (Fx (Option SV) 4)) (@up2 (Fx (Option SV) 4)) (@up3 (Fx (Option SV) 4)) (@up4 (Fx (Option SV) 4)) (@up5 (Fx (Option SV) 4)) (@up6 (Fx (Option SV) 4)) (@up7 (Fx (Option SV) 4)) (dg 1 k) (@D8.rec (fun _ => (Fx (Option SV) 3 → Fx (Option SV) 3) → Fx (Option SV) 4 → Fx (Option SV) 4) (@up0 (Fx (Option SV) 3)) (@up1 (Fx (Option SV) 3)) (@up2 (Fx (Option SV) 3)) (@up3 (Fx (Option SV) 3)) (@up4 (Fx (Option SV) 3)) (@up5 (Fx (Option SV) 3)) (@up6 (Fx (Option SV) 3)) (@up7 (Fx (Option SV) 3)) (dg 8 k) (@D8.rec (fun _ => (Fx (Option SV) 2 → Fx (Option SV) 2) → Fx (Option SV) 3 → Fx (Option SV) 3) (@up0 (Fx (Option SV) 2)) (@up1 (Fx (Option SV) 2)) (@up2 (Fx (Option SV) 2)) (@up3 (Fx (Option SV) 2)) (@up4 (Fx (Option SV) 2)) (@up5 (Fx (Option SV) 2)) (@up6 (Fx (Option SV) 2)) (@up7 (Fx (Option SV) 2)) (dg 64 k) (@D8.rec (fun _ => (Fx (Option SV) 1 → Fx (Option SV) 1) → Fx (Option SV) 2 → Fx (Option SV) 2) (@up0 (Fx (Option SV) 1)) (@up1 (Fx (Option SV) 1)) (@up2 (Fx (Option SV) 1)) (@up3 (Fx (Option SV) 1)) (@up4 (Fx (Option SV) 1)) (@up5 (Fx (Option SV) 1)) (@up6 (Fx (Option SV) 1)) (@up7 (Fx (Option SV) 1)) (dg 512 k) (@D8.rec (fun _ => (Fx (Option SV) 0 → Fx (Option SV) 0) → Fx (Option SV) 1 → Fx (Option SV) 1) (@up0 (Fx (Option SV) 0)) (@up1 (Fx (Option SV) 0)) (@up2 (Fx (Option SV) 0)) (@up3 (Fx (Option SV) 0)) (@up4 (Fx (Option SV) 0)) (@up5 (Fx (Option SV) 0)) (@up6 (Fx (Option SV) 0)) (@up7 (Fx (Option SV) 0)) (dg 4096 k) (fun _ => some x)))))) t
theorem gBS_eq (t : Fx (Option SV) 5) (k : Nat) : gBS t k = leafN 1 5 t k := rfl
theorem uBS_eq (x : SV) (k : Nat) (t : Fx (Option SV) 5) : uBS x k t = updN (fun _ => some x) 1 5 k t := rfl
structure TrS where
 a : Fx (Option SV) 3
 b : Fx (Option SV) 5
 c : Tq SV
namespace TrS
def lf : TrS := ⟨allN none 3, allN none 5, .lf⟩
noncomputable def get (t : TrS) (k : Nat) : Option SV := @Bool.rec (fun _ => Option SV) (@Bool.rec (fun _ => Option SV) (t.c.get k) (gBS t.b k) (Nat.ble k 32767)) (gAS t.a k) (Nat.ble k 511)
noncomputable def set (t : TrS) (x : SV) (k : Nat) : TrS := @Bool.rec (fun _ => TrS) (@Bool.rec (fun _ => TrS) ⟨t.a, t.b, t.c.set x k⟩ ⟨t.a, uBS x k t.b, t.c⟩ (Nat.ble k 32767)) ⟨uAS x k t.a, t.b, t.c⟩ (Nat.ble k 511)
theorem get_eq (t : TrS) (k : Nat) : t.get k = if k < 512 then leafN 1 3 t.a k else if k < 32768 then leafN 1 5 t.b k else t.c.get k := by
 unfold get
 rw [ble_lt k 511, ble_lt k 32767]
 by_cases h : k < 512
 ·rw [decide_eq_true h, if_pos h]; exact gAS_eq _ _
 ·rw [decide_eq_false h, if_neg h]
  by_cases h2 : k < 32768
  ·rw [decide_eq_true h2, if_pos h2]; exact gBS_eq _ _
  ·rw [decide_eq_false h2, if_neg h2]
theorem set_eq (t : TrS) (x : SV) (k : Nat) : t.set x k = if k < 512 then ⟨updN (fun _ => some x) 1 3 k t.a, t.b, t.c⟩ else if k < 32768 then ⟨t.a, updN (fun _ => some x) 1 5 k t.b, t.c⟩ else ⟨t.a, t.b, t.c.set x k⟩ := by
 unfold set
 rw [ble_lt k 511, ble_lt k 32767]
 by_cases h : k < 512
 ·rw [decide_eq_true h, if_pos h, ← uAS_eq]
 ·rw [decide_eq_false h, if_neg h]
  by_cases h2 : k < 32768
  ·rw [decide_eq_true h2, if_pos h2, ← uBS_eq]
  ·rw [decide_eq_false h2, if_neg h2]
theorem get_lf (k : Nat) : lf.get k = none := by
 rw [get_eq]
 split
 ·exact leaf_all ..
 ·split
  ·exact leaf_all ..
  ·exact Tq.get_lf k
theorem get_set (t : TrS) (x : SV) (k j : Nat) (h : k < 2 ^ 40) : (t.set x k).get j = if j = k then some x else t.get j := by
 rw [get_eq, get_eq, set_eq]
 by_cases hk : k < 512
 ·rw [if_pos hk]
  by_cases hj : j < 512
  ·rw [if_pos hj, if_pos hj, leaf_upd, Nat.div_one, Nat.div_one, Nat.mod_eq_of_lt (a := j) (by omega), Nat.mod_eq_of_lt (a := k) (by omega)]
  ·rw [if_neg hj, if_neg hj, if_neg (show ¬ j = k by omega)]
 ·rw [if_neg hk]
  by_cases hk2 : k < 32768
  ·rw [if_pos hk2]
   by_cases hj : j < 512
   ·rw [if_pos hj, if_pos hj, if_neg (show ¬ j = k by omega)]
   ·rw [if_neg hj, if_neg hj]
    by_cases hj2 : j < 32768
    ·rw [if_pos hj2, if_pos hj2, leaf_upd, Nat.div_one, Nat.div_one, Nat.mod_eq_of_lt (a := j) (by omega), Nat.mod_eq_of_lt (a := k) (by omega)]
    ·rw [if_neg hj2, if_neg hj2, if_neg (show ¬ j = k by omega)]
  ·rw [if_neg hk2]
   by_cases hj : j < 512
   ·rw [if_pos hj, if_pos hj, if_neg (show ¬ j = k by omega)]
   ·rw [if_neg hj, if_neg hj]
    by_cases hj2 : j < 32768
    ·rw [if_pos hj2, if_pos hj2, if_neg (show ¬ j = k by omega)]
    ·rw [if_neg hj2, if_neg hj2, Tq.get_set _ _ _ _ h]
end TrS
structure As where
 b : Option Nat
 c : Nat
 v : Value
 o : Option Obj
 one : v.oneCell' = true
abbrev Rho := Nat → As
def bl (ρ : Rho) (s : Nat) : Nat := (ρ s).b.getD 0
def ad (ρ : Rho) (s : Nat) : Option Addr := (ρ s).b.map fun b => ⟨b, 0, none⟩
mutual
def dv (ρ : Rho) : SV → Value
 | .int k i => .int k i
 | .bool b => .bool b
 | .str l => .string (str (l.map UInt8.ofNat))
 | .ptr s off => .pointer (some ⟨bl ρ s, off, none⟩)
 | .nilp => .pointer none
 | .sl s i n sz => .slice ((ρ s).b.map fun b => ⟨b, i * sz, none⟩) n ((ρ s).c - i)
 | .slx s off n cap => .slice (some ⟨bl ρ s, off, none⟩) n cap
 | .nils => .slice none 0 0
 | .dg t s => .slice (ad ρ s) (canon t).1.length (ρ s).c
 | .mp s => .map (some (bl ρ s))
 | .nilm => .map none
 | .fn f us cs => .func (.func f) (dvs ρ us).toArray (dvs ρ cs).toArray
 | .nilf => .nilFunc
 | .ifc t v => .iface t (dv ρ v)
 | .nili => .nilIface
 | .agg l => .agg (dvs ρ l).toArray
 | .tup l => .tuple (dvs ρ l).toArray
 | .opq s => (ρ s).v
 | .yl s => .func (.yield (bl ρ s)) #[] #[]
def dvs (ρ : Rho) : List SV → List Value
 | [] => []
 | x :: r => dv ρ x :: dvs ρ r
end
theorem dvs_map (ρ : Rho) : ∀ l : List SV, dvs ρ l = l.map (dv ρ)
 | [] => rfl
 | x :: r => by rw [dvs, dvs_map ρ r]; rfl
theorem dvs_len (ρ : Rho) (l : List SV) : (dvs ρ l).length = l.length := by rw [dvs_map, List.length_map]
theorem dvs_get {ρ : Rho} {l : List SV} {i : Nat} {x : SV} (h : l[i]? = some x) : (dvs ρ l)[i]? = some (dv ρ x) := by rw [dvs_map, List.getElem?_map, h]; rfl
theorem dvs_append (ρ : Rho) (l m : List SV) : dvs ρ (l ++ m) = dvs ρ l ++ dvs ρ m := by simp [dvs_map]
inductive KK where
 | str | int | two | three
@[reducible] def KK.T : KK → Type
 | .str => List UInt8
 | .int => Nat
 | .two => Nat × Nat
 | .three => Nat × Nat × Nat
instance KK.dec : (k : KK) → DecidableEq k.T
 | .str => inferInstanceAs (DecidableEq (List UInt8))
 | .int => inferInstanceAs (DecidableEq Nat)
 | .two => inferInstanceAs (DecidableEq (Nat × Nat))
 | .three => inferInstanceAs (DecidableEq (Nat × Nat × Nat))
def KK.beq : KK → KK → Bool
 | .str, .str | .int, .int | .two, .two | .three, .three => true
 | _, _ => false
theorem KK.beq_ok {k k' : KK} (h : KK.beq k k' = true) : k = k' := by cases k <;> cases k' <;> first | rfl | cases h
inductive Blk where
 | cells (cs : List SV) (e : TypeId)
 | row (xs : List SV) (n : Nat) (e : TypeId) (sz : Nat)
 | dgr (t : BT)
 | kv (k : KK) (l : List (List Nat × SV))    -- a map
 | ro (cs : List SV)                -- a variable of the program's, to be read
 | dead
 | lp (N : Nat) (T : TrS) (ps : List Nat) (asg body : Code) (busy : Bool)    -- the record of a loop over a function
 | dfd                              -- the block for deferred calls of such a loop's rounds
 | itr (t : Nat) (k : KK) (l : List (List Nat × SV)) (left : List (List Nat)) (cur : Option (List Nat))   -- an iterator over the map t
 | sit (l : List Nat) (pos : Nat)   -- one over a string
 | rd (xs : List SV)                -- cells to be read
 | hol (cs : List (Option SV)) (e : TypeId)    -- cells of which some are not known
noncomputable def gAB (t : Fx (Option Blk) 3) (k : Nat) : Option Blk := @D8.rec (fun _ => Fx (Option Blk) 1 → Fx (Option Blk) 0) (@P8.a0 (Fx (Option Blk) 0)) (@P8.a1 (Fx (Option Blk) 0)) (@P8.a2 (Fx (Option Blk) 0)) (@P8.a3 (Fx (Option Blk) 0)) (@P8.a4 (Fx (Option Blk) 0)) (@P8.a5 (Fx (Option Blk) 0)) (@P8.a6 (Fx (Option Blk) 0)) (@P8.a7 (Fx (Option Blk) 0)) (dg 64 k) (@D8.rec (fun _ => Fx (Option Blk) 2 → Fx (Option Blk) 1) (@P8.a0 (Fx (Option Blk) 1)) (@P8.a1 (Fx (Option Blk) 1)) (@P8.a2 (Fx (Option Blk) 1)) (@P8.a3 (Fx (Option Blk) 1)) (@P8.a4 (Fx (Option Blk) 1)) (@P8.a5 (Fx (Option Blk) 1)) (@P8.a6 (Fx (Option Blk) 1)) (@P8.a7 (Fx (Option Blk) 1)) (dg 8 k) (@D8.rec (fun _ => Fx (Option Blk) 3 → Fx (Option Blk) 2) (@P8.a0 (Fx (Option Blk) 2)) (@P8.a1 (Fx (Option Blk) 2)) (@P8.a2 (Fx (Option Blk) 2)) (@P8.a3 (Fx (Option Blk) 2)) (@P8.a4 (Fx (Option Blk) 2)) (@P8.a5 (Fx (Option Blk) 2)) (@P8.a6 (Fx (Option Blk) 2)) (@P8.a7 (Fx (Option Blk) 2)) (dg 1 k) t))
noncomputable def uAB (x : Blk) (k : Nat) (t : Fx (Option Blk) 3) : Fx (Option Blk) 3 := (@D8.rec (fun _ => (Fx (Option Blk) 2 → Fx (Option Blk) 2) → Fx (Option Blk) 3 → Fx (Option Blk) 3) (@up0 (Fx (Option Blk) 2)) (@up1 (Fx (Option Blk) 2)) (@up2 (Fx (Option Blk) 2)) (@up3 (Fx (Option Blk) 2)) (@up4 (Fx (Option Blk) 2)) (@up5 (Fx (Option Blk) 2)) (@up6 (Fx (Option Blk) 2)) (@up7 (Fx (Option Blk) 2)) (dg 1 k) (@D8.rec (fun _ => (Fx (Option Blk) 1 → Fx (Option Blk) 1) → Fx (Option Blk) 2 → Fx (Option Blk) 2) (@up0 (Fx (Option Blk) 1)) (@up1 (Fx (Option Blk) 1)) (@up2 (Fx (Option Blk) 1)) (@up3 (Fx (Option Blk) 1)) (@up4 (Fx (Option Blk) 1)) (@up5 (Fx (Option Blk) 1)) (@up6 (Fx (Option Blk) 1)) (@up7 (Fx (Option Blk) 1)) (dg 8 k) (@D8.rec (fun _ => (Fx (Option Blk) 0 → Fx (Option Blk) 0) → Fx (Option Blk) 1 → Fx (Option Blk) 1) (@up0 (Fx (Option Blk) 0)) (@up1 (Fx (Option Blk) 0)) (@up2 (Fx (Option Blk) 0)) (@up3 (Fx (Option Blk) 0)) (@up4 (Fx (Option Blk) 0)) (@up5 (Fx (Option Blk) 0)) (@up6 (Fx (Option Blk) 0)) (@up7 (Fx (Option Blk) 0)) (dg 64 k) (fun _ => some x)))) t
theorem gAB_eq (t : Fx (Option Blk) 3) (k : Nat) : gAB t k = leafN 1 3 t k := rfl
theorem uAB_eq (x : Blk) (k : Nat) (t : Fx (Option Blk) 3) : uAB x k t = updN (fun _ => some x) 1 3 k t := rfl
noncomputable def gBB (t : Fx (Option Blk) 5) (k : Nat) : Option Blk := @D8.rec (fun _ => Fx (Option Blk) 1 → Fx (Option Blk) 0) (@P8.a0 (Fx (Option Blk) 0)) (@P8.a1 (Fx (Option Blk) 0)) (@P8.a2 (Fx (Option Blk) 0)) (@P8.a3 (Fx (Option Blk) 0)) (@P8.a4 (Fx (Option Blk) 0)) (@P8.a5 (Fx (Option Blk) 0)) (@P8.a6 (Fx (Option Blk) 0)) (@P8.a7 (Fx (Option Blk) 0)) (dg 4096 k) (@D8.rec (fun _ => Fx (Option Blk) 2 → Fx (Option Blk) 1) (@P8.a0 (Fx (Option Blk) 1)) (@P8.a1 (Fx (Option Blk) 1)) (@P8.a2 (Fx (Option Blk) 1)) (@P8.a3 (Fx (Option Blk) 1)) (@P8.a4 (Fx (Option Blk) 1)) (@P8.a5 (Fx (Option Blk) 1)) (@P8.a6 (Fx (Option Blk) 1)) (@P8.a7 (Fx (Option Blk) 1)) (dg 512 k) (@D8.rec (fun _ => Fx (Option Blk) 3 → Fx (Option Blk) 2) (@P8.a0 (Fx (Option Blk) 2)) (@P8.a1 (Fx (Option Blk) 2)) (@P8.a2 (Fx (Option Blk) 2)) (@P8.a3 (Fx (Option Blk) 2)) (@P8.a4 (Fx (Option Blk) 2)) (@P8.a5 (Fx (Option Blk) 2)) (@P8.a6 (Fx (Option Blk) 2)) (@P8.a7 (Fx (Option Blk) 2)) (dg 64 k) (@D8.rec (fun _ => Fx (Option Blk) 4 → Fx (Option Blk) 3) (@P8.a0 (Fx (Option Blk) 3)) (@P8.a1 (Fx (Option Blk) 3)) (@P8.a2 (Fx (Option Blk) 3)) (@P8.a3 (Fx (Option Blk) 3)) (@P8.a4 (Fx (Option Blk) 3)) (@P8.a5 (Fx (Option Blk) 3)) (@P8.a6 (Fx (Option Blk) 3)) (@P8.a7 (Fx (Option Blk) 3)) (dg 8 k) (@D8.rec (fun _ => Fx (Option Blk) 5 → Fx (Option Blk) 4) (@P8.a0 (Fx (Option Blk) 4)) (@P8.a1 (Fx (Option Blk) 4)) (@P8.a2 (Fx (Option Blk) 4)) (@P8.a3 (Fx (Option Blk) 4)) (@P8.a4 (Fx (Option Blk) 4)) (@P8.a5 (Fx (Option Blk) 4)) (@P8.a6 (Fx (Option Blk) 4)) (@P8.a7 (Fx (Option Blk) 4)) (dg 1 k) t))))
noncomputable def uBB (x : Blk) (k : Nat) (t : Fx (Option Blk) 5) : Fx (Option Blk) 5 := (@D8.rec (fun _ => (Fx (Option Blk) 4 → Fx (Option Blk) 4) → Fx (Option Blk) 5 → Fx (Option Blk) 5) (@up0 (Fx (Option Blk) 4)) (@up1 (Fx (Option Blk) 4)) (@up2 (Fx (Option Blk) 4)) (@up3 (Fx (Option Blk) 4)) (@up4 (Fx (Option Blk) 4)) (@up5 (Fx (Option Blk) 4)) (@up6 (Fx (Option Blk) 4)) (@up7 (Fx (Option Blk) 4)) (dg 1 k) (@D8.rec (fun _ => (Fx (Option Blk) 3 → Fx (Option Blk) 3) → Fx (Option Blk) 4 → Fx (Option Blk) 4) (@up0 (Fx (Option Blk) 3)) (@up1 (Fx (Option Blk) 3)) (@up2 (Fx (Option Blk) 3)) (@up3 (Fx (Option Blk) 3)) (@up4 (Fx (Option Blk) 3)) (@up5 (Fx (Option Blk) 3)) (@up6 (Fx (Option Blk) 3)) (@up7 (Fx (Option Blk) 3)) (dg 8 k) (@D8.rec (fun _ => (Fx (Option Blk) 2 → Fx (Option Blk) 2) → Fx (Option Blk) 3 → Fx (Option Blk) 3) (@up0 (Fx (Option Blk) 2)) (@up1 (Fx (Option Blk) 2)) (@up2 (Fx (Option Blk) 2)) (@up3 (Fx (Option Blk) 2)) (@up4 (Fx (Option Blk) 2)) (@up5 (Fx (Option Blk) 2)) (@up6 (Fx (Option Blk) 2)) (@up7 (Fx (Option Blk) 2)) (dg 64 k) (@D8.rec (fun _ => (Fx (Option Blk) 1 → Fx (Option Blk) 1) → Fx (Option Blk) 2 → Fx (Option Blk) 2) (@up0 (Fx (Option Blk) 1)) (@up1 (Fx (Option Blk) 1)) (@up2 (Fx (Option Blk) 1)) (@up3 (Fx (Option Blk) 1)) (@up4 (Fx (Option Blk) 1)) (@up5 (Fx (Option Blk) 1)) (@up6 (Fx (Option Blk) 1)) (@up7 (Fx (Option Blk) 1)) (dg 512 k) (@D8.rec (fun _ => (Fx (Option Blk) 0 → Fx (Option Blk) 0) → Fx (Option Blk) 1 → Fx (Option Blk) 1) (@up0 (Fx (Option Blk) 0)) (@up1 (Fx (Option Blk) 0)) (@up2 (Fx (Option Blk) 0)) (@up3 (Fx (Option Blk) 0)) (@up4 (Fx (Option Blk) 0)) (@up5 (Fx (Option Blk) 0)) (@up6 (Fx (Option Blk) 0)) (@up7 (Fx (Option Blk) 0)) (dg 4096 k) (fun _ => some x)))))) t
theorem gBB_eq (t : Fx (Option Blk) 5) (k : Nat) : gBB t k = leafN 1 5 t k := rfl
theorem uBB_eq (x : Blk) (k : Nat) (t : Fx (Option Blk) 5) : uBB x k t = updN (fun _ => some x) 1 5 k t := rfl
structure TrB where
 a : Fx (Option Blk) 3
 b : Fx (Option Blk) 5
 c : Tq Blk
namespace TrB
def lf : TrB := ⟨allN none 3, allN none 5, .lf⟩
noncomputable def get (t : TrB) (k : Nat) : Option Blk := @Bool.rec (fun _ => Option Blk) (@Bool.rec (fun _ => Option Blk) (t.c.get k) (gBB t.b k) (Nat.ble k 32767)) (gAB t.a k) (Nat.ble k 511)
noncomputable def set (t : TrB) (x : Blk) (k : Nat) : TrB := @Bool.rec (fun _ => TrB) (@Bool.rec (fun _ => TrB) ⟨t.a, t.b, t.c.set x k⟩ ⟨t.a, uBB x k t.b, t.c⟩ (Nat.ble k 32767)) ⟨uAB x k t.a, t.b, t.c⟩ (Nat.ble k 511)
theorem get_eq (t : TrB) (k : Nat) : t.get k = if k < 512 then leafN 1 3 t.a k else if k < 32768 then leafN 1 5 t.b k else t.c.get k := by
 unfold get
 rw [ble_lt k 511, ble_lt k 32767]
 by_cases h : k < 512
 ·rw [decide_eq_true h, if_pos h]; exact gAB_eq _ _
 ·rw [decide_eq_false h, if_neg h]
  by_cases h2 : k < 32768
  ·rw [decide_eq_true h2, if_pos h2]; exact gBB_eq _ _
  ·rw [decide_eq_false h2, if_neg h2]
theorem set_eq (t : TrB) (x : Blk) (k : Nat) : t.set x k = if k < 512 then ⟨updN (fun _ => some x) 1 3 k t.a, t.b, t.c⟩ else if k < 32768 then ⟨t.a, updN (fun _ => some x) 1 5 k t.b, t.c⟩ else ⟨t.a, t.b, t.c.set x k⟩ := by
 unfold set
 rw [ble_lt k 511, ble_lt k 32767]
 by_cases h : k < 512
 ·rw [decide_eq_true h, if_pos h, ← uAB_eq]
 ·rw [decide_eq_false h, if_neg h]
  by_cases h2 : k < 32768
  ·rw [decide_eq_true h2, if_pos h2, ← uBB_eq]
  ·rw [decide_eq_false h2, if_neg h2]
theorem get_lf (k : Nat) : lf.get k = none := by
 rw [get_eq]
 split
 ·exact leaf_all ..
 ·split
  ·exact leaf_all ..
  ·exact Tq.get_lf k
theorem get_set (t : TrB) (x : Blk) (k j : Nat) (h : k < 2 ^ 40) : (t.set x k).get j = if j = k then some x else t.get j := by
 rw [get_eq, get_eq, set_eq]
 by_cases hk : k < 512
 ·rw [if_pos hk]
  by_cases hj : j < 512
  ·rw [if_pos hj, if_pos hj, leaf_upd, Nat.div_one, Nat.div_one, Nat.mod_eq_of_lt (a := j) (by omega), Nat.mod_eq_of_lt (a := k) (by omega)]
  ·rw [if_neg hj, if_neg hj, if_neg (show ¬ j = k by omega)]
 ·rw [if_neg hk]
  by_cases hk2 : k < 32768
  ·rw [if_pos hk2]
   by_cases hj : j < 512
   ·rw [if_pos hj, if_pos hj, if_neg (show ¬ j = k by omega)]
   ·rw [if_neg hj, if_neg hj]
    by_cases hj2 : j < 32768
    ·rw [if_pos hj2, if_pos hj2, leaf_upd, Nat.div_one, Nat.div_one, Nat.mod_eq_of_lt (a := j) (by omega), Nat.mod_eq_of_lt (a := k) (by omega)]
    ·rw [if_neg hj2, if_neg hj2, if_neg (show ¬ j = k by omega)]
  ·rw [if_neg hk2]
   by_cases hj : j < 512
   ·rw [if_pos hj, if_pos hj, if_neg (show ¬ j = k by omega)]
   ·rw [if_neg hj, if_neg hj]
    by_cases hj2 : j < 32768
    ·rw [if_pos hj2, if_pos hj2, if_neg (show ¬ j = k by omega)]
    ·rw [if_neg hj2, if_neg hj2, Tq.get_set _ _ _ _ h]
end TrB
def noC : Chunk where
 fp _ := False
 ok _ := True
 loc _ _ _ h := h
def sk (l : List Nat) : List UInt8 := l.map UInt8.ofNat
abbrev encS (l : List UInt8) : Value := .string (str l)
def KK.enc : (k : KK) → k.T → Value
 | .str => encS
 | .int => encI
 | .two => enc2
 | .three => enc3
def KK.key : (k : KK) → List Nat → k.T
 | .str => sk
 | .int => fun l => l.headD 0
 | .two => fun l => (l.headD 0, l.tail.headD 0)
 | .three => fun l => (l.headD 0, l.tail.headD 0, l.tail.tail.headD 0)
noncomputable def kvf (ρ : Rho) (k : KK) (l : List (List Nat × SV)) : k.T → Option Value := fun q => (l.find? fun p => decide (k.key p.1 = q)).map fun p => dv ρ p.2
def ItrOk {κ : Type} [DecidableEq κ] (bi bm : Nat) (enc : κ → Value) (f : κ → Option Value) (left : List κ) (cur : Option κ) (w : World) : Prop :=
 bi ≠ bm ∧ ∃ (es : Array MapEntry) (clock : Nat) (kvs : List (κ × Value)) (since c0 : Nat) (seen : Array Nat), w.heap[bm]? = some (.map es clock) ∧ es.toList.map (fun e => (e.key, e.val)) = kvs.map (fun p => (enc p.1, p.2)) ∧ (∀ k, f k = kfind kvs k) ∧ MapInv es.toList clock (kvs.map Prod.fst) ∧
  w.heap[bi]? = some (.mapIter (some bm) since seen c0) ∧ (∀ e ∈ es.toList, e.born < since) ∧ since ≤ c0 ∧ since ≤ clock ∧ (∀ (i : Nat) e p, es.toList[i]? = some e → kvs[i]? = some p → (e.born ∈ seen ↔ p.1 ∉ left)) ∧ (∀ q, cur = some q → ∃ (i : Nat) (e : MapEntry) (p : κ × Value) (s0 : Array Nat), es.toList[i]? = some e ∧ kvs[i]? = some p ∧ p.1 = q ∧ seen = s0.push e.born ∧ c0 = clock)
theorem ItrOk.loc {κ : Type} [DecidableEq κ] {bi bm : Nat} {enc : κ → Value} {f : κ → Option Value} {left : List κ} {cur : Option κ} {w w' : World} (h : ItrOk bi bm enc f left cur w) (h1 : w'.heap[bi]? = w.heap[bi]?) (h2 : w'.heap[bm]? = w.heap[bm]?) : ItrOk bi bm enc f left cur w' := by
 obtain ⟨hn, es, clock, kvs, since, c0, seen, g1, g2, g3, g4, g5, g6⟩ := h
 exact ⟨hn, es, clock, kvs, since, c0, seen, h2.trans g1, g2, g3, g4, h1.trans g5, g6⟩
noncomputable def bch (ρ : Rho) (s : Nat) : Blk → Chunk
 | .cells cs e => pt (bl ρ s) (dvs ρ cs) e
 | .row xs n e sz => rowc (.slice (ad ρ s) n (ρ s).c) n e sz (dvs ρ xs)
 | .dgr t => dC (ad ρ s) (ρ s).c t
 | .kv k l => mpg k.enc (bl ρ s) (kvf ρ k l)
 | .ro cs => { fp := fun k => k = bl ρ s, ok := fun w => w.heap[bl ρ s]? = (ρ s).o ∧ ∀ (j : Nat) (x : SV), cs[j]? = some x → w.cell? ⟨bl ρ s, j, none⟩ = some (dv ρ x), loc := fun w w' h ⟨h1, h2⟩ => ⟨(h _ rfl).trans h1, fun j x hx => by rw [World.cell?_of_block (w := w) (w' := w') (a := ⟨bl ρ s, j, none⟩) (h _ rfl)]; exact h2 j x hx⟩ }
 | .dead => noC
 | .lp N T ps asg body busy => { fp := fun k => k = bl ρ s, ok := fun w => ∃ r : Loop, w.heap[bl ρ s]? = some (.loop r) ∧ r.state = (if busy then .busy else .ready) ∧ r.pending = none ∧ r.params = ps.toArray ∧ r.assign = asg ∧ r.body = body ∧ r.tmps.size = N ∧ ∀ i x, T.get i = some x → r.tmps[i]? = some (dv ρ x), loc := fun w w' h ⟨r, h1, h2⟩ => ⟨r, (h _ rfl).trans h1, h2⟩ }
 | .dfd => ob1 (bl ρ s) (.deferred (some []))
 | .itr t k l left cur => { fp := fun q => q = bl ρ s ∨ q = bl ρ t, ok := fun w => ItrOk (bl ρ s) (bl ρ t) k.enc (kvf ρ k l) (left.map k.key) (cur.map k.key) w, loc := fun w w' h hw => hw.loc (h _ (.inl rfl)) (h _ (.inr rfl)) }
 | .sit l pos => ob1 (bl ρ s) (.stringIter (str (l.map UInt8.ofNat)) pos)
 | .rd xs => { fp := fun k => k = bl ρ s, ok := fun w => (ρ s).b = some (bl ρ s) ∧ ∀ (j : Nat) (x : SV), xs[j]? = some x → w.cell? ⟨bl ρ s, j, none⟩ = some (dv ρ x), loc := fun w w' h ⟨h1, h2⟩ => ⟨h1, fun j x hx => by rw [World.cell?_of_block (w := w) (w' := w') (a := ⟨bl ρ s, j, none⟩) (h _ rfl)]; exact h2 j x hx⟩ }
 | .hol cs e => { fp := fun k => k = bl ρ s, ok := fun w => ∃ vs : List Value, w.heap[bl ρ s]? = some (.cells vs.toArray e (0, 0)) ∧ vs.length = cs.length ∧ ∀ (j : Nat) (x : SV), cs[j]? = some (some x) → vs[j]? = some (dv ρ x), loc := fun w w' h ⟨vs, h1, h2⟩ => ⟨vs, (h _ rfl).trans h1, h2⟩ }
noncomputable abbrev memC (ρ : Rho) (M : TrB) : Chunk := fam fun s => (M.get s).map (bch ρ s)
abbrev Asg := Nat → Option As
def Ext (σ : Asg) (ρ : Rho) : Prop := ∀ s p, σ s = some p → ρ s = p
def Asg.le (σ τ : Asg) : Prop := ∀ s p, σ s = some p → τ s = some p
theorem Asg.le.refl (σ : Asg) : σ.le σ := fun _ _ h => h
theorem Asg.le.trans {σ τ υ : Asg} (h : σ.le τ) (h2 : τ.le υ) : σ.le υ := fun s p hs => h2 s p (h s p hs)
theorem Ext.le {σ τ : Asg} {ρ : Rho} (h : σ.le τ) (hE : Ext τ ρ) : Ext σ ρ := fun s p hs => hE s p (h s p hs)
instance : Inhabited As := ⟨⟨none, 0, .bool false, none, rfl⟩⟩
def Asg.rho (σ : Asg) : Rho := fun s => (σ s).getD default
theorem Asg.rho_ext (σ : Asg) : Ext σ σ.rho := fun s p h => by unfold Asg.rho; rw [h]; rfl
def Asg.put (σ : Asg) (s : Nat) (p : As) : Asg := fun t => if t = s then some p else σ t
theorem Asg.put_le {σ : Asg} {s : Nat} {p : As} (h : σ s = none) : σ.le (σ.put s p) := fun t q ht => by
 unfold Asg.put
 split
 ·rename_i e; subst e; rw [h] at ht; cases ht
 ·exact ht
theorem Asg.put_at {σ : Asg} {s : Nat} {p : As} {ρ : Rho} (h : Ext (σ.put s p) ρ) : ρ s = p := h s p (by unfold Asg.put; rw [if_pos rfl])
structure MemS (w0 : World) (O : List Nat) (σ : Asg) (M : TrB) (w : World) : Prop where
 st : ∀ ρ, Ext σ ρ → St w0 O [memC ρ M] w
 dom : ∀ s, M.get s = none ↔ σ s = none
inductive SD where
 | col (s : Nat)
 | fn (g : Nat) (us cs : List SV)
def dD (ρ : Rho) : SD → Deferred
 | .col s => { target := .collected (bl ρ s), args := #[] }
 | .fn g us cs => { target := .fn (.func g) (dvs ρ cs).toArray, args := (dvs ρ us).toArray }
structure FrS (N : Nat) (D : List SD) (σ : Asg) (T : TrS) (a : Act) : Prop where
 defers : ∀ ρ, Ext σ ρ → a.defers = D.map (dD ρ)
 size : a.tmps.size = N
 get : ∀ ρ, Ext σ ρ → ∀ i x, T.get i = some x → a.tmps[i]? = some (dv ρ x)
theorem FrS.le {N : Nat} {D : List SD} {σ τ : Asg} {T : TrS} {a : Act} (h : FrS N D σ T a) (hl : σ.le τ) : FrS N D τ T a := ⟨fun ρ hE => h.defers ρ (hE.le hl), h.size, fun ρ hE => h.get ρ (hE.le hl)⟩
theorem FrS.put {N : Nat} {D : List SD} {σ : Asg} {T : TrS} {a : Act} (h : FrS N D σ T a) {d : Nat} {v : Value} {x : SV} (hd : Nat.blt d N = true) (hN : Nat.ble N 1000000 = true) (hv : ∀ ρ, Ext σ ρ → v = dv ρ x) : FrS N D σ (T.set x d) (a.put (some d) v) := by
 have hd' : d < N := Nat.le_of_ble_eq_true hd
 have hN' : N ≤ 1000000 := Nat.le_of_ble_eq_true hN
 refine ⟨h.defers, by simp [Act.put, h.size], fun ρ hE i y hy => ?_⟩
 rw [TrS.get_set _ _ _ _ (by omega)] at hy
 by_cases hi : i = d
 ·subst hi
  rw [if_pos rfl] at hy
  cases hy
  have : i < a.tmps.size := by rw [h.size]; exact hd'
  simp [Act.put, this, hv ρ hE]
 ·rw [if_neg hi] at hy
  simp [Act.put, Array.getElem?_setIfInBounds_ne (Ne.symm hi), h.get ρ hE i y hy]
def full (a : Act) : FL := (List.range a.tmps.size).map fun i => (i, a.tmps.getD i undef)
theorem lk_map (f : Nat → Value) : ∀ (l : List Nat) (i : Nat), lk (l.map fun j => (j, f j)) i = if i ∈ l then some (f i) else none
 | [], i => rfl
 | j :: l, i => by
  simp only [List.map_cons, lk, lk_map f l i, List.mem_cons]
  by_cases h : j = i
  ·subst h; simp
  ·have : Nat.beq j i = false := by
    cases hb : Nat.beq j i with
    | true => exact absurd (Nat.eq_of_beq_eq_true hb) h
    | false => rfl
   rw [this]
   simp [Ne.symm h]
theorem lk_full {a : Act} {i : Nat} {v : Value} (h : a.tmps[i]? = some v) : lk (full a) i = some v := by
 have hi := (Array.getElem?_eq_some_iff.1 h).1
 unfold full
 rw [lk_map, if_pos (List.mem_range.2 hi), Array.getD_eq_getD_getElem?, h]; rfl
theorem Fr.full (a : Act) : Fr a.tmps.size a.defers (full a) a := ⟨rfl, rfl, fun i v h => by
 unfold X.full at h
 rw [lk_map] at h
 split at h
 ·rename_i hm
  have hi := List.mem_range.1 hm
  cases h
  rw [Array.getD_eq_getD_getElem?, Array.getElem?_eq_getElem hi]; rfl
 ·cases h⟩
end Go.X
namespace Go.X
open Go Go.Eng Go.RowKit Dg Go.Proofs.YtndpdhamadiopaaGreatDoor
def still {α : Type} (P : Program) : Sem α → Option α
 | .pure a => some a
 | .program k => still P (k P)
 | _ => none
theorem still_ok {α : Type} {P : Program} : ∀ {e : Sem α} {a : α}, still P e = some a → ∀ w, e.run P w = .ok a w
 | .pure b, a, h, w => by
  simp only [still, Option.some.injEq] at h
  subst h
  rfl
 | .program k, a, h, w => still_ok (e := k P) h w
 | .load .., _, h, _ | .store .., _, h, _ | .new .., _, h, _ | .shape .., _, h, _ | .freeze .., _, h, _ | .frozen .., _, h, _ | .getObj .., _, h, _ | .setObj .., _, h, _ | .choose .., _, h, _ | .sys .., _, h, _ | .mark .., _, h, _ | .halt _, _, h, _ => by simp [still] at h
def cv1 (v : Value) : Option SV := match v with
 | .int k i => some (.int k i)
 | .bool b => some (.bool b)
 | .string s => some (.str (s.data.toList.map UInt8.toNat))
 | .pointer a => match a with | none => some .nilp | some _ => none
 | .slice a n c => match a with | none => (bif Nat.beq n 0 && Nat.beq c 0 then some .nils else none) | some _ => none
 | .map r => match r with | none => some .nilm | some _ => none
 | .nilFunc => some .nilf
 | .nilIface => some .nili
 | .func f us cs => match f with | .func k => (match us.toList, cs.toList with | [], [] => some (.fn k [] []) | _, _ => none) | _ => none
 | _ => none
def cvs : List Value → Option (List SV)
 | [] => some []
 | v :: r => match cv1 v with | none => none | some x => match cvs r with | none => none | some l => some (x :: l)
def cv (v : Value) : Option SV := match v with
 | .agg cs => (match cvs cs.toList with | some l => some (.agg l) | none => none)
 | .tuple cs => (match cvs cs.toList with | some l => some (.tup l) | none => none)
 | .int k i => some (.int k i)
 | .bool b => some (.bool b)
 | v => cv1 v
theorem bytes_back (l : List UInt8) : (l.map UInt8.toNat).map UInt8.ofNat = l := by
 rw [List.map_map]
 have : (UInt8.ofNat ∘ UInt8.toNat) = id := by funext c; simp
 rw [this, List.map_id]
theorem cv1_ok {v : Value} {x : SV} (h : cv1 v = some x) (ρ : Rho) : dv ρ x = v := by
 unfold cv1 at h
 split at h
 ·cases h; rfl
 ·cases h; rfl
 ·cases h; rw [dv, bytes_back]; rename_i s; cases s; rfl
 ·split at h
  ·cases h; rfl
  ·cases h
 ·split at h
  ·rename_i n c _
   cases hb : (Nat.beq n 0 && Nat.beq c 0) with
   | false => rw [hb] at h; cases h
   | true =>
    rw [hb] at h
    rw [Bool.and_eq_true] at hb
    have h1 := Nat.eq_of_beq_eq_true hb.1
    have h2 := Nat.eq_of_beq_eq_true hb.2
    subst h1; subst h2
    cases h; rfl
  ·cases h
 ·split at h
  ·cases h; rfl
  ·cases h
 ·cases h; rfl
 ·cases h; rfl
 ·rename_i f us cs
  cases f with
  | func k =>
   simp only at h
   split at h
   ·rename_i h1 h2
    cases h
    have e1 : us = #[] := by apply Array.ext'; simpa using h1
    have e2 : cs = #[] := by apply Array.ext'; simpa using h2
    rw [e1, e2]; rfl
   ·cases h
  | _ => cases h
 ·cases h
theorem cvs_ok : ∀ {vs : List Value} {l : List SV}, cvs vs = some l → ∀ ρ, dvs ρ l = vs
 | [], l, h, ρ => by simp only [cvs, Option.some.injEq] at h; subst h; rfl
 | v :: r, l, h, ρ => by
  simp only [cvs] at h
  split at h
  ·cases h
  ·rename_i x hx
   split at h
   ·cases h
   ·rename_i m hm
    cases h
    rw [dvs, cv1_ok hx, cvs_ok hm]
theorem cv_ok {v : Value} {x : SV} (h : cv v = some x) (ρ : Rho) : dv ρ x = v := by
 unfold cv at h
 split at h
 ·split at h
  ·rename_i l hl
   cases h; rw [dv, cvs_ok hl]
  ·cases h
 ·split at h
  ·rename_i l hl
   cases h; rw [dv, cvs_ok hl]
  ·cases h
 ·cases h; rfl
 ·cases h; rfl
 ·exact cv1_ok h ρ
def gr1 (x : SV) : Option Value := match x with
 | .int k i => some (.int k i)
 | .bool b => some (.bool b)
 | .str l => some (.string (str (l.map UInt8.ofNat)))
 | .nilp => some (.pointer none)
 | .nils => some (.slice none 0 0)
 | .nilm => some (.map none)
 | .nilf => some .nilFunc
 | .nili => some .nilIface
 | _ => none
theorem gr1_ok {x : SV} {v : Value} (h : gr1 x = some v) (ρ : Rho) : dv ρ x = v := by
 unfold gr1 at h
 split at h <;> first | (cases h; rfl) | cases h
def grl : List SV → Option (List Value)
 | [] => some []
 | x :: r => match gr1 x with | none => none | some v => match grl r with | none => none | some l => some (v :: l)
theorem grl_ok : ∀ {l : List SV} {vs : List Value}, grl l = some vs → ∀ ρ, dvs ρ l = vs
 | [], vs, h, ρ => by simp only [grl, Option.some.injEq] at h; subst h; rfl
 | x :: r, vs, h, ρ => by
  simp only [grl] at h
  split at h
  ·cases h
  ·rename_i v hv
   split at h
   ·cases h
   ·rename_i l hl
    cases h
    rw [dvs, gr1_ok hv, grl_ok hl]
def gr (x : SV) : Option Value := match x with
 | .agg l => (match grl l with | some vs => some (.agg vs.toArray) | none => none)
 | x => gr1 x
theorem gr_ok {x : SV} {v : Value} (h : gr x = some v) (ρ : Rho) : dv ρ x = v := by
 unfold gr at h
 split at h
 ·split at h
  ·rename_i vs hvs
   cases h; rw [dv, grl_ok hvs]
  ·cases h
 ·exact gr1_ok h ρ
noncomputable def evG (M : TrB) (g : Nat) : Option SV := match M.get g with
 | some (.ro _) => some (.ptr g 0)
 | _ => none
noncomputable def evS (T : TrS) (M : TrB) (x : Operand) : Option SV := Operand.rec (motive := fun _ => Option SV) (tmp := fun t => T.get t) (const := fun v => cv v) (global := fun g => evG M g) (func := fun f => some (.fn f [] [])) x
theorem evS_eq (T : TrS) (M : TrB) (x : Operand) : evS T M x = match x with
 | .tmp t => T.get t
 | .const v => cv v
 | .func f => some (.fn f [] [])
 | .global g => evG M g := by cases x <;> rfl
structure MemG (σ : Asg) (M : TrB) : Prop where
 glo : ∀ s cs, M.get s = some (.ro cs) → ∃ p, σ s = some p ∧ p.b = some s
section
variable {P : Program} {w0 w : World} {O : List Nat} {N : Nat} {D : List SD} {σ : Asg} {T : TrS} {M : TrB} {a : Act} {ρ : Rho}
theorem evS_ok (hF : FrS N D σ T a) (hG : MemG σ M) (hE : Ext σ ρ) {x : Operand} {v : SV} (h : evS T M x = some v) : Eng.ev (full a) x = some (dv ρ v) := by
 rw [evS_eq] at h
 split at h
 ·exact lk_full (hF.get ρ hE _ _ h)
 ·show some _ = _
  rw [cv_ok h]
 ·cases h; rfl
 ·unfold evG at h
  split at h
  ·rename_i g _ cs hg
   cases h
   obtain ⟨p, h1, h2⟩ := hG.glo g cs hg
   have := hE g p h1
   show some (Value.pointer (some ⟨g, 0, none⟩)) = _
   rw [dv, bl, this, h2]; rfl
  ·cases h
theorem evS_eval (hF : FrS N D σ T a) (hG : MemG σ M) (hE : Ext σ ρ) {x : Operand} {v : SV} (h : evS T M x = some v) : a.eval x = dv ρ v := (Fr.full a).ev (evS_ok hF hG hE h)
def Sl (P : Program) (op : Op) (ty : TypeId) (a : Act) (w : World) (v : Value) : Prop := ∀ dst pos af g, (execOp a.eval ⟨dst, op, ty, pos, af, g⟩).run P w = .ok (.value v) w
theorem Sl.of {op : Op} {ty : TypeId} {v : Value} {F : World → Prop} (h : ∀ d pos af, Yl P a.tmps.size a.defers (full a) F ⟨some d, op, ty, pos, af, none⟩ v) (hF : F w) : Sl P op ty a w v :=
 fun dst pos af g => h 0 pos af a w (Fr.full a) hF
theorem Sl.one {op : Op} {ty : TypeId} {v u : Value} (h : Sl P op ty a w v) (h2 : Sl P op ty a w u) : v = u := by
 have := (h none "" #[] none).symm.trans (h2 none "" #[] none)
 injection this with e _
 injection e
end
end Go.X
namespace Go.X
open Go Go.Eng Go.RowKit Dg Go.Proofs.YtndpdhamadiopaaGreatDoor
noncomputable def nthS {α : Type} (l : List α) : Nat → Option α := List.rec (fun _ => none) (fun v _ ih i => Nat.rec (some v) (fun j _ => ih j) i) l
theorem nthS_eq {α : Type} : ∀ (l : List α) (i : Nat), nthS l i = l[i]?
 | [], i => by cases i <;> rfl
 | v :: l, 0 => rfl
 | v :: l, i + 1 => by
  rw [List.getElem?_cons_succ, ← nthS_eq l i]; rfl
section
variable {P : Program} {w0 w : World} {O : List Nat} {N : Nat} {D : List SD} {σ : Asg} {T : TrS} {M : TrB} {a : Act} {ρ : Rho} {ty : TypeId}
def blkCells (b : Blk) : Option (List SV) := match b with
 | .cells cs _ => some cs
 | .row xs _ _ _ => some xs
 | .ro cs => some cs
 | .rd cs => some cs
 | _ => none
theorem MemS.ok (h : MemS w0 O σ M w) (hE : Ext σ ρ) {s : Nat} {b : Blk} (hb : M.get s = some b) : (bch ρ s b).ok w := fam_get (h.st ρ hE) (by rw [hb]; rfl)
theorem row_len {s : Nat} {xs : List SV} {n : Nat} {e : TypeId} {sz : Nat} (h : (bch ρ s (.row xs n e sz)).ok w) : xs.length = n * sz := by
 have := (show w.ownsRow 0 e sz (.slice (ad ρ s) n (ρ s).c) n (dvs ρ xs) from h).1
 rwa [dvs_len] at this
theorem row_blk {s : Nat} {xs : List SV} {n : Nat} {e : TypeId} {sz : Nat} (h : (bch ρ s (.row xs n e sz)).ok w) (hn : 0 < n) : (ρ s).b = some (bl ρ s) ∧ n ≤ (ρ s).c := by
 obtain ⟨g, hg, _, hc⟩ := rowc_addr (show (rowc (.slice (ad ρ s) n (ρ s).c) n e sz (dvs ρ xs)).ok w from h) hn
 unfold ad at hg
 cases hb : (ρ s).b with
 | none => rw [hb] at hg; cases hg
 | some b => unfold bl; rw [hb]; exact ⟨rfl, hc⟩
theorem blk_cell {s : Nat} {b : Blk} {cs : List SV} (h : (bch ρ s b).ok w) (hc : blkCells b = some cs) {j : Nat} {x : SV} (hx : cs[j]? = some x) : w.cell? ⟨bl ρ s, j, none⟩ = some (dv ρ x) := by
 unfold blkCells at hc
 split at hc
 ·cases hc
  rename_i e
  have h' : w.heap[bl ρ s]? = some (.cells (dvs ρ cs).toArray e (0, 0)) := h
  have := dvs_get (ρ := ρ) hx
  simp [World.cell?, h', this]
 ·cases hc
  rename_i n e sz
  have hl := row_len h
  have hj := (List.getElem?_eq_some_iff.1 hx).1
  have hn : 0 < n := by
   rcases Nat.eq_zero_or_pos n with h0 | h0
   ·rw [h0, Nat.zero_mul] at hl; omega
   ·exact h0
  obtain ⟨hb, _⟩ := row_blk h hn
  have h2 : (rowc (.slice (some ⟨bl ρ s, 0, none⟩) n (ρ s).c) n e sz (dvs ρ cs)).ok w := by
   have h3 : (rowc (.slice (ad ρ s) n (ρ s).c) n e sz (dvs ρ cs)).ok w := h
   unfold ad at h3
   rw [hb] at h3
   exact h3
  exact rowc_cells h2 (dvs_get hx)
 ·cases hc
  exact h.2 j x hx
 ·cases hc
  exact h.2 j x hx
 ·cases hc
theorem hol_cell {s : Nat} {cs : List (Option SV)} {e : TypeId} (h : (bch ρ s (.hol cs e)).ok w) {j : Nat} {x : SV} (hx : cs[j]? = some (some x)) : w.cell? ⟨bl ρ s, j, none⟩ = some (dv ρ x) := by
 obtain ⟨vs, h1, h2, h3⟩ := h
 have := h3 j x hx
 simp [World.cell?, h1, this]
noncomputable def mapO {α β : Type} (f : α → Option β) (l : List α) : Option (List β) := List.rec (some []) (fun x _ ih => match f x with | none => none | some y => (match ih with | none => none | some m => some (y :: m))) l
theorem mapO_cons {α β : Type} (f : α → Option β) (x : α) (l : List α) : mapO f (x :: l) = match f x with | none => none | some y => (match mapO f l with | none => none | some m => some (y :: m)) := rfl
theorem mapO_at {α β : Type} {f : α → Option β} : ∀ {l : List α} {m : List β}, mapO f l = some m → ∀ {j : Nat} {y : β}, m[j]? = some y → ∃ x, l[j]? = some x ∧ f x = some y
 | [], m, h, j, y, hy => by
  have h' : some [] = some m := h
  cases h'
  simp at hy
 | z :: l, m, h, j, y, hy => by
  rw [mapO_cons] at h
  split at h
  ·cases h
  ·rename_i y1 h1
   split at h
   ·cases h
   ·rename_i m2 h2
    cases h
    cases j with
    | zero =>
     simp only [List.getElem?_cons_zero, Option.some.injEq] at hy
     subst hy
     exact ⟨z, by simp, h1⟩
    | succ j =>
     simp only [List.getElem?_cons_succ] at hy ⊢
     exact mapO_at h2 hy
theorem mapO_ok {α β : Type} {f : α → Option β} : ∀ {l : List α} {m : List β}, mapO f l = some m → ∀ x ∈ l, ∃ y ∈ m, f x = some y
 | [], m, h, x, hx => by cases hx
 | z :: l, m, h, x, hx => by
  rw [mapO_cons] at h
  split at h
  ·cases h
  ·rename_i y hy
   split at h
   ·cases h
   ·rename_i m2 hm
    cases h
    rcases List.mem_cons.1 hx with rfl | hx
    ·exact ⟨y, List.mem_cons_self .., hy⟩
    ·obtain ⟨y2, h1, h2⟩ := mapO_ok hm x hx
     exact ⟨y2, List.mem_cons_of_mem _ h1, h2⟩
def holGet (b : Blk) : Option (List (Option SV)) := match b with
 | .hol cs _ => some cs
 | _ => none
theorem holGet_ok {b : Blk} {cs : List (Option SV)} (h : holGet b = some cs) : ∃ e, b = .hol cs e := by
 cases b <;> first | (cases h; done) | skip
 cases h
 exact ⟨_, rfl⟩
def idO (x : Option SV) : Option SV := x
noncomputable def sLoad (P : Program) (M : TrB) (t : TypeId) (x : SV) : Option SV := match x with
 | .ptr s off => match M.get s with
  | some b => match blkCells b with
   | some cs => match aggB P t with
    | some true => match sizeB P t with
     | some n => let l := (cs.drop off).take n; bif Nat.beq l.length n then some (.agg l) else none
     | none => none
    | some false => match sizeB P t with
     | some 1 => nthS cs off
     | _ => none
    | none => none
   | none => match holGet b with
    | some cs => match aggB P t with
     | some true => match sizeB P t with
      | some n => (match mapO idO ((cs.drop off).take n) with | some l => bif Nat.beq l.length n then some (.agg l) else none | none => none)
      | none => none
     | some false => match sizeB P t with
      | some 1 => (match nthS cs off with | some (some x) => some x | _ => none)
      | _ => none
     | none => none
    | none => none
  | none => none
 | _ => none
theorem beq_true {a b : Nat} {α : Type} {x y : α} (h : (bif Nat.beq a b then some x else none) = some y) : a = b ∧ x = y := by
 cases hb : Nat.beq a b with
 | true => rw [hb] at h; cases h; exact ⟨Nat.eq_of_beq_eq_true hb, rfl⟩
 | false => rw [hb] at h; cases h
theorem sLoad_run (hM : MemS w0 O σ M w) (hE : Ext σ ρ) {t : TypeId} {x v : SV} (h : sLoad P M t x = some v) : (Instr.loadAt t (dv ρ x)).run P w = .ok (dv ρ v) w := by
 unfold sLoad at h
 split at h
 ·rename_i s off
  split at h
  ·rename_i b hb
   have hok := hM.ok hE hb
   split at h
   ·rename_i cs hc
    split at h
    ·rename_i hag
     split at h
     ·rename_i n hn
      obtain ⟨hl, rfl⟩ := beq_true h
      have e : dv ρ (.agg ((cs.drop off).take n)) = .agg (dvs ρ ((cs.drop off).take n)).toArray := by rw [dv]
      rw [e]
      refine run_loadN ⟨hag, hn⟩ (by rw [dvs_len]; exact hl) (fun j u hj => ?_)
      rw [add_blk]
      rw [dvs_map, List.getElem?_map] at hj
      cases hq : ((cs.drop off).take n)[j]? with
      | none => rw [hq] at hj; cases hj
      | some y =>
       rw [hq] at hj
       simp only [Option.map_some, Option.some.injEq] at hj
       rw [← hj]
       refine blk_cell hok hc ?_
       have h2 := hq
       rw [List.getElem?_take] at h2
       split at h2
       ·rwa [List.getElem?_drop] at h2
       ·cases h2
     ·cases h
    ·rename_i hag
     split at h
     ·rename_i hn
      rw [nthS_eq] at h
      exact run_load1 ⟨hag, hn⟩ (blk_cell hok hc h)
     ·cases h
    ·cases h
   ·split at h
    ·rename_i cs hc
     obtain ⟨e9, rfl⟩ := holGet_ok hc
     split at h
     ·rename_i hag
      split at h
      ·rename_i n hn
       split at h
       ·rename_i l hl0
        obtain ⟨hl, rfl⟩ := beq_true h
        have e : dv ρ (.agg l) = .agg (dvs ρ l).toArray := by rw [dv]
        rw [e]
        refine run_loadN ⟨hag, hn⟩ (by rw [dvs_len]; exact hl) (fun j u hj => ?_)
        rw [add_blk]
        rw [dvs_map, List.getElem?_map] at hj
        cases hq : l[j]? with
        | none => rw [hq] at hj; cases hj
        | some y =>
         rw [hq] at hj
         simp only [Option.map_some, Option.some.injEq] at hj
         rw [← hj]
         obtain ⟨z, h2, hz⟩ := mapO_at hl0 hq
         have hz : z = some y := hz
         subst hz
         refine hol_cell hok ?_
         rw [List.getElem?_take] at h2
         split at h2
         ·rwa [List.getElem?_drop] at h2
         ·cases h2
       ·cases h
      ·cases h
     ·rename_i hag
      split at h
      ·rename_i hn
       split at h
       ·rename_i x hx
        rw [nthS_eq] at hx
        cases h
        exact run_load1 ⟨hag, hn⟩ (hol_cell hok hx)
       ·cases h
      ·cases h
     ·cases h
    ·cases h
  ·cases h
 ·cases h
theorem Sl.load {t : TypeId} {x : Operand} {vx v : SV} (hM : MemS w0 O σ M w) (hE : Ext σ ρ) (hx : a.eval x = dv ρ vx) (h : sLoad P M t vx = some v) : Sl P (.load t x) ty a w (dv ρ v) := fun dst pos af g => by
 have := sLoad_run (P := P) hM hE h
 simp [execOp, hx, this]
end
end Go.X
namespace Go.X
open Go Go.Eng Go.RowKit Dg Go.Proofs.YtndpdhamadiopaaGreatDoor
section
variable {P : Program} {w0 w : World} {O : List Nat} {N : Nat} {D : List SD} {σ : Asg} {T : TrS} {M : TrB} {a : Act} {ρ : Rho} {ty : TypeId}
noncomputable def evsS (T : TrS) (M : TrB) (l : List Operand) : Option (List SV) :=
 List.rec (some []) (fun x _ ih => match evS T M x with | none => none | some v => match ih with | none => none | some vs => some (v :: vs)) l
theorem evsS_cons (x : Operand) (l : List Operand) : evsS T M (x :: l) = match evS T M x with | none => none | some v => match evsS T M l with | none => none | some vs => some (v :: vs) := rfl
theorem evsS_ok (hF : FrS N D σ T a) (hG : MemG σ M) (hE : Ext σ ρ) : ∀ {l : List Operand} {vs : List SV}, evsS T M l = some vs → Eng.evs (full a) l = some (dvs ρ vs)
 | [], vs, h => by cases h; rfl
 | x :: l, vs, h => by
  rw [evsS_cons] at h
  split at h
  ·cases h
  ·rename_i v hv
   split at h
   ·cases h
   ·rename_i us hus
    cases h
    simp only [Eng.evs, evS_ok hF hG hE hv, evsS_ok hF hG hE hus, dvs]
def isNil (M : TrB) (x : SV) : Option Bool := match x with
 | .nilp | .nils | .nilm | .nilf | .nili => some true
 | .ptr _ _ | .slx _ _ _ _ | .mp _ | .fn _ _ _ | .ifc _ _ => some false
 | _ => none
def litNil (x : SV) : Bool := match x with
 | .nilp | .nils | .nilm | .nilf | .nili => true
 | _ => false
def nilOf (P : Program) (t : TypeId) (x : SV) : Bool := match P.underlying t, x with
 | some (.pointer _), .nilp | some (.pointer _), .ptr _ _ => true
 | some (.slice _), .nils | some (.slice _), .slx _ _ _ _ => true
 | some (.map _ _), .nilm | some (.map _ _), .mp _ => true
 | some (.func _ _ _), .nilf | some (.func _ _ _), .fn _ _ _ => true
 | some (.interface _), .nili | some (.interface _), .ifc _ _ => true
 | _, _ => false
theorem equal_nil {t : TypeId} {x y : SV} {b : Bool} (hx : nilOf P t x = true) (hy : nilOf P t y = true) (hl : (litNil x || litNil y) = true) (hb : b = (litNil x && litNil y)) : (Op.equal t (dv ρ x) (dv ρ y)).run P w = .ok b w := by
 subst hb
 show (Op.equalIn (9999 + 1) t (dv ρ x) (dv ρ y)).run P w = _
 generalize 9999 = q
 cases hu : P.underlying t with
 | none => unfold nilOf at hx; rw [hu] at hx; cases hx
 | some d =>
  unfold nilOf at hx hy
  rw [hu] at hx hy
  cases d <;> cases x <;> first | (cases hx; done) | skip
  all_goals cases y <;> first | (cases hy; done) | (cases hl; done) | (simp [Op.equalIn, run_underlying hu, dv, litNil])
noncomputable def sEq (P : Program) (t : TypeId) (x y : SV) : Option Bool :=
 bif nilOf P t x && nilOf P t y && (litNil x || litNil y) then some (litNil x && litNil y) else none
theorem sEq_ok {t : TypeId} {x y : SV} {b : Bool} (h : sEq P t x y = some b) : (Op.equal t (dv ρ x) (dv ρ y)).run P w = .ok b w := by
 unfold sEq at h
 cases hc : (nilOf P t x && nilOf P t y && (litNil x || litNil y)) with
 | false => rw [hc] at h; cases h
 | true =>
  rw [hc] at h
  simp only [Bool.and_eq_true] at hc
  cases h
  exact equal_nil hc.1.1 hc.1.2 hc.2 rfl
end
end Go.X
namespace Go.X
open Go Go.Eng Go.RowKit Dg Go.Proofs.YtndpdhamadiopaaGreatDoor
section
variable {P : Program} {w0 w : World} {O : List Nat} {N : Nat} {D : List SD} {σ : Asg} {T : TrS} {M : TrB} {a : Act} {ρ : Rho} {ty : TypeId}
noncomputable def ob {α β : Type} (x : Option α) (f : α → Option β) : Option β := Option.rec (motive := fun _ => Option β) none f x
theorem ob_some {α β : Type} {x : Option α} {f : α → Option β} {b : β} (h : ob x f = some b) : ∃ a, x = some a ∧ f a = some b := by
 cases x with
 | none => cases h
 | some a => exact ⟨a, rfl, h⟩
noncomputable def must {β : Type} (b : Bool) (x : Option β) : Option β := Bool.rec (motive := fun _ => Option β) none x b
theorem must_some {β : Type} {b : Bool} {x : Option β} {y : β} (h : must b x = some y) : b = true ∧ x = some y := by
 cases b with
 | true => exact ⟨rfl, h⟩
 | false => cases h
noncomputable def sPart (P : Program) (t : TypeId) (l : List SV) (off : Nat) : Option SV := ob (aggB P t) fun g => match g with
 | true => ob (sizeB P t) fun n => let r := (l.drop off).take n; must (Nat.beq r.length n) (some (.agg r))
 | false => ob (sizeB P t) fun n => must (Nat.beq n 1) (nthS l off)
noncomputable def sIndexAddr (P : Program) (M : TrB) (t : TypeId) (x i : SV) : Option SV := match i with
 | .int _ (.ofNat j) => match x with
  | .sl s k n sz => must (Nat.blt j n) (match P.underlying t with
   | some (.slice e) => must (match sizeB P e with | some z => Nat.beq z sz | none => false) (match M.get s with
    | some (.row _ m _ _) => must (Nat.blt 0 m) (some (.ptr s (k * sz + j * sz)))
    | some (.rd _) => some (.ptr s (k * sz + j * sz))
    | _ => none)
   | _ => none)
  | .slx s off n _ => must (Nat.blt j n) (match P.underlying t with
   | some (.slice e) => ob (sizeB P e) fun sz => some (.ptr s (off + j * sz))
   | _ => none)
  | .ptr s off => match P.underlying t with
   | some (.array n e) => must (Nat.blt j n) (ob (sizeB P e) fun sz => ob (zeroB P t) fun _ => some (.ptr s (off + j * sz)))
   | _ => none
  | _ => none
 | _ => none
noncomputable def sIndex (P : Program) (t : TypeId) (x i : SV) : Option SV := match x, i with
 | .agg l, .int _ (.ofNat j) => (match P.underlying t with
  | some (.array n e) => must (Nat.blt j n) (ob (sizeB P e) fun sz => sPart P e l (j * sz))
  | _ => none)
 | .str l, .int _ (.ofNat j) => (match P.underlying t with
  | some .string => ob (nthS l j) fun c => some (.int .u8 (.ofNat (Nat.mod c 256)))
  | _ => none)
 | _, _ => none
noncomputable def sLen (P : Program) (t : TypeId) (x : SV) : Option SV := match P.underlying t, x with
 | some .string, .str l => some (.int .i64 (.ofNat l.length))
 | some (.slice _), .sl _ _ n _ => some (.int .i64 (.ofNat n))
 | some (.slice _), .slx _ _ n _ => some (.int .i64 (.ofNat n))
 | some (.slice _), .nils => some (.int .i64 (.ofNat 0))
 | _, _ => none
noncomputable def catS (x y : SV) : Option SV := match x, y with
 | .str l, .str m => must (Nat.ble (l.length + m.length) 1000000) (some (.str (l ++ m)))
 | _, _ => none
theorem sPart_run {t : TypeId} {l : List SV} {off : Nat} {v : SV} (h : sPart P t l off = some v) : (part t (dvs ρ l).toArray off).run P w = .ok (dv ρ v) w := by
 unfold sPart at h
 obtain ⟨g, hg, h⟩ := ob_some h
 cases g with
 | true =>
  obtain ⟨n, hn, h⟩ := ob_some h
  obtain ⟨h1, h2⟩ := must_some h
  cases h2
  simp [part, Eng.run_isAgg hg, Eng.run_sizeOf hn, dv, dvs_map, List.map_take, List.map_drop]
 | false =>
  obtain ⟨n, hn, h⟩ := ob_some h
  obtain ⟨h1, h2⟩ := must_some h
  rw [nthS_eq] at h2
  have := dvs_get (ρ := ρ) h2
  simp [part, Eng.run_isAgg hg, this]
theorem Sl.indexAddr {w' : World} {t : TypeId} {x i : Operand} {vx vi v : SV} (hM : MemS w0 O σ M w) (hE : Ext σ ρ) (hx : Eng.ev (full a) x = some (dv ρ vx)) (hi : Eng.ev (full a) i = some (dv ρ vi)) (h : sIndexAddr P M t vx vi = some v) : Sl P (.indexAddr t x i) ty a w' (dv ρ v) := by
 unfold sIndexAddr at h
 split at h
 ·rename_i k j
  split at h
  ·rename_i s q n sz
   obtain ⟨hj, h⟩ := must_some h
   split at h
   ·rename_i e hu
    obtain ⟨hz, h⟩ := must_some h
    split at h
    ·rename_i xs m e' sz' hb
     obtain ⟨hm, h⟩ := must_some h
     cases h
     have hsz : sizeB P e = some sz := by
      cases hq : sizeB P e with
      | none => rw [hq] at hz; cases hz
      | some z => rw [hq] at hz; rw [Nat.eq_of_beq_eq_true hz]
     obtain ⟨hb1, _⟩ := row_blk (hM.ok hE hb) (Nat.le_of_ble_eq_true hm)
     have hx' : Eng.ev (full a) x = some (.slice (some ⟨bl ρ s, q * sz, none⟩) n ((ρ s).c - q)) := by
      rw [hx, dv, hb1]; rfl
     exact Sl.of (F := fun _ => True) (fun d pos af => Yl.indexAddr ⟨hu, hsz⟩ hx' hi (Nat.le_of_ble_eq_true hj)) trivial
    ·rename_i xs hb
     cases h
     have hsz : sizeB P e = some sz := by
      cases hq : sizeB P e with
      | none => rw [hq] at hz; cases hz
      | some z => rw [hq] at hz; rw [Nat.eq_of_beq_eq_true hz]
     obtain ⟨hb1, _⟩ := (show (bch ρ s (.rd xs)).ok w from hM.ok hE hb)
     have hx' : Eng.ev (full a) x = some (.slice (some ⟨bl ρ s, q * sz, none⟩) n ((ρ s).c - q)) := by
      rw [hx, dv, hb1]; rfl
     exact Sl.of (F := fun _ => True) (fun d pos af => Yl.indexAddr ⟨hu, hsz⟩ hx' hi (Nat.le_of_ble_eq_true hj)) trivial
    ·cases h
   ·cases h
  ·rename_i s off n cap
   obtain ⟨hj, h⟩ := must_some h
   split at h
   ·rename_i e hu
    obtain ⟨sz, hsz, h⟩ := ob_some h
    cases h
    exact Sl.of (F := fun _ => True) (fun d pos af => Yl.indexAddr ⟨hu, hsz⟩ hx hi (Nat.le_of_ble_eq_true hj)) trivial
   ·cases h
  ·rename_i s off
   split at h
   ·rename_i n e hu
    obtain ⟨hj, h⟩ := must_some h
    obtain ⟨sz, hsz, h⟩ := ob_some h
    obtain ⟨zs, hzs, h⟩ := ob_some h
    cases h
    exact Sl.of (F := fun _ => True) (fun d pos af => Yl.indexAddrA ⟨hu, hzs, hsz⟩ hx hi (Nat.le_of_ble_eq_true hj)) trivial
   ·cases h
  ·cases h
 ·cases h
theorem Sl.index {t : TypeId} {x i : Operand} {vx vi v : SV} (hx : Eng.ev (full a) x = some (dv ρ vx)) (hi : Eng.ev (full a) i = some (dv ρ vi)) (h : sIndex P t vx vi = some v) : Sl P (.index t x i) ty a w (dv ρ v) := by
 unfold sIndex at h
 split at h
 ·rename_i l k j
  split at h
  ·rename_i n e hu
   obtain ⟨hj, h⟩ := must_some h
   obtain ⟨sz, hsz, h⟩ := ob_some h
   intro dst pos af g
   have hp := sPart_run (P := P) (ρ := ρ) (w := w) h
   have h1 : (0 : Int) ≤ (j : Int) ∧ (j : Int) < (n : Int) := by have := Nat.le_of_ble_eq_true hj; omega
   have e1 := (Fr.full a).ev hx
   have e2 := (Fr.full a).ev hi
   simp only [dv] at e1 e2
   have hjn : j < n := Nat.le_of_ble_eq_true hj
   have hnj : ¬ n ≤ j := by omega
   simp [execOp, e1, e2, Instr.index, run_underlying hu, asIntOf, h1, hjn, hnj, Eng.run_sizeOf hsz, hp]
  ·cases h
 ·rename_i l k j
  split at h
  ·rename_i hu
   obtain ⟨c, hc, h⟩ := ob_some h
   cases h
   rw [nthS_eq] at hc
   have hc' : (l.map UInt8.ofNat)[j]? = some (UInt8.ofNat c) := by rw [List.getElem?_map, hc]; rfl
   have := Sl.of (a := a) (w := w) (ty := ty) (F := fun _ => True) (fun d pos af => Yl.indexS (P := P) hu hx hi hc') trivial
   have e3 : (Value.int .u8 ((UInt8.ofNat c).toNat : Int)) = dv ρ (.int .u8 (.ofNat (Nat.mod c 256))) := by
    rw [dv]; simp; rfl
   rw [← e3]; exact this
  ·cases h
 ·cases h
end
end Go.X
