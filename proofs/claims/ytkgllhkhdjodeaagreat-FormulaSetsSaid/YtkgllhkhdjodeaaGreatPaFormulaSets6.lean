/- Parts of the walk, put together by a program. By an AI agent. -/
import Derived.Test.YtkgllhkhdjodeaaGreatPaFormulaSets5
set_option linter.unusedSimpArgs false
set_option linter.unusedVariables false
namespace Go.Proofs.YtkgllhkhdjodeaaGreat
open Go Go.Eng Go.Proofs Dg
def pickV (x y : ChV) : ChV := if (!x.2.2 || (y.2.2 && decide (y.2.1 < x.2.1))) = true then y else x
def topT : BT → Nat
 | .lf _ => 24
 | .nd v _ _ => v
def chT (t : BT) : ChV := (topT t,bestT t)
def joinC (v : Nat) (x y : ChV) : ChV := pickV (v,x.2.1,x.2.2) (v,y.2.1 ||| 2 ^ v,y.2.2)
theorem chT_nd (v : Nat) (lo hi : BT) : chT (.nd v lo hi) = joinC v (chT lo) (chT hi) := by
 show (v,pickB (bestT lo) ((bestT hi).1 ||| 2 ^ v,(bestT hi).2)) = _
 unfold joinC pickV pickB chT
 dsimp only
 split <;> rfl
theorem topT_ge {t : BT} {m : Nat} (h : t.ok m) (hm : m ≤ 24) : m ≤ topT t ∧ topT t ≤ 24 := by
 cases t with
 | lf b => exact ⟨hm,Nat.le_refl _⟩
 | nd v lo hi => exact ⟨h.1,Nat.le_of_lt h.2.1⟩
theorem cmp_iff (a b : Nat) : decide ((([(0 : Int),cmpI (b : Int) (a : Int)].find? (fun x => x != 0)).getD 0) < 0) = decide (b < a) := by
 unfold cmpI
 by_cases h1 : (b : Int) < a
 ·rw [if_pos h1]; have : b < a := by omega
  simp [this]
 rw [if_neg h1]
 by_cases h2 : (a : Int) < b
 ·rw [if_pos h2]; have : ¬ b < a := by omega
  simp [this]
 rw [if_neg h2]; have : ¬ b < a := by omega
 simp [this]
theorem RdC.pt {w : World} {b : Nat} {xs : List Int} {e : TypeId} (h : (pt b (xs.map (Value.int .i64)) e).ok w) : RdC w xs (some ⟨b,0,none⟩) := fun j x hx => ⟨b,0,rfl,by
 rw [Nat.zero_add]
 have h' : w.heap[b]? = some (.cells (xs.map (Value.int .i64)).toArray e (0,0)) := h
 simp [World.cell?,h',hx]⟩
theorem down_c (bw : Nat) (z : ChV) (hc : z.2.1 < 4294967296) (hz : z.1 ≤ 24) (lev : Nat) (li : Int) (hli : li = (lev : Int)) (hl : lev ≤ z.1) (w : World) (hw0 : RdW0 w bw) :
  Pure Tryz.prog 136 [pp bw,.agg (chv z).toArray,.int .i64 li] w (.agg (chv (lev,z.2)).toArray) := by
 subst hli
 refine enter Tryz.func136 rfl Tryz.ntmps136 rfl (St.init _) ?_
 refine jN 3 ?_
 refine WL.boxN rfl rfl (fun b4 => ?_)
 refine jN 1 ?_
 refine WL.alloc F.zero130 rfl (fun b6 => ?_)
 refine jN 16 ?_
 refine WC.chunks (C' := [pt b4 (chv ((z.1,z.2))) 130,pt b6 [.int .i64 0,.int .i64 0,.int .u32 0,.bool false] 130]) (fun w hS => (jK hS)) ?_
 refine WC.loop (α := Nat) (fun k => lev ≤ k ∧ k ≤ z.1) (fun k => [(0,pp bw),(2,.int .i64 (lev : Int)),(4,pp b4),(6,pp b6),(7,.int .i64 ((k : Int) - 1))]) (fun k => [pt b4 (chv ((k,z.2))) 130,pt b6 [.int .i64 0,.int .i64 0,.int .u32 0,.bool false] 130]) (fun k => k) (z.1) ?_ ?_ ?_ ?_
 ·exact ⟨hl,Nat.le_refl _⟩
 ·exact ⟨rfl,rfl,rfl,rfl,rfl,trivial⟩
 ·rfl
 rintro k ⟨hk1,hk2⟩
 refine jN 11 ?_
 refine WC.cond rfl (fun h13 => ?_) (fun h13 => ?_)
 ·have hlt : lev < k := by simp at h13; omega
  obtain ⟨f,rfl⟩ : ∃ f,k = f + 1 := ⟨k - 1,by omega⟩
  have hf : f < 24 := by omega
  refine WC.say 7 (.int .i64 (f : Int)) (by show some (Value.int .i64 (((f + 1 : Nat) : Int) - 1)) = _; rw [show ((f + 1 : Nat) : Int) - 1 = (f : Int) by omega]) ?_
  refine jN 4 ?_
  refine WC.drawsL (by kernel_rfl) (FactsOk.cons (ds := [16,17]) (LoadOk.whole (t := 4) rfl jM) (FactsOk.cons (ds := [16,17]) (LoadOk.by (Y := fun w => w.cell? ⟨bw,0 + f * 2 + 1 * 1,none⟩ = some (.int .i64 0)) (fun w hS => by rw [show 0 + f * 2 + 1 * 1 = f * 2 + 1 by omega]; exact hS.oldc (hw0 (f * 2 + 1) (by omega)) (by simp))) (FactsOk.cons (ds := [16,17]) (LoadOk.by (Y := fun w => w.cell? ⟨bw,0 + f * 2 + 0 * 1,none⟩ = some (.int .i64 0)) (fun w hS => by rw [show 0 + f * 2 + 0 * 1 = f * 2 + 0 by omega]; exact hS.oldc (hw0 (f * 2 + 0) (by omega)) (by simp))) (FactsOk.nil)))) ?_
  refine jT 0 rfl (Yl.move rfl) ?_
  refine jF 1 0 rfl rfl (Yl.loadN F.agg130 rfl rfl) ?_
  refine jT 2 rfl (Yl.move rfl) ?_
  refine jT 3 rfl (Yl.move rfl) ?_
  refine jT 4 rfl (Yl.move rfl) ?_
  refine jT 5 rfl (Yl.nilCheck rfl) ?_
  refine jT 6 rfl (Yl.indexAddrA F.arT135 rfl rfl hf) ?_
  refine jT 7 rfl (Yl.indexAddrA (i := 1) arT2 rfl rfl (by decide)) ?_
  refine jF 8 1 rfl rfl (Yl.load1 F.one2 rfl) ?_
  refine jT 9 rfl (Yl.move rfl) ?_
  refine jT 10 rfl (Yl.move rfl) ?_
  refine jT 11 rfl (Yl.nilCheck rfl) ?_
  refine jT 12 rfl (Yl.indexAddrA F.arT135 rfl rfl hf) ?_
  refine jT 13 rfl (Yl.indexAddrA (i := 0) arT2 rfl rfl (by decide)) ?_
  refine jF 14 2 rfl rfl (Yl.load1 F.one2 rfl) ?_
  refine jT 15 rfl (Yl.bin (v := .bool false) rfl rfl (fun w => by kernel_rfl)) ?_
  refine jA 16 rfl ?_
  refine WL.callV F.fun135 rfl rfl (fun w hS => step_c bw (f + 1,z.2) hc f hf false w (hw0.next hS)) ?_
  refine jG ?_
  refine jA 17 rfl ?_
  refine WL.storeN (cs' := chv (f,z.2)) F.agg130 rfl rfl rfl jO jU (by repeat constructor) ?_
  refine jG ?_
  refine jD ?_
  refine jN 10 ?_
  refine WQ.chunks (C' := [pt b4 (chv ((f,z.2))) 130,pt b6 [.int .i64 0,.int .i64 0,.int .u32 0,.bool false] 130]) (fun w hS => (jK hS)) ?_
  refine WQ.back (f) ?_ ?_ ?_ ?_
  ·exact ⟨by omega,by omega⟩
  ·omega
  ·exact ⟨rfl,rfl,rfl,rfl,rfl,trivial⟩
  rfl
 have hke : k = lev := by simp at h13; omega
 subst hke
 refine jN 10 ?_
 refine WL.storeN (cs' := chv (k,z.2)) F.agg130 rfl rfl rfl jO jU (by repeat constructor) ?_
 refine jN 3 ?_
 exact WQ.ret (rs := [.cell 6 130]) rfl (.cellN F.agg130 rfl jM rfl .nil) (fun w hS => ⟨rfl,hS.sublist (List.nil_sublist _)⟩)
theorem better_c (x y : ChV) (w : World) :
  Pure Tryz.prog 134 [.agg (chv x).toArray,.agg (chv y).toArray] w (.agg (chv (pickV x y)).toArray) := by
 refine enter Tryz.func134 rfl Tryz.ntmps134 rfl (St.init _) ?_
 refine jN 3 ?_
 refine WL.boxN rfl rfl (fun b2 => ?_)
 refine jN 1 ?_
 refine WL.boxN rfl rfl (fun b3 => ?_)
 refine jN 1 ?_
 refine WL.alloc F.zero130 rfl (fun b4 => ?_)
 refine jN 4 ?_
 refine WC.drawsL (by kernel_rfl) (FactsOk.cons (ds := []) (LoadOk.one (t := 2) (off := 3) rfl jM rfl) (FactsOk.cons (ds := []) (LoadOk.one (t := 3) (off := 3) rfl jM rfl) (FactsOk.cons (ds := []) (LoadOk.one (t := 3) (off := 1) rfl jM rfl) (FactsOk.cons (ds := []) (LoadOk.one (t := 2) (off := 1) rfl jM rfl) (FactsOk.cons (ds := []) (LoadOk.one (t := 3) (off := 2) rfl jM rfl) (FactsOk.cons (ds := []) (LoadOk.one (t := 2) (off := 2) rfl jM rfl) (FactsOk.nil))))))) ?_
 refine jT 0 rfl (Yl.fieldAddr0 F.fld130_3 rfl) ?_
 refine jF 1 0 rfl rfl (Yl.load1 F.one4 rfl) ?_
 refine jT 2 rfl (Yl.not rfl) ?_
 refine jT 3 rfl (Yl.move rfl) ?_
 refine fun hcl => WA.splitB (i := 8) rfl (fun g8 => ?_) (fun g8 => ?_)
 ·refine (show WD _ _ _ _ _ _ _ _ _ _ _ _ from ?_) hcl
  have hp : pickV x y = y := if_pos (by rw [g8]; rfl)
  refine WD.skip (i := 4) rfl rfl rfl rfl rfl rfl rfl (by decide +kernel) (by decide +kernel) (by decide +kernel) (fun _ _ _ h => h) (by kernel_rfl) ?_
  refine WD.skip (i := 5) rfl rfl rfl rfl rfl rfl rfl (by decide +kernel) (by decide +kernel) (by decide +kernel) (fun _ _ _ h => h) (by kernel_rfl) ?_
  refine WD.skip (i := 6) rfl rfl rfl rfl rfl rfl rfl (by decide +kernel) (by decide +kernel) (by decide +kernel) (fun _ _ _ h => h) (by kernel_rfl) ?_
  refine WD.skipU (i := 7) rfl rfl rfl rfl rfl rfl (by decide +kernel) (by decide +kernel) (by decide +kernel) (fun _ _ _ h => h) (by kernel_rfl) ?_
  refine WD.skipU (i := 8) rfl rfl rfl rfl rfl rfl (by decide +kernel) (by decide +kernel) (by decide +kernel) (fun _ _ _ h => h) (by kernel_rfl) ?_
  refine WD.skipU (i := 9) rfl rfl rfl rfl rfl rfl (by decide +kernel) (by decide +kernel) (by decide +kernel) (fun _ _ _ h => h) (by kernel_rfl) ?_
  refine WD.skipU (i := 10) rfl rfl rfl rfl rfl rfl (by decide +kernel) (by decide +kernel) (by decide +kernel) (fun _ _ _ h => h) (by kernel_rfl) ?_
  refine WD.skipU (i := 11) rfl rfl rfl rfl rfl rfl (by decide +kernel) (by decide +kernel) (by decide +kernel) (fun _ _ _ h => h) (by kernel_rfl) ?_
  refine WD.skipU (i := 12) rfl rfl rfl rfl rfl rfl (by decide +kernel) (by decide +kernel) (by decide +kernel) (fun _ _ _ h => h) (by kernel_rfl) ?_
  refine WD.skipU (i := 13) rfl rfl rfl rfl rfl rfl (by decide +kernel) (by decide +kernel) (by decide +kernel) (fun _ _ _ h => h) (by kernel_rfl) ?_
  refine WD.skipU (i := 14) rfl rfl rfl rfl rfl rfl (by decide +kernel) (by decide +kernel) (by decide +kernel) (fun _ _ _ h => h) (by kernel_rfl) ?_
  refine WD.skipU (i := 15) rfl rfl rfl rfl rfl rfl (by decide +kernel) (by decide +kernel) (by decide +kernel) (fun _ _ _ h => h) (by kernel_rfl) ?_
  refine WD.skipU (i := 16) rfl rfl rfl rfl rfl rfl (by decide +kernel) (by decide +kernel) (by decide +kernel) (fun _ _ _ h => h) (by kernel_rfl) ?_
  refine WD.skipU (i := 17) rfl rfl rfl rfl rfl rfl (by decide +kernel) (by decide +kernel) (by decide +kernel) (fun _ _ _ h => h) (by kernel_rfl) ?_
  refine WD.skipU (i := 18) rfl rfl rfl rfl rfl rfl (by decide +kernel) (by decide +kernel) (by decide +kernel) (fun _ _ _ h => h) (by kernel_rfl) ?_
  refine WD.skipU (i := 19) rfl rfl rfl rfl rfl rfl (by decide +kernel) (by decide +kernel) (by decide +kernel) (fun _ _ _ h => h) (by kernel_rfl) ?_
  refine WD.skip (i := 20) rfl rfl rfl rfl rfl rfl rfl (by decide +kernel) (by decide +kernel) (by decide +kernel) (fun _ _ _ h => h) (by kernel_rfl) ?_
  refine jT 21 rfl (Yl.pickT rfl rfl) ?_
  refine jD ?_
  refine jN 12 ?_
  exact WQ.ret (rs := [.cell 4 130]) rfl (.cellN F.agg130 rfl jM rfl .nil) (fun w hS => ⟨by rw [hp]; rfl,hS.sublist (List.nil_sublist _)⟩)
 refine (show WD _ _ _ _ _ _ _ _ _ _ _ _ from ?_) hcl
 refine WD.takeG (i := 4) rfl rfl rfl rfl rfl rfl (by decide +kernel) (by decide +kernel) (by decide +kernel) (fun _ _ _ h => h) (by kernel_rfl) need_none (Yl.fieldAddr0 F.fld130_3 rfl) ?_
 refine WD.takeG (i := 5) rfl rfl rfl rfl rfl rfl (by decide +kernel) (by decide +kernel) (by decide +kernel) (fun _ _ _ h => h) (by kernel_rfl) (need_at2 1 rfl (by decide +kernel)) (Yl.load1 F.one4 rfl) ?_
 refine WD.takeG (i := 6) rfl rfl rfl rfl rfl rfl (by decide +kernel) (by decide +kernel) (by decide +kernel) (fun _ _ _ h => h) (by kernel_rfl) need_none (Yl.move rfl) ?_
 refine fun hcl => WA.splitB (i := 11) rfl (fun g11 => ?_) (fun g11 => ?_)
 ·refine (show WD _ _ _ _ _ _ _ _ _ _ _ _ from ?_) hcl
  refine WD.takeG (i := 7) rfl rfl rfl rfl rfl rfl (by decide +kernel) (by decide +kernel) (by decide +kernel) (fun _ _ _ h => h) (by kernel_rfl) need_none (Yl.fieldAddr0 F.fld130_1 rfl) ?_
  refine WD.takeG (i := 8) rfl rfl rfl rfl rfl rfl (by decide +kernel) (by decide +kernel) (by decide +kernel) (fun _ _ _ h => h) (by kernel_rfl) (need_at2 2 rfl (by decide +kernel)) (Yl.load1 F.one2 rfl) ?_
  refine WD.takeG (i := 9) rfl rfl rfl rfl rfl rfl (by decide +kernel) (by decide +kernel) (by decide +kernel) (fun _ _ _ h => h) (by kernel_rfl) need_none (Yl.fieldAddr0 F.fld130_1 rfl) ?_
  refine WD.takeG (i := 10) rfl rfl rfl rfl rfl rfl (by decide +kernel) (by decide +kernel) (by decide +kernel) (fun _ _ _ h => h) (by kernel_rfl) (need_at2 3 rfl (by decide +kernel)) (Yl.load1 F.one2 rfl) ?_
  refine WD.takeG (i := 12) rfl rfl rfl rfl rfl rfl (by decide +kernel) (by decide +kernel) (by decide +kernel) (fun _ _ _ h => h) (by kernel_rfl) need_none (Yl.fieldAddr0 F.fld130_2 rfl) ?_
  refine WD.takeG (i := 13) rfl rfl rfl rfl rfl rfl (by decide +kernel) (by decide +kernel) (by decide +kernel) (fun _ _ _ h => h) (by kernel_rfl) (need_at2 4 rfl (by decide +kernel)) (Yl.load1 F.one26 rfl) ?_
  refine WD.takeG (i := 14) rfl rfl rfl rfl rfl rfl (by decide +kernel) (by decide +kernel) (by decide +kernel) (fun _ _ _ h => h) (by kernel_rfl) need_none (Yl.fieldAddr0 F.fld130_2 rfl) ?_
  refine WD.takeG (i := 15) rfl rfl rfl rfl rfl rfl (by decide +kernel) (by decide +kernel) (by decide +kernel) (fun _ _ _ h => h) (by kernel_rfl) (need_at2 5 rfl (by decide +kernel)) (Yl.load1 F.one26 rfl) ?_
  refine jA 11 rfl ?_
  refine WL.guardT rfl rfl rfl ?_
  refine WL.callV F.fun165 rfl rfl (fun w hS => cmp64_c 0 0 w) ?_
  refine WD.on (closed_of (by decide +kernel)) (fun w hS => Sx.keep (hS.cell jM rfl) (Sx.keep (hS.cell jM rfl) (Sx.keep (hS.cell jM rfl) (Sx.keep (hS.cell jM rfl) (Sx.keep (hS.cell jM rfl) (Sx.keep (hS.cell jM rfl) (Sx.none))))))) ?_
  refine jA 16 rfl ?_
  refine WL.guardT rfl rfl rfl ?_
  refine WL.callV F.fun166 rfl rfl (fun w hS => cmp32_c (y.2.1 : Int) (x.2.1 : Int) w) ?_
  refine WD.on (closed_of (by decide +kernel)) (fun w hS => Sx.keep (hS.cell jM rfl) (Sx.keep (hS.cell jM rfl) (Sx.keep (hS.cell jM rfl) (Sx.keep (hS.cell jM rfl) (Sx.keep (hS.cell jM rfl) (Sx.keep (hS.cell jM rfl) (Sx.none))))))) ?_
  refine jA 17 rfl ?_
  refine WL.guardT rfl rfl rfl ?_
  refine WL.buildSlice F.sl41 F.ez41 rfl rfl rfl rfl jB rfl (fun b22 => ?_)
  refine WD.on (closed_of (by decide +kernel)) (fun w hS => Sx.keep (hS.cell jM rfl) (Sx.keep (hS.cell jM rfl) (Sx.keep (hS.cell jM rfl) (Sx.keep (hS.cell jM rfl) (Sx.keep (hS.cell jM rfl) (Sx.keep (hS.cell jM rfl) (Sx.none))))))) ?_
  refine jA 18 rfl ?_
  refine WL.guardT rfl rfl rfl ?_
  refine WL.callV F.fun164 rfl rfl (fun w hS => cmpOr_c [0,cmpI (y.2.1 : Int) (x.2.1 : Int)] (some ⟨b22,0,none⟩) 2 (by simp) w (RdC.pt (hS.ok (pt b22 ([0,cmpI (y.2.1 : Int) (x.2.1 : Int)].map (Value.int .i64)) 3) jM))) ?_
  refine WD.on (closed_of (by decide +kernel)) (fun w hS => Sx.keep (hS.cell jM rfl) (Sx.keep (hS.cell jM rfl) (Sx.keep (hS.cell jM rfl) (Sx.keep (hS.cell jM rfl) (Sx.keep (hS.cell jM rfl) (Sx.keep (hS.cell jM rfl) (Sx.none))))))) ?_
  refine WD.takeG (i := 19) rfl rfl rfl rfl rfl rfl (by decide +kernel) (by decide +kernel) (by decide +kernel) (fun _ _ _ h => h) (by kernel_rfl) need_none (Yl.ltI rfl rfl) ?_
  refine WD.takeG (i := 20) rfl rfl rfl rfl rfl rfl (by decide +kernel) (by decide +kernel) (by decide +kernel) (fun _ _ _ h => h) (by kernel_rfl) need_none (Yl.pickT rfl rfl) ?_
  refine jT 21 rfl (Yl.pickF rfl rfl) ?_
  refine jD ?_
  refine jN 1 ?_
  refine WC.cond rfl (fun h26 => ?_) (fun h26 => ?_)
  rw [cmp_iff] at h26
  have hp : pickV x y = y := if_pos (by rw [g8,g11,h26]; rfl)
  refine jN 10 ?_
  rotate_left
  rw [cmp_iff] at h26
  have hp : pickV x y = x := if_neg (by rw [g8,g11,h26]; simp)
  refine jN 11 ?_
  rotate_left
  all_goals
   exact WQ.ret (rs := [.cell 4 130]) rfl (.cellN F.agg130 rfl jM rfl .nil) (fun w hS => ⟨by rw [hp]; rfl,hS.sublist (List.nil_sublist _)⟩)
 refine (show WD _ _ _ _ _ _ _ _ _ _ _ _ from ?_) hcl
 have hp : pickV x y = x := if_neg (by rw [g8,g11]; simp)
 refine WD.skip (i := 7) rfl rfl rfl rfl rfl rfl rfl (by decide +kernel) (by decide +kernel) (by decide +kernel) (fun _ _ _ h => h) (by kernel_rfl) ?_
 refine WD.skip (i := 8) rfl rfl rfl rfl rfl rfl rfl (by decide +kernel) (by decide +kernel) (by decide +kernel) (fun _ _ _ h => h) (by kernel_rfl) ?_
 refine WD.skip (i := 9) rfl rfl rfl rfl rfl rfl rfl (by decide +kernel) (by decide +kernel) (by decide +kernel) (fun _ _ _ h => h) (by kernel_rfl) ?_
 refine WD.skip (i := 10) rfl rfl rfl rfl rfl rfl rfl (by decide +kernel) (by decide +kernel) (by decide +kernel) (fun _ _ _ h => h) (by kernel_rfl) ?_
 refine WD.skip (i := 11) rfl rfl rfl rfl rfl rfl rfl (by decide +kernel) (by decide +kernel) (by decide +kernel) (fun _ _ _ h => h) (by kernel_rfl) ?_
 refine WD.skip (i := 12) rfl rfl rfl rfl rfl rfl rfl (by decide +kernel) (by decide +kernel) (by decide +kernel) (fun _ _ _ h => h) (by kernel_rfl) ?_
 refine WD.skip (i := 13) rfl rfl rfl rfl rfl rfl rfl (by decide +kernel) (by decide +kernel) (by decide +kernel) (fun _ _ _ h => h) (by kernel_rfl) ?_
 refine WD.skip (i := 14) rfl rfl rfl rfl rfl rfl rfl (by decide +kernel) (by decide +kernel) (by decide +kernel) (fun _ _ _ h => h) (by kernel_rfl) ?_
 refine WD.skip (i := 15) rfl rfl rfl rfl rfl rfl rfl (by decide +kernel) (by decide +kernel) (by decide +kernel) (fun _ _ _ h => h) (by kernel_rfl) ?_
 refine WD.skip (i := 16) rfl rfl rfl rfl rfl rfl rfl (by decide +kernel) (by decide +kernel) (by decide +kernel) (fun _ _ _ h => h) (by kernel_rfl) ?_
 refine WD.skip (i := 17) rfl rfl rfl rfl rfl rfl rfl (by decide +kernel) (by decide +kernel) (by decide +kernel) (fun _ _ _ h => h) (by kernel_rfl) ?_
 refine WD.skip (i := 18) rfl rfl rfl rfl rfl rfl rfl (by decide +kernel) (by decide +kernel) (by decide +kernel) (fun _ _ _ h => h) (by kernel_rfl) ?_
 refine WD.skip (i := 19) rfl rfl rfl rfl rfl rfl rfl (by decide +kernel) (by decide +kernel) (by decide +kernel) (fun _ _ _ h => h) (by kernel_rfl) ?_
 refine WD.takeG (i := 20) rfl rfl rfl rfl rfl rfl (by decide +kernel) (by decide +kernel) (by decide +kernel) (fun _ _ _ h => h) (by kernel_rfl) need_none (Yl.pickF rfl rfl) ?_
 refine jT 21 rfl (Yl.pickF rfl rfl) ?_
 refine jD ?_
 refine jN 13 ?_
 exact WQ.ret (rs := [.cell 4 130]) rfl (.cellN F.agg130 rfl jM rfl .nil) (fun w hS => ⟨by rw [hp]; rfl,hS.sublist (List.nil_sublist _)⟩)
theorem bestj_c (bw bc : Nat) (v : Nat) (hv : v < 24) (x y : ChV) (hx : v + 1 ≤ x.1 ∧ x.1 ≤ 24) (hy : v + 1 ≤ y.1 ∧ y.1 ≤ 24) (hxc : x.2.1 < 4294967296) (hyc : y.2.1 < 4294967296) (w : World) (hcap : w.cell? ⟨bc,0,none⟩ = some (pp bw)) (hw0 : RdW0 w bw) :
  Pure Tryz.prog 133 [.int .i64 (v : Int),.agg (chv x).toArray,.agg (chv y).toArray,pp bc] w (.agg (chv (joinC v x y)).toArray) := by
 refine enter Tryz.func133 rfl Tryz.ntmps133 rfl (St.init _) ?_
 refine jN 3 ?_
 refine WL.boxN rfl rfl (fun b5 => ?_)
 refine jN 1 ?_
 refine WL.boxN rfl rfl (fun b6 => ?_)
 refine jN 1 ?_
 refine WL.alloc F.zero130 rfl (fun b7 => ?_)
 refine jN 3 ?_
 refine WC.drawsL (by kernel_rfl) (FactsOk.cons (ds := [7,13,15,16,17]) (LoadOk.by (Y := fun w => w.cell? ⟨bc,0,none⟩ = some (pp bw)) (fun w hS => hS.oldc hcap (by simp))) (FactsOk.cons (ds := [5,7,13,15,16,17]) (LoadOk.by (Y := fun w => w.cell? ⟨bc,0,none⟩ = some (pp bw)) (fun w hS => hS.oldc hcap (by simp))) (FactsOk.cons (ds := [5,7,13,15,16,17]) (LoadOk.whole (t := 5) rfl jM) (FactsOk.cons (ds := [15,16,17]) (LoadOk.by (Y := fun w => w.cell? ⟨bc,0,none⟩ = some (pp bw)) (fun w hS => hS.oldc hcap (by simp))) (FactsOk.cons (ds := [13,15,16,17]) (LoadOk.by (Y := fun w => w.cell? ⟨bc,0,none⟩ = some (pp bw)) (fun w hS => hS.oldc hcap (by simp))) (FactsOk.cons (ds := [13,15,16,17]) (LoadOk.whole (t := 6) rfl jM) (FactsOk.nil))))))) ?_
 refine jF 0 0 rfl rfl (Yl.load1 F.one132 rfl) ?_
 refine jF 1 1 rfl rfl (Yl.load1 F.one132 rfl) ?_
 refine jF 2 2 rfl rfl (Yl.loadN F.agg130 rfl rfl) ?_
 refine jT 3 rfl (Yl.move rfl) ?_
 refine jT 4 rfl (Yl.add rfl rfl ⟨by omega,by omega⟩) ?_
 refine jT 6 rfl (Yl.move rfl) ?_
 refine jF 8 3 rfl rfl (Yl.load1 F.one132 rfl) ?_
 refine jF 9 4 rfl rfl (Yl.load1 F.one132 rfl) ?_
 refine jF 10 5 rfl rfl (Yl.loadN F.agg130 rfl rfl) ?_
 refine jT 11 rfl (Yl.move rfl) ?_
 refine jT 12 rfl (Yl.add rfl rfl ⟨by omega,by omega⟩) ?_
 refine jT 14 rfl (Yl.move rfl) ?_
 refine jA 5 rfl ?_
 refine WL.callV F.fun136 rfl rfl (fun w hS => down_c bw x hxc hx.2 (v + 1) _ (by omega) hx.1 w (hw0.next hS)) ?_
 refine WD.on (closed_of (by decide +kernel)) (fun w hS => Sx.keep (hS.oldc hcap (by simp)) (Sx.gone rfl (Sx.gone rfl (Sx.keep (hS.oldc hcap (by simp)) (Sx.keep (hS.oldc hcap (by simp)) (Sx.keep ((fun j v hv => by rw [Nat.zero_add]; exact hS.cell jM hv)) (Sx.none))))))) ?_
 refine jA 7 rfl ?_
 refine WL.callV F.fun135 rfl rfl (fun w hS => step_c bw (v + 1,x.2) hxc v hv false w (hw0.next hS)) ?_
 refine WD.on (closed_of (by decide +kernel)) (fun w hS => Sx.gone rfl (Sx.gone rfl (Sx.gone rfl (Sx.keep (hS.oldc hcap (by simp)) (Sx.keep (hS.oldc hcap (by simp)) (Sx.keep ((fun j v hv => by rw [Nat.zero_add]; exact hS.cell jM hv)) (Sx.none))))))) ?_
 refine jA 13 rfl ?_
 refine WL.callV F.fun136 rfl rfl (fun w hS => down_c bw y hyc hy.2 (v + 1) _ (by omega) hy.1 w (hw0.next hS)) ?_
 refine WD.on (closed_of (by decide +kernel)) (fun w hS => Sx.gone rfl (Sx.gone rfl (Sx.gone rfl (Sx.keep (hS.oldc hcap (by simp)) (Sx.gone rfl (Sx.gone rfl (Sx.none))))))) ?_
 refine jA 15 rfl ?_
 refine WL.callV F.fun135 rfl rfl (fun w hS => step_c bw (v + 1,y.2) hyc v hv true w (hw0.next hS)) ?_
 refine jG ?_
 refine jA 16 rfl ?_
 refine WL.callV F.fun134 rfl rfl (fun w hS => better_c (stepV (v + 1,x.2) v false) (stepV (v + 1,y.2) v true) w) ?_
 refine jG ?_
 refine jA 17 rfl ?_
 refine WL.storeN (cs' := chv (joinC v x y)) F.agg130 rfl rfl rfl jO jU (by repeat constructor) ?_
 refine jG ?_
 refine jD ?_
 refine jN 2 ?_
 exact WQ.ret (rs := [.cell 7 130]) rfl (.cellN F.agg130 rfl jM rfl .nil) (fun w hS => ⟨rfl,hS.sublist (List.nil_sublist _)⟩)
structure FC (la : List Dec) (out : List ChV) : Prop where
 at' : ∀ k z,out[k]? = some z → z = chT (trs la k)
 two : 2 ≤ out.length
theorem FC.nil (la : List Dec) : FC la [(24,0,false),(24,0,true)] := ⟨fun k z hz => by
 rcases k with _ | _ | k
 ·simp at hz; rw [(trs_zero la).1,← hz]; rfl
 ·simp at hz; rw [(trs_zero la).2,← hz]; rfl
 ·simp at hz,by simp⟩
theorem FC.step {la : List Dec} (hla : Mk la) {out : List ChV} (h : FC la out) {x : Dec} (hx : la[out.length - 2]? = some x) {z1 z2 : ChV} (h1 : out[x.2.1]? = some z1) (h2 : out[x.2.2]? = some z2) : FC la (out ++ [joinC x.1 z1 z2]) := ⟨fun k z hz => by
 by_cases hk : k < out.length
 ·rw [List.getElem?_append_left hk] at hz; exact h.at' k z hz
 ·have hlt := (List.getElem?_eq_some_iff.1 hz).1
  rw [List.length_append,List.length_singleton] at hlt
  have e : k = out.length := by omega
  subst e
  simp at hz
  have ht := hla.at hx
  have h2' := h.two
  rw [show out.length - 2 + 2 = out.length by omega] at ht
  rw [ht,chT_nd,← hz,h.at' _ _ h1,h.at' _ _ h2],by have := h.two; simp; omega⟩
theorem ch_join (t : BT) (ht : t.ok 0) (bw bc : Nat) (wb : World) (hcap : wb.cell? ⟨bc,0,none⟩ = some (pp bw)) (hw0 : RdW0 wb bw) (out : List ChV) (s : Unit) (x : Dec) (z1 z2 : ChV) (w : World) (hx : (canon t).1[out.length - 2]? = some x) (hI : FC (canon t).1 out) (h1 : out[x.2.1]? = some z1) (h2 : out[x.2.2]? = some z2) (hS0 : St wb [] [] w) (hS : St w [] [rowc (.slice none 0 0) 0 41 1 []] w) :
  Calls Tryz.prog 133 ([] ++ [Value.int .i64 (x.1 : Int),.agg (e4 (fun z : ChV => Value.int .i64 (z.1 : Int)) (fun _ => Value.int .i64 0) (fun z => Value.int .u32 (z.2.1 : Int)) (fun z => Value.bool z.2.2) z1).toArray,.agg (e4 (fun z : ChV => Value.int .i64 (z.1 : Int)) (fun _ => Value.int .i64 0) (fun z => Value.int .u32 (z.2.1 : Int)) (fun z => Value.bool z.2.2) z2).toArray] ++ [pp bc]).toArray w fun e w' => ∃ y : { y : Unit × ChV // FC (canon t).1 (out ++ [y.2]) },e = .returned (.agg (e4 (fun z : ChV => Value.int .i64 (z.1 : Int)) (fun _ => Value.int .i64 0) (fun z => Value.int .u32 (z.2.1 : Int)) (fun z => Value.bool z.2.2) y.1.2).toArray) ∧ St w [] [rowc (.slice none 0 0) 0 41 1 []] w' := by
 have hmk := canon_mk ht
 have e1 := hI.at' _ _ h1
 have e2 := hI.at' _ _ h2
 have hk := (List.getElem?_eq_some_iff.1 hx).1
 have hnd := hmk.at hx
 have hok := subT_ok ht (canon_sub (t := t) hk)
 rw [hnd] at hok
 obtain ⟨_,k1,_,k2,k3⟩ := hok
 have b1 := best_ok k2 (by omega)
 have b2 := best_ok k3 (by omega)
 have l1 : z1.2.1 < 4294967296 := by rw [e1]; exact Nat.lt_of_lt_of_le b1.lt (by decide)
 have l2 : z2.2.1 < 4294967296 := by rw [e2]; exact Nat.lt_of_lt_of_le b2.lt (by decide)
 have t1 : x.1 + 1 ≤ z1.1 ∧ z1.1 ≤ 24 := by rw [e1]; exact topT_ge k2 (by omega)
 have t2 : x.1 + 1 ≤ z2.1 ∧ z2.1 ≤ 24 := by rw [e2]; exact topT_ge k3 (by omega)
 refine (bestj_c bw bc x.1 k1 z1 z2 t1 t2 l1 l2 w (hS0.oldc hcap (by simp)) (hw0.next hS0)).mono ?_
 rintro e w' ⟨he,hS'⟩
 exact ⟨⟨((),_),hI.step hmk hx h1 h2⟩,he,hS'.rowNil _ _⟩
set_option maxRecDepth 100000 in
theorem best_c (t : BT) (a : Option Addr) (c bw : Nat) (w : World) (ht : RdD w t a) (hw0 : RdW0 w bw) :
  Pure Tryz.prog 81 [dval t a c,pp bw] w (.agg (chv (0,leastT t)).toArray) := by
 have hmk := canon_mk ht.1
 have hcl := canon_len ht.1
 refine enter Tryz.func81 rfl Tryz.ntmps81 rfl (St.init _) ?_
 refine jN 3 ?_
 refine WL.boxN rfl rfl (fun b2 => ?_)
 refine jN 1 ?_
 refine WL.box1 rfl rfl rfl (fun b3 => ?_)
 refine jN 1 ?_
 refine WL.alloc F.zero130 rfl (fun b4 => ?_)
 refine jN 7 ?_
 refine WL.alloc F.zero130 rfl (fun b5 => ?_)
 refine jN 6 ?_
 refine WA.chunks (fun w hS => (hS.rowNil 41 1)) ?_
 refine jN 9 ?_
 refine WL.callC (β := { y : List ChV × Unit × ChV // FC (canon t).1 y.1 ∧ y.1.length = (canon t).1.length + 2 ∧ y.1[(canon t).2]? = some y.2.2 }) (res := fun y => .agg (e4 (fun z : ChV => Value.int .i64 (z.1 : Int)) (fun _ => Value.int .i64 0) (fun z => Value.int .u32 (z.2.1 : Int)) (fun z => Value.bool z.2.2) y.1.2.2).toArray) (cs := fun y => [rowc (.slice none 0 0) 0 41 1 []]) (Cs := [rowc (.slice none 0 0) 0 41 1 []]) (C1 := [pt b5 [.int .i64 24,.int .i64 0,.int .u32 0,.bool true] 130,pt b4 [.int .i64 0,.int .i64 0,.int .u32 0,.bool false] 130,pt b3 [pp bw] 132,pt b2 [.slice a (canon t).1.length c,.int .i64 ((canon t).2 : Int)] 35]) (O' := []) F.fun132 (fun d h => by cases h; rfl) rfl (List.Perm.refl _) (fun c hc k hk => (by rw [List.mem_singleton.1 hc] at hk; cases hk)) (by simp) (fun w hS hS2 => FoldC_c (σ := Unit) (τ := ChV) (fun z : ChV => Value.int .i64 (z.1 : Int)) (fun _ => Value.int .i64 0) (fun z => Value.int .u32 (z.2.1 : Int)) (fun z => Value.bool z.2.2) (by intro x u hu; simp only [e4,List.mem_cons,List.not_mem_nil,or_false] at hu; rcases hu with rfl | rfl | rfl | rfl <;> rfl) (fun _ => rowc (.slice none 0 0) 0 41 1 []) (fun _ => []) (fun _ => FpIs.rowc) 133 F.fun133 [] [pp b3] (canon t).1 a c (canon t).2 (24,0,false) (24,0,true) (fun out _ => FC (canon t).1 out) (Nat.le_of_lt hcl) (fun k x hx => ⟨(hmk.kid k x hx).2.1,(hmk.kid k x hx).2.2.1⟩) (canon_at t).1 () (FC.nil _) w (fun out s x z1 z2 w1 hx hI h1 h2 hS0 hS1 => ch_join t ht.1 bw b3 w (hS.cell (cs := [pp bw]) jM rfl) (hw0.next hS) out s x z1 z2 w1 hx hI h1 h2 hS0 hS1) (rd_none (ht.next0 hS).2) hS2) (fun ⟨⟨out,s,z⟩,hI,hol,hz⟩ => ?_)
 dsimp only at hI hol hz
 have hzt : z = chT t := by rw [hI.at' _ _ hz,(canon_at t).2]
 subst hzt
 have hbo := best_ok ht.1 (by decide)
 have hlt : (bestT t).1 < 4294967296 := Nat.lt_of_lt_of_le hbo.lt (by decide)
 show WA _ _ _ _ _ ((12,.agg (chv (chT t)).toArray) :: _) _
 refine jN 1 ?_
 refine WL.alloc F.zero130 rfl (fun b6 => ?_)
 refine jN 1 ?_
 refine WL.storeN (cs' := chv (chT t)) F.agg130 rfl rfl rfl jO jU (by repeat constructor) ?_
 refine jN 13 ?_
 refine WC.cond rfl (fun h15 => ?_) (fun h15 => ?_)
 have hb0 : (bestT t).2 = false := by simpa [chT] using h15
 have hls : leastT t = (0,false) := by unfold leastT; rw [hb0]; rfl
 refine jN 10 ?_
 rotate_left
 have hb1 : (bestT t).2 = true := by simpa [chT] using h15
 have hls : leastT t = bestT t := by unfold leastT; rw [hb1]; rfl
 refine jN 9 ?_
 refine WL.callV F.fun136 rfl rfl (fun w hS => down_c bw (chT t) hlt (topT_ge ht.1 (by decide)).2 0 _ rfl (Nat.zero_le _) w (hw0.next hS)) ?_
 refine jN 1 ?_
 refine WL.storeN (cs' := chv (0,bestT t)) F.agg130 rfl rfl rfl jO jU (by repeat constructor) ?_
 refine jN 3 ?_
 rotate_left
 all_goals
  exact WQ.ret (rs := [.cell 4 130]) rfl (.cellN F.agg130 rfl jM rfl .nil) (fun w hS => ⟨by rw [hls]; rfl,hS.sublist (List.nil_sublist _)⟩)
set_option maxRecDepth 100000 in
theorem Least_c (t : BT) (a : Option Addr) (c : Nat) (w : World) (ht : RdD w t a) :
  Pure Tryz.prog 32 [dval t a c] w (.tuple #[.int .u32 ((leastT t).1 : Int),.bool (leastT t).2]) := by
 refine enter Tryz.func32 rfl Tryz.ntmps32 rfl (St.init _) ?_
 refine jN 3 ?_
 refine WL.boxN rfl rfl (fun b1 => ?_)
 refine jN 11 ?_
 refine WL.buildA (cs := (List.replicate 48 (Value.int .i64 0))) F.arT135 rfl .nil rfl ?_
 refine jN 1 ?_
 refine WL.boxN rfl rfl (fun b7 => ?_)
 refine jN 1 ?_
 refine WL.callV F.fun81 rfl rfl (fun w hS => best_c t a c b7 w (ht.next0 hS) (fun k hk => hS.cell (cs := (List.replicate 48 (Value.int .i64 0))) jM (by rw [List.getElem?_replicate,if_pos hk]))) ?_
 refine jN 1 ?_
 refine WL.alloc F.zero130 rfl (fun b4 => ?_)
 refine jN 1 ?_
 refine WL.storeN (cs' := chv (0,leastT t)) F.agg130 rfl rfl rfl jO jU (by repeat constructor) ?_
 refine jN 3 ?_
 refine WC.drawsL (by kernel_rfl) (FactsOk.cons (ds := []) (LoadOk.one (t := 4) (off := 2) rfl jM rfl) (FactsOk.cons (ds := []) (LoadOk.one (t := 4) (off := 3) rfl jM rfl) (FactsOk.nil))) ?_
 refine jT 0 rfl (Yl.fieldAddr0 F.fld130_2 rfl) ?_
 refine jF 1 0 rfl rfl (Yl.load1 F.one26 rfl) ?_
 refine jT 2 rfl (Yl.fieldAddr0 F.fld130_3 rfl) ?_
 refine jF 3 1 rfl rfl (Yl.load1 F.one4 rfl) ?_
 refine jT 4 rfl (Yl.assign rfl) ?_
 refine jT 5 rfl (Yl.assign rfl) ?_
 refine jD ?_
 refine jN 2 ?_
 exact WQ.ret (rs := [.tmp 2,.tmp 3]) rfl (.tmp rfl (.tmp rfl .nil)) (fun w hS => ⟨rfl,hS.sublist (List.nil_sublist _)⟩)
theorem paths_seven {t : BT} {f : Nat} (hok : t.ok 0) (hf7 : (featL f).length ≤ 7) (hfew : ∀ k,hasVar k t → f.testBit k = true) : pathsN t ≤ 4096 := by
 have h1 := paths_few (m := 0) hok hfew
 have h2 : (featL f).filter (fun k => decide (0 ≤ k)) = featL f := List.filter_eq_self.2 (fun k _ => by simp)
 rw [h2] at h1
 have h3 : 2 ^ (featL f).length ≤ 2 ^ 7 := Nat.pow_le_pow_right (by decide) hf7
 omega
theorem Conj_back (t : BT) (ho : t.ok 0) (a : Option Addr) (cap : Nat) (us : List Value) (hm : Fm.mayE 24 (pathsT t []) = 0) (w : World) (hr : RdLL w (pathsT t []) a us) :
  Calls Tryz.prog 30 [.int .i64 24,.slice a (pathsT t []).length cap].toArray w fun e w' => ∃ x : Option Addr × Nat,e = .returned (.tuple #[dval t x.1 x.2,.int .i64 0]) ∧ St w [] [dC x.1 x.2 t] w' := by
 refine (Conj_in 24 (pathsT t []) a cap us hm w hr).mono ?_
 rintro e w2 ⟨⟨⟨zt,za,zc⟩,hzo,hze⟩,h1,h2⟩
 obtain rfl : zt = t := BT.unique hzo ho (fun cf => by rw [hze]; exact paths_set t cf)
 exact ⟨(za,zc),h1,h2⟩
theorem row_saddr {w : World} {a : Option Addr} {n c : Nat} {e : TypeId} {sz : Nat} {xs : List Value} (h : (rowc (.slice a n c) n e sz xs).ok w) : a = none ∨ ∃ b off,a = some ⟨b,off,none⟩ := by
 rcases h.2 with ⟨h1,_⟩ | ⟨g,cap,cur,hv,_⟩
 ·injection h1 with h1 _ _; exact .inl h1
 injection hv with h1 _ _; exact .inr ⟨g,0,h1⟩
set_option maxRecDepth 100000 in
theorem FormulaSets_c (l : List OpV) (a : Option Addr) (c : Nat) (w : World) (hwf : ∀ x ∈ l,x.wf) (hr : RdOps w l a) :
  Pure Tryz.prog 6 [.slice a l.length c] w (.bool true) := by
 refine enter Tryz.func6 rfl Tryz.ntmps6 rfl (St.init _) ?_
 refine jN 12 ?_
 refine jC (β := { b : Bool // b = true → MentP l }) (res := fun z => .bool z.1) (cs := fun _ => []) F.fun18 rfl (fun w hS _ => Mentioned_c l a c hwf w (hr.next hS)) (fun ⟨b,hb⟩ => ?_)
 dsimp only
 refine jN 4 ?_
 refine WC.cond rfl (fun h15 => ?_) (fun h15 => ?_)
 ·refine jN 3 ?_
  refine WL.callV F.fun9 rfl rfl (fun w _ => wakes_c w) ?_
  refine jN 6 ?_
  exact WQ.ret (rs := [.tmp 2]) rfl (.tmp rfl .nil) (fun w hS => ⟨rfl,hS.sublist (List.nil_sublist _)⟩)
 have hbt : b = true := by
  cases b with
  | false => simp at h15
  | true => rfl
 obtain ⟨hl12,f,hf32,hf7,hin⟩ := hb hbt
 refine jN 7 ?_
 refine jC (β := MkZ l) (res := fun z => .slice z.1.2.2.1 z.1.1.length z.1.2.2.2) (cs := fun z => [rowc (.slice z.1.2.2.1 z.1.1.length z.1.2.2.2) z.1.1.length 35 2 (dcs z.1.1),dsC z.1.2.1 z.1.1]) F.fun29 rfl (fun w hS _ => Make_c l a c hwf hl12 f hin w (hr.next hS)) (fun ⟨⟨ds,Fz,sa,sc⟩,hev,hdl⟩ => ?_)
 dsimp only at hev hdl ⊢
 refine jN 6 ?_
 obtain ⟨x,hx⟩ : ∃ x,ds[l.length]? = some x := ⟨_,List.getElem?_eq_getElem (by omega)⟩
 have hxm := List.mem_of_getElem? hx
 have hdl1 : ds.length - 1 = l.length := by omega
 refine WA.know (φ := ∃ bd,sa = some ⟨bd,0,none⟩ ∧ ds.length = ds.length ∧ ds.length ≤ sc) (fun w hS => rowc_addr (hS.ok (rowc (.slice sa ds.length sc) ds.length 35 2 (dcs ds)) jM) (by omega)) (fun ⟨bd,hbd,_,_⟩ => ?_)
 refine WA.know (φ := x.1.ok 0) (fun w hS => (dsC_rd (hS.ok (dsC Fz ds) jM) hxm).1) (fun hok => ?_)
 have hfew := last_few hin hev hxm hok
 have hpn := paths_seven hok hf7 hfew
 have hmay := paths_may hok hpn (fun c hc => by have := paths_len (pre := []) hok (Nat.le_refl _) c hc; simpa using this)
 obtain ⟨r,hrs,hgood⟩ := solve_gen (n := 24) (k := 24) (Nat.le_refl _) (Nat.le_refl _) 67108864 (by decide +kernel) (paths_abs hok)
 have hgl := good_least hok hgood
 have hrl := solve_len hrs
 obtain ⟨ro,rm,rp⟩ := r
 dsimp only at hgl hrl
 obtain ⟨rfl,rfl⟩ := hgl
 simp only [List.length_nil] at hrl
 refine jN 8 ?_
 refine WA.say 22 (.int .i64 (l.length : Int)) (by rw [show (l.length : Int) = (ds.length : Int) - 1 by omega]; rfl) ?_
 refine WA.say 19 (.slice (some ⟨bd,0,none⟩) ds.length sc) (by rw [← hbd]; rfl) ?_
 refine jN 1 ?_
 refine WL.indexAddr (i := l.length) F.sl48 rfl rfl rfl (by omega) ?_
 refine jN 1 ?_
 refine WL.loadN F.agg35 rfl rfl (vs := dvl x) rfl (fun w hS j v hv => by rw [Nat.zero_add]; exact rowc_cells (by rw [← hbd]; exact hS.ok (rowc (.slice sa ds.length sc) ds.length 35 2 (dcs ds)) jM) (dcs_at hx j v hv)) ?_
 refine jN 1 ?_
 refine WL.alloc F.zero35 rfl (fun b4 => ?_)
 refine jN 9 ?_
 refine jC (β := TGr) (res := fun y => .tuple #[.slice y.oa (pathsT x.1 []).length y.oc,.int .i64 0]) (cs := fun y => [rowc (.slice y.oa (pathsT x.1 []).length y.oc) (pathsT x.1 []).length 41 1 y.vs,stepsC y.Fs y.vs (pathsT x.1 [])]) F.fun20 rfl (fun w hS _ => Clauses_in x.1 x.2.1 x.2.2 w (dsC_rd (hS.ok (dsC Fz ds) jM) hxm) hpn) (fun y => ?_)
 refine jN 17 ?_
 refine jC (β := Option Addr × Nat) (res := fun q => .tuple #[dval x.1 q.1 q.2,.int .i64 0]) (cs := fun q => [dC q.1 q.2 x.1]) F.fun30 rfl (fun w hS _ => Conj_back x.1 hok y.oa y.oc y.vs hmay w (RdLL.made rfl (hS.ok (rowc (.slice y.oa (pathsT x.1 []).length y.oc) (pathsT x.1 []).length 41 1 y.vs) jM) (hS.ok (stepsC y.Fs y.vs (pathsT x.1 [])) jM))) (fun q => ?_)
 refine jN 7 ?_
 refine WL.alloc F.zero35 rfl (fun b7 => ?_)
 refine jN 11 ?_
 refine jC (β := (Option Addr × Nat) × List Nat × List Value) (res := fun y => .tuple #[.agg #[.bool (leastT x.1).2,.int .u32 ((leastT x.1).1 : Int),.slice y.1.1 rp.length y.1.2],.int .i64 0]) (cs := fun y => [rowc (.slice y.1.1 rp.length y.1.2) rp.length 41 1 y.2.2,stepsC y.2.1 y.2.2 rp]) F.fun31 rfl (fun w hS _ => (Solve_c 24 (pathsT x.1 []) y.oa y.oc y.vs (row_saddr (hS.ok (rowc (.slice y.oa (pathsT x.1 []).length y.oc) (pathsT x.1 []).length 41 1 y.vs) jM)) w (RdLL.made rfl (hS.ok (rowc (.slice y.oa (pathsT x.1 []).length y.oc) (pathsT x.1 []).length 41 1 y.vs) jM) (hS.ok (stepsC y.Fs y.vs (pathsT x.1 [])) jM)) 67108864 ⟨(leastT x.1).2,(leastT x.1).1,rp⟩ (by decide) (fun k hk _ => (show 24 = k by omega) ▸ hrs)).mono (fun e w2 h => ?_)) (fun ⟨⟨pa,pc⟩,pf,pv⟩ => ?_)
 ·rcases h with h | ⟨_,x9,F9,vs9,h1,h2⟩
  ·exact absurd hmay h.1
  exact ⟨(x9,F9,vs9),h1,h2⟩
 refine jN 7 ?_
 refine WL.alloc F.zero69 rfl (fun b9 => ?_)
 refine jN 11 ?_
 refine WL.callV F.fun32 rfl rfl (fun w hS => Least_c x.1 x.2.1 x.2.2 w (dsC_rd (hS.ok (dsC Fz ds) jM) hxm)) ?_
 refine jN 20 ?_
 refine WA.splitB (i := 47) rfl (fun g47 => ?_) (fun g47 => ?_)
 ·refine jN 10 ?_
  refine WA.splitB (i := 51) rfl (fun g51 => ?_) (fun g51 => ?_)
  ·refine jN 10 ?_
   refine WA.splitB (i := 55) rfl (fun g55 => ?_) (fun g55 => ?_)
   ·refine jN 8 ?_
    refine WL.callV F.fun33 rfl rfl (fun w hS => Same_c x.1 q.1 x.2.1 q.2 x.2.2 w (RdD.of_row hok (hS.ok (dC q.1 q.2 x.1) jM)) (dsC_rd (hS.ok (dsC Fz ds) jM) hxm)) ?_
    refine jN 4 ?_
    refine WA.splitB (i := 60) rfl (fun g60 => ?_) (fun g60 => ?_)
    ·refine jN 11 ?_
     refine WL.bin (v := .bool ((leastT x.1).2 == (leastT x.1).2)) rfl rfl rfl (fun w => run_eqB _ _ w) ?_
     refine jN 4 ?_
     refine WA.splitB (i := 66) rfl (fun g66 => ?_) (fun g66 => ?_)
     ·refine jN 16 ?_
      refine WA.splitB (i := 72) rfl (fun g72 => ?_) (fun g72 => ?_)
      ·refine jN 2 ?_
       refine WL.callV F.fun9 rfl rfl (fun w _ => wakes_c w) ?_
       refine jN 7 ?_
       exact WQ.ret (rs := [.tmp 2]) rfl (.tmp rfl .nil) (fun w hS => ⟨rfl,hS.sublist (List.nil_sublist _)⟩)
      exfalso; simp at g72
     exfalso; simp at g66
    exfalso; simp at g60
   exfalso; simp at g55
  exfalso; simp at g51
 exfalso; simp at g47
end Go.Proofs.YtkgllhkhdjodeaaGreat
