import Derived.Test.YtkgllhkhdjodeaaGreatPaEvals4
import Derived.Test.YtkgllhkhdjodeaaGreatSpecD5
set_option linter.unusedSimpArgs false
set_option linter.unusedVariables false
namespace Go.Proofs.YtkgllhkhdjodeaaGreat
open Go Go.Eng Go.Proofs Dg
theorem run_sub32 {a b : Nat} (h : b ≤ a) (ha : a < 4294967296) (t : TypeId) (x y : Operand) (w : World) :
  (do eqGuard .sub t x y (.int .u32 (a : Int)) (.int .u32 (b : Int)); binOp .sub t (.int .u32 (a : Int)) (.int .u32 (b : Int)) : Sem Value).run Tryz.prog w = .ok (.int .u32 ((a - b : Nat) : Int)) w := by
 have h1 := wrap_u32 (show a - b < 4294967296 by omega)
 have h2 : ((a - b : Nat) : Int) = (a : Int) - (b : Int) := by omega
 rw [h2] at h1 ⊢
 simp [eqGuard, binOp, Op.intArith, h1]
def updN (c x : Nat) (on : Bool) : Nat := if on then c ||| 2 ^ x else if c.testBit x then c - 2 ^ x else c
theorem two_le {c x : Nat} (h : c.testBit x = true) : 2 ^ x ≤ c := Nat.ge_two_pow_of_testBit h

set_option maxRecDepth 100000 in
theorem rWith_c (v : List Nat) (bs : List Bool) (x : Nat) (on : Bool) (hx24 : x < 24) (hp : v.Pairwise (· < ·)) (hv24 : ∀ x ∈ v, x < 24) (hvl : v.length ≤ 24) (hbl : bs.length = 2 ^ v.length) (a ta : Option Addr) (c tc : Nat) (w : World) (hr : RdV w v a) (hrb : RdB w bs ta) :
  Calls Tryz.prog 61 [sval v a c bs ta tc, .int .i64 (x : Int), .bool on].toArray w fun e w' => ∃ b : Nat, e = .returned (.agg [.slice a v.length c, .slice (some ⟨b, 0, none⟩) (2 ^ v.length) (2 ^ v.length)].toArray) ∧ St w [] [rowc (.slice (some ⟨b, 0, none⟩) (2 ^ v.length) (2 ^ v.length)) (2 ^ v.length) 4 1 (bls (tabN (2 ^ v.length) (2 ^ v.length) (fun k => bs.getD (hasN v (updN (confN v k) x on)) false)))] w' := by
 have h2n : (2 ^ v.length) ≤ 2 ^ 24 := Nat.pow_le_pow_right (by decide) hvl
 refine enter Tryz.func61 rfl Tryz.ntmps61 rfl (St.init _) ?_
 refine jN 3 ?_
 refine WL.boxN rfl rfl (fun b3 => ?_)
 refine jN 1 ?_
 refine WL.alloc F.zero44 rfl (fun b6 => ?_)
 refine jN 11 ?_
 refine WA.splitB (i := 12) rfl (fun g12 => ?_) (fun g12 => ?_)
 ·exfalso; simp at g12; omega
 ·refine jN 10 ?_
  refine WC.cond rfl (fun h15 => ?_) (fun h15 => ?_)
  ·exfalso; simp at h15; omega
  ·refine jN 9 ?_
   refine jC (β := Nat) (res := fun y => .agg [.slice a v.length c, .slice (some ⟨y, 0, none⟩) (2 ^ v.length) (2 ^ v.length)].toArray) (cs := fun y => [rowc (.slice (some ⟨y, 0, none⟩) (2 ^ v.length) (2 ^ v.length)) (2 ^ v.length) 4 1 (bls (List.replicate (2 ^ v.length) false))]) F.fun49 rfl (fun w hS _ => Blank_c v hvl a c w) (fun b19 => ?_)
   refine jN 1 ?_
   refine WL.alloc F.zero44 rfl (fun b7 => ?_)
   refine jN 12 ?_
   refine WC.chunks (C' := [pt b7 [.slice a v.length c, .slice (some ⟨b19, 0, none⟩) (2 ^ v.length) (2 ^ v.length)] 44, rowc (.slice (some ⟨b19, 0, none⟩) (2 ^ v.length) (2 ^ v.length)) (2 ^ v.length) 4 1 (bls (tabN (2 ^ v.length) 0 (fun k => bs.getD (hasN v (updN (confN v k) x on)) false))), pt b3 (scells v a c bs ta tc) 44, pt b6 [.slice none 0 0, .slice none 0 0] 44]) (fun w hS => by rw [tabN_zero]; exact (jK hS)) ?_
   refine WC.loop (α := Nat) (fun i => i ≤ (2 ^ v.length)) (fun i => [(1, .int .i64 (x : Int)), (2, .bool on), (3, pp b3), (6, pp b6), (7, pp b7), (8, .int .i64 (i : Int))]) (fun i => [pt b7 [.slice a v.length c, .slice (some ⟨b19, 0, none⟩) (2 ^ v.length) (2 ^ v.length)] 44, rowc (.slice (some ⟨b19, 0, none⟩) (2 ^ v.length) (2 ^ v.length)) (2 ^ v.length) 4 1 (bls (tabN (2 ^ v.length) i (fun k => bs.getD (hasN v (updN (confN v k) x on)) false))), pt b3 (scells v a c bs ta tc) 44, pt b6 [.slice none 0 0, .slice none 0 0] 44]) (fun i => (2 ^ v.length) - i) (0) ?_ ?_ ?_ ?_
   ·exact Nat.zero_le _
   ·exact ⟨rfl, rfl, rfl, rfl, rfl, rfl, trivial⟩
   ·rfl
   rintro i hi
   show WC _ _ _ _ _ _ _ [(1, .int .i64 (x : Int)), (2, .bool on), (3, pp b3), (6, pp b6), (7, pp b7), (8, .int .i64 (i : Int))] [pt b7 [.slice a v.length c, .slice (some ⟨b19, 0, none⟩) (2 ^ v.length) (2 ^ v.length)] 44, rowc (.slice (some ⟨b19, 0, none⟩) (2 ^ v.length) (2 ^ v.length)) (2 ^ v.length) 4 1 (bls (tabN (2 ^ v.length) i (fun k => bs.getD (hasN v (updN (confN v k) x on)) false))), pt b3 (scells v a c bs ta tc) 44, pt b6 [.slice none 0 0, .slice none 0 0] 44]
   refine jN 15 ?_
   refine WC.cond rfl (fun h24 => ?_) (fun h24 => ?_)
   ·have hlt0 : i < bs.length := by simpa using h24
    have hlt : i < (2 ^ v.length) := by rw [← hbl]; exact hlt0
    have hcn : confN v i < 2 ^ 24 := confN_lt v i 24 hp hv24
    have hx32 := bit_two hx24
    obtain ⟨z, hz⟩ : ∃ z, z = bs.getD (hasN v (updN (confN v i) x on)) false := ⟨_, rfl⟩
    refine jN 13 ?_
    refine WL.callV F.fun48 rfl rfl (fun w hS => Config_c v i (by omega) hp hv24 hvl a c w (hr.next hS)) ?_
    refine jN 11 ?_
    refine WC.cond rfl (fun h31 => ?_) (fun h31 => ?_)
    ·have hu9 : updN (confN v i) x on = confN v i ||| 2 ^ x := by (unfold updN; rw [if_pos h31])
     refine jN 6 ?_
     refine WL.convert rfl rfl (v := .int .u64 (x : Int)) (fun w hS => conv61 (by omega) w) ?_
     refine jN 1 ?_
     refine WL.bin (v := .int .u32 ((2 ^ x : Nat) : Int)) rfl rfl rfl (fun w => run_shl1U (by omega) _ _ _ w) ?_
     refine jN 1 ?_
     refine WL.bin rfl rfl rfl (fun w => run_or (by omega) hx32 _ _ _ w) ?_
     refine jN 4 ?_
     refine WC.drawsL (by kernel_rfl) (FactsOk.cons (ds := [7]) (LoadOk.one (t := 7) (off := 1) rfl jM rfl) (FactsOk.cons (ds := [5, 7]) (LoadOk.whole (t := 3) rfl jM) (FactsOk.nil))) ?_
     refine jT 0 rfl (Yl.fieldAddr0 F.fld44_1 rfl) ?_
     refine jF 1 0 rfl rfl (Yl.load1 F.one42 rfl) ?_
     refine jT 2 rfl (Yl.move rfl) ?_
     refine jF 3 1 rfl rfl (Yl.loadN F.agg44 rfl rfl) ?_
     refine jT 4 rfl (Yl.move rfl) ?_
     refine jA 5 rfl ?_
     refine WL.callV (v := .bool z) F.fun125 rfl rfl (fun w hS => by rw [hz, hu9]; exact rHas_c v bs _ hv24 hvl hbl a ta c tc w (hr.next hS) (hrb.next hS)) ?_
     refine WD.on (closed_of (by kernel_rfl)) (fun w hS => Sx.keep (hS.cell jM rfl) (Sx.gone rfl (Sx.none))) ?_
     refine jT 6 rfl (Yl.indexAddr F.sl42 rfl rfl hlt) ?_
     refine jA 7 rfl ?_
     refine WL.storeRow1 (xs := bls (tabN (2 ^ v.length) i (fun k => bs.getD (hasN v (updN (confN v k) x on)) false))) (xs' := bls (tabN (2 ^ v.length) (i + 1) (fun k => bs.getD (hasN v (updN (confN v k) x on)) false))) F.one4 rfl rfl rfl jU (by rw [Nat.zero_add, Nat.mul_one, ← tabN_set (fun k => bs.getD (hasN v (updN (confN v k) x on)) false) hlt, ← hz]; have h7 := setN_set (bls (tabN (2 ^ v.length) i (fun k => bs.getD (hasN v (updN (confN v k) x on)) false))) i (.bool z) (by simp [bls, tabN_len]; exact hlt); rwa [← List.map_set] at h7) ?_
     refine jG ?_
     refine jD ?_
     refine jN 10 ?_
     refine WQ.chunks (C' := [pt b7 [.slice a v.length c, .slice (some ⟨b19, 0, none⟩) (2 ^ v.length) (2 ^ v.length)] 44, rowc (.slice (some ⟨b19, 0, none⟩) (2 ^ v.length) (2 ^ v.length)) (2 ^ v.length) 4 1 (bls (tabN (2 ^ v.length) (i + 1) (fun k => bs.getD (hasN v (updN (confN v k) x on)) false))), pt b3 (scells v a c bs ta tc) 44, pt b6 [.slice none 0 0, .slice none 0 0] 44]) (fun w hS => (jK hS)) ?_
     refine WQ.back (i + 1) ?_ ?_ ?_ ?_
     ·exact by (show i + 1 ≤ (2 ^ v.length)); omega
     ·(show (2 ^ v.length) - (i + 1) < (2 ^ v.length) - i; omega)
     ·exact ⟨rfl, rfl, rfl, rfl, rfl, rfl, trivial⟩
     ·rfl
    ·refine jN 7 ?_
     refine WL.callV F.fun124 rfl rfl (fun w hS => selected_c (confN v i) x hx24 w) ?_
     refine jN 2 ?_
     refine WC.cond rfl (fun h39 => ?_) (fun h39 => ?_)
     ·have hle := two_le h39
      have hu9 : updN (confN v i) x on = confN v i - 2 ^ x := by (unfold updN; rw [if_neg (by rw [h31]; simp), if_pos h39])
      refine jN 6 ?_
      refine WL.convert rfl rfl (v := .int .u64 (x : Int)) (fun w hS => conv61 (by omega) w) ?_
      refine jN 1 ?_
      refine WL.bin (v := .int .u32 ((2 ^ x : Nat) : Int)) rfl rfl rfl (fun w => run_shl1U (by omega) _ _ _ w) ?_
      refine jN 1 ?_
      refine WL.bin rfl rfl rfl (fun w => run_sub32 hle (by omega) _ _ _ w) ?_
      refine jN 4 ?_
      refine WC.drawsL (by kernel_rfl) (FactsOk.cons (ds := [7]) (LoadOk.one (t := 7) (off := 1) rfl jM rfl) (FactsOk.cons (ds := [5, 7]) (LoadOk.whole (t := 3) rfl jM) (FactsOk.nil))) ?_
      refine jT 0 rfl (Yl.fieldAddr0 F.fld44_1 rfl) ?_
      refine jF 1 0 rfl rfl (Yl.load1 F.one42 rfl) ?_
      refine jT 2 rfl (Yl.move rfl) ?_
      refine jF 3 1 rfl rfl (Yl.loadN F.agg44 rfl rfl) ?_
      refine jT 4 rfl (Yl.move rfl) ?_
      refine jA 5 rfl ?_
      refine WL.callV (v := .bool z) F.fun125 rfl rfl (fun w hS => by rw [hz, hu9]; exact rHas_c v bs _ hv24 hvl hbl a ta c tc w (hr.next hS) (hrb.next hS)) ?_
      refine WD.on (closed_of (by kernel_rfl)) (fun w hS => Sx.keep (hS.cell jM rfl) (Sx.gone rfl (Sx.none))) ?_
      refine jT 6 rfl (Yl.indexAddr F.sl42 rfl rfl hlt) ?_
      refine jA 7 rfl ?_
      refine WL.storeRow1 (xs := bls (tabN (2 ^ v.length) i (fun k => bs.getD (hasN v (updN (confN v k) x on)) false))) (xs' := bls (tabN (2 ^ v.length) (i + 1) (fun k => bs.getD (hasN v (updN (confN v k) x on)) false))) F.one4 rfl rfl rfl jU (by rw [Nat.zero_add, Nat.mul_one, ← tabN_set (fun k => bs.getD (hasN v (updN (confN v k) x on)) false) hlt, ← hz]; have h7 := setN_set (bls (tabN (2 ^ v.length) i (fun k => bs.getD (hasN v (updN (confN v k) x on)) false))) i (.bool z) (by simp [bls, tabN_len]; exact hlt); rwa [← List.map_set] at h7) ?_
      refine jG ?_
      refine jD ?_
      refine jN 10 ?_
      refine WQ.chunks (C' := [pt b7 [.slice a v.length c, .slice (some ⟨b19, 0, none⟩) (2 ^ v.length) (2 ^ v.length)] 44, rowc (.slice (some ⟨b19, 0, none⟩) (2 ^ v.length) (2 ^ v.length)) (2 ^ v.length) 4 1 (bls (tabN (2 ^ v.length) (i + 1) (fun k => bs.getD (hasN v (updN (confN v k) x on)) false))), pt b3 (scells v a c bs ta tc) 44, pt b6 [.slice none 0 0, .slice none 0 0] 44]) (fun w hS => (jK hS)) ?_
      refine WQ.back (i + 1) ?_ ?_ ?_ ?_
      ·exact by (show i + 1 ≤ (2 ^ v.length)); omega
      ·(show (2 ^ v.length) - (i + 1) < (2 ^ v.length) - i; omega)
      ·exact ⟨rfl, rfl, rfl, rfl, rfl, rfl, trivial⟩
      ·rfl
     ·have hu9 : updN (confN v i) x on = confN v i := by (unfold updN; rw [if_neg (by rw [h31]; simp), if_neg (by rw [h39]; simp)])
      refine jN 2 ?_
      refine WC.drawsL (by kernel_rfl) (FactsOk.cons (ds := [7]) (LoadOk.one (t := 7) (off := 1) rfl jM rfl) (FactsOk.cons (ds := [5, 7]) (LoadOk.whole (t := 3) rfl jM) (FactsOk.nil))) ?_
      refine jT 0 rfl (Yl.fieldAddr0 F.fld44_1 rfl) ?_
      refine jF 1 0 rfl rfl (Yl.load1 F.one42 rfl) ?_
      refine jT 2 rfl (Yl.move rfl) ?_
      refine jF 3 1 rfl rfl (Yl.loadN F.agg44 rfl rfl) ?_
      refine jT 4 rfl (Yl.move rfl) ?_
      refine jA 5 rfl ?_
      refine WL.callV (v := .bool z) F.fun125 rfl rfl (fun w hS => by rw [hz, hu9]; exact rHas_c v bs _ hv24 hvl hbl a ta c tc w (hr.next hS) (hrb.next hS)) ?_
      refine WD.on (closed_of (by kernel_rfl)) (fun w hS => Sx.keep (hS.cell jM rfl) (Sx.gone rfl (Sx.none))) ?_
      refine jT 6 rfl (Yl.indexAddr F.sl42 rfl rfl hlt) ?_
      refine jA 7 rfl ?_
      refine WL.storeRow1 (xs := bls (tabN (2 ^ v.length) i (fun k => bs.getD (hasN v (updN (confN v k) x on)) false))) (xs' := bls (tabN (2 ^ v.length) (i + 1) (fun k => bs.getD (hasN v (updN (confN v k) x on)) false))) F.one4 rfl rfl rfl jU (by rw [Nat.zero_add, Nat.mul_one, ← tabN_set (fun k => bs.getD (hasN v (updN (confN v k) x on)) false) hlt, ← hz]; have h7 := setN_set (bls (tabN (2 ^ v.length) i (fun k => bs.getD (hasN v (updN (confN v k) x on)) false))) i (.bool z) (by simp [bls, tabN_len]; exact hlt); rwa [← List.map_set] at h7) ?_
      refine jG ?_
      refine jD ?_
      refine jN 10 ?_
      refine WQ.chunks (C' := [pt b7 [.slice a v.length c, .slice (some ⟨b19, 0, none⟩) (2 ^ v.length) (2 ^ v.length)] 44, rowc (.slice (some ⟨b19, 0, none⟩) (2 ^ v.length) (2 ^ v.length)) (2 ^ v.length) 4 1 (bls (tabN (2 ^ v.length) (i + 1) (fun k => bs.getD (hasN v (updN (confN v k) x on)) false))), pt b3 (scells v a c bs ta tc) 44, pt b6 [.slice none 0 0, .slice none 0 0] 44]) (fun w hS => (jK hS)) ?_
      refine WQ.back (i + 1) ?_ ?_ ?_ ?_
      ·exact by (show i + 1 ≤ (2 ^ v.length)); omega
      ·(show (2 ^ v.length) - (i + 1) < (2 ^ v.length) - i; omega)
      ·exact ⟨rfl, rfl, rfl, rfl, rfl, rfl, trivial⟩
      ·rfl
   ·have h9 : ¬ i < bs.length := by simpa using h24
    rw [hbl] at h9
    have hie : i = (2 ^ v.length) := by omega
    refine jN 14 ?_
    exact WQ.ret (rs := [.cell 6 44]) rfl (.cellN F.agg44 rfl jM rfl .nil) (fun w hS => ⟨b19, rfl, by rw [hie] at hS; exact (jK hS)⟩)

end Go.Proofs.YtkgllhkhdjodeaaGreat

namespace Go.Proofs.YtkgllhkhdjodeaaGreat
open Go Go.Eng Go.Proofs Dg
def difB (v : List Nat) (bs : List Bool) (x : Nat) : Bool := (tabN (2 ^ (featL (numN v ||| numN v)).length) (2 ^ (featL (numN v ||| numN v)).length) (fun k => hb 2 ((tabN (2 ^ v.length) (2 ^ v.length) (fun k => bs.getD (hasN v (updN (confN v k) x true)) false)).getD (hasN v (confN (featL (numN v ||| numN v)) k)) false) ((tabN (2 ^ v.length) (2 ^ v.length) (fun k => bs.getD (hasN v (updN (confN v k) x false)) false)).getD (hasN v (confN (featL (numN v ||| numN v)) k)) false))).any id
structure SupG where
 i : Nat
 sa : Option Addr
 sc : Nat

set_option maxRecDepth 100000 in
theorem rSupport_c (v : List Nat) (bs : List Bool) (hp : v.Pairwise (· < ·)) (hv24 : ∀ x ∈ v, x < 24) (hvl : v.length ≤ 24) (hbl : bs.length = 2 ^ v.length) (a ta : Option Addr) (c tc : Nat) (w : World) (hr : RdV w v a) (hrb : RdB w bs ta) :
  Pure Tryz.prog 25 [sval v a c bs ta tc] w (.int .u32 (numN (v.filter (difB v bs)) : Int)) := by
 refine enter Tryz.func25 rfl Tryz.ntmps25 rfl (St.init _) ?_
 refine jN 3 ?_
 refine WL.boxN rfl rfl (fun b1 => ?_)
 refine jN 18 ?_
 refine WC.chunks (C' := [pt b1 (scells v a c bs ta tc) 44, rowc (.slice none 0 0) 0 3 1 []]) (fun w hS => (jK (hS.rowNil 3 1))) ?_
 refine WC.loop (α := SupG) (fun g => g.i ≤ v.length) (fun g => [(1, pp b1), (3, .slice g.sa ((v.take g.i).filter (difB v bs)).length g.sc), (4, .int .i64 (g.i : Int))]) (fun g => [pt b1 (scells v a c bs ta tc) 44, rowc (.slice g.sa ((v.take g.i).filter (difB v bs)).length g.sc) ((v.take g.i).filter (difB v bs)).length 3 1 (nms ((v.take g.i).filter (difB v bs)))]) (fun g => v.length - g.i) (⟨0, none, 0⟩) ?_ ?_ ?_ ?_
 ·exact Nat.zero_le _
 ·exact ⟨rfl, rfl, rfl, trivial⟩
 ·rfl
 rintro ⟨i, sa, sc⟩ hi
 dsimp only at hi
 show WC _ _ _ _ _ _ _ [(1, pp b1), (3, .slice sa ((v.take i).filter (difB v bs)).length sc), (4, .int .i64 (i : Int))] [pt b1 (scells v a c bs ta tc) 44, rowc (.slice sa ((v.take i).filter (difB v bs)).length sc) ((v.take i).filter (difB v bs)).length 3 1 (nms ((v.take i).filter (difB v bs)))]
 refine jN 15 ?_
 refine WC.cond rfl (fun h9 => ?_) (fun h9 => ?_)
 ·have hlt : i < v.length := by simpa using h9
  obtain ⟨x, hx⟩ : ∃ x, v[i]? = some x := ⟨_, List.getElem?_eq_getElem hlt⟩
  obtain ⟨b, off, rfl, hcell⟩ := hr i x hx
  have hx24 := hv24 x (List.mem_of_getElem? hx)
  have hst : ((v.take (i + 1)).filter (difB v bs)) = ((v.take i).filter (difB v bs)) ++ (if difB v bs x then [x] else []) := by (rw [List.take_add_one, hx, List.filter_append]; congr 1; cases hq : difB v bs x <;> simp [hq])
  have hol : ((v.take i).filter (difB v bs)).length ≤ i := Nat.le_trans (List.length_filter_le _ _) (by simp; omega)
  refine jN 5 ?_
  refine WC.drawsL (by kernel_rfl) (FactsOk.cons (ds := []) (LoadOk.whole (t := 1) rfl jM) (FactsOk.cons (ds := []) (LoadOk.one (t := 1) (off := 0) rfl jM rfl) (FactsOk.cons (ds := []) (LoadOk.by (Y := fun w => w.cell? ⟨b, off + i * 1, none⟩ = some (.int .i64 (x : Int))) (fun w hS => by rw [Nat.mul_one]; exact hS.oldc hcell (by simp))) (FactsOk.cons (ds := []) (LoadOk.whole (t := 1) rfl jM) (FactsOk.cons (ds := []) (LoadOk.one (t := 1) (off := 0) rfl jM rfl) (FactsOk.cons (ds := []) (LoadOk.by (Y := fun w => w.cell? ⟨b, off + i * 1, none⟩ = some (.int .i64 (x : Int))) (fun w hS => by rw [Nat.mul_one]; exact hS.oldc hcell (by simp))) (FactsOk.nil))))))) ?_
  refine jF 0 0 rfl rfl (Yl.loadN F.agg44 rfl rfl) ?_
  refine jT 1 rfl (Yl.fieldAddr0 F.fld44_0 rfl) ?_
  refine jF 2 1 rfl rfl (Yl.load1 F.one41 rfl) ?_
  refine jT 3 rfl (Yl.move rfl) ?_
  refine jT 4 rfl (Yl.indexAddr F.sl41 rfl rfl hlt) ?_
  refine jF 5 2 rfl rfl (Yl.load1 F.one3 rfl) ?_
  refine jF 7 3 rfl rfl (Yl.loadN F.agg44 rfl rfl) ?_
  refine jT 8 rfl (Yl.fieldAddr0 F.fld44_0 rfl) ?_
  refine jF 9 4 rfl rfl (Yl.load1 F.one41 rfl) ?_
  refine jT 10 rfl (Yl.move rfl) ?_
  refine jT 11 rfl (Yl.indexAddr F.sl41 rfl rfl hlt) ?_
  refine jF 12 5 rfl rfl (Yl.load1 F.one3 rfl) ?_
  refine jA 6 rfl ?_
  refine jC (β := Nat) (res := fun y => .agg [.slice (some ⟨b, off, none⟩) v.length c, .slice (some ⟨y, 0, none⟩) (2 ^ v.length) (2 ^ v.length)].toArray) (cs := fun y => [rowc (.slice (some ⟨y, 0, none⟩) (2 ^ v.length) (2 ^ v.length)) (2 ^ v.length) 4 1 (bls (tabN (2 ^ v.length) (2 ^ v.length) (fun k => bs.getD (hasN v (updN (confN v k) x true)) false)))]) F.fun61 rfl (fun w hS _ => rWith_c v bs x true hx24 hp hv24 hvl hbl (some ⟨b, off, none⟩) ta c tc w (hr.next hS) (hrb.next hS)) (fun b18 => ?_)
  refine WD.on (closed_of (by kernel_rfl)) (fun w hS => Sx.keep ((fun j v hv => by rw [Nat.zero_add]; exact hS.cell jM hv)) (Sx.keep (hS.cell jM rfl) (Sx.keep (by rw [Nat.mul_one]; exact hS.oldc hcell (by simp)) (Sx.keep ((fun j v hv => by rw [Nat.zero_add]; exact hS.cell jM hv)) (Sx.keep (hS.cell jM rfl) (Sx.keep (by rw [Nat.mul_one]; exact hS.oldc hcell (by simp)) (Sx.none))))))) ?_
  refine jA 13 rfl ?_
  refine jC (β := Nat) (res := fun y => .agg [.slice (some ⟨b, off, none⟩) v.length c, .slice (some ⟨y, 0, none⟩) (2 ^ v.length) (2 ^ v.length)].toArray) (cs := fun y => [rowc (.slice (some ⟨y, 0, none⟩) (2 ^ v.length) (2 ^ v.length)) (2 ^ v.length) 4 1 (bls (tabN (2 ^ v.length) (2 ^ v.length) (fun k => bs.getD (hasN v (updN (confN v k) x false)) false)))]) F.fun61 rfl (fun w hS _ => rWith_c v bs x false hx24 hp hv24 hvl hbl (some ⟨b, off, none⟩) ta c tc w (hr.next hS) (hrb.next hS)) (fun b25 => ?_)
  refine WD.on (closed_of (by kernel_rfl)) (fun w hS => Sx.keep ((fun j v hv => by rw [Nat.zero_add]; exact hS.cell jM hv)) (Sx.keep (hS.cell jM rfl) (Sx.keep (by rw [Nat.mul_one]; exact hS.oldc hcell (by simp)) (Sx.keep ((fun j v hv => by rw [Nat.zero_add]; exact hS.cell jM hv)) (Sx.keep (hS.cell jM rfl) (Sx.keep (by rw [Nat.mul_one]; exact hS.oldc hcell (by simp)) (Sx.none))))))) ?_
  refine jA 14 rfl ?_
  refine WL.callV (v := .bool (!difB v bs x)) F.fun68 rfl rfl (fun w hS => by have h9 := rSameS_c v v (tabN (2 ^ v.length) (2 ^ v.length) (fun k => bs.getD (hasN v (updN (confN v k) x true)) false)) (tabN (2 ^ v.length) (2 ^ v.length) (fun k => bs.getD (hasN v (updN (confN v k) x false)) false)) hv24 hvl hv24 hvl (by rw [tabN_len]) (by rw [tabN_len]) (some ⟨b, off, none⟩) (some ⟨b18, 0, none⟩) (some ⟨b, off, none⟩) (some ⟨b25, 0, none⟩) c (2 ^ v.length) c (2 ^ v.length) w (hr.next hS) (RdB.of_row (n := (2 ^ v.length)) (by rw [tabN_len]) (hS.ok (rowc (.slice (some ⟨b18, 0, none⟩) (2 ^ v.length) (2 ^ v.length)) (2 ^ v.length) 4 1 (bls (tabN (2 ^ v.length) (2 ^ v.length) (fun k => bs.getD (hasN v (updN (confN v k) x true)) false)))) jM)) (hr.next hS) (RdB.of_row (n := (2 ^ v.length)) (by rw [tabN_len]) (hS.ok (rowc (.slice (some ⟨b25, 0, none⟩) (2 ^ v.length) (2 ^ v.length)) (2 ^ v.length) 4 1 (bls (tabN (2 ^ v.length) (2 ^ v.length) (fun k => bs.getD (hasN v (updN (confN v k) x false)) false)))) jM)); simp only [sval, scells, tabN_len] at h9; exact h9) ?_
  refine WD.on (closed_of (by kernel_rfl)) (fun w hS => Sx.keep ((fun j v hv => by rw [Nat.zero_add]; exact hS.cell jM hv)) (Sx.keep (hS.cell jM rfl) (Sx.keep (by rw [Nat.mul_one]; exact hS.oldc hcell (by simp)) (Sx.keep ((fun j v hv => by rw [Nat.zero_add]; exact hS.cell jM hv)) (Sx.keep (hS.cell jM rfl) (Sx.keep (by rw [Nat.mul_one]; exact hS.oldc hcell (by simp)) (Sx.none))))))) ?_
  refine jT 15 rfl (Yl.not rfl) ?_
  refine jD ?_
  refine jN 1 ?_
  refine WC.cond rfl (fun h27 => ?_) (fun h27 => ?_)
  ·have hd : difB v bs x = true := by simpa using h27
   rw [hd, if_pos rfl] at hst
   refine jN 10 ?_
   refine WL.indexAddr F.sl41 rfl rfl rfl hlt ?_
   refine jN 1 ?_
   refine WL.load1 F.one3 rfl rfl (v := .int .i64 (x : Int)) (fun w hS => hS.oldc (by simpa using hcell) (by simp)) ?_
   refine jN 1 ?_
   refine WL.buildSlice F.sl41 F.ez41 rfl rfl rfl rfl jB rfl (fun b34 => ?_)
   refine jN 1 ?_
   refine WL.appendE (news := [.int .i64 (x : Int)]) F.el41 rfl rfl rfl jR (fun w hS jj u hu => by rw [Nat.zero_add]; exact hS.cell (cs := [.int .i64 (x : Int)]) jM hu) (by simp [nms]) jO (Nat.le_trans (m := 30) (by omega) (by decide)) (by omega) (fun a9 c9 => ?_)
   refine jN 13 ?_
   refine WQ.chunks (C' := [pt b1 (scells v (some ⟨b, off, none⟩) c bs ta tc) 44, rowc (.slice a9 (((v.take i).filter (difB v bs)).length + 1) c9) (((v.take i).filter (difB v bs)).length + 1) 3 1 (nms ((v.take i).filter (difB v bs)) ++ [.int .i64 (x : Int)])]) (fun w hS => (jK hS)) ?_
   refine WQ.back ⟨i + 1, a9, c9⟩ (by show i + 1 ≤ v.length; omega) (by show v.length - (i + 1) < v.length - i; omega) ?_ ?_
   ·simp only [hst, List.length_append, List.length_singleton]
    exact ⟨rfl, rfl, rfl, trivial⟩
   ·simp only [hst, List.length_append, List.length_singleton, nms, List.map_append, List.map_cons, List.map_nil]
  ·have hd : difB v bs x = false := by simpa using h27
   rw [hd, if_neg (by simp), List.append_nil] at hst
   refine jN 11 ?_
   refine WQ.chunks (C' := [pt b1 (scells v (some ⟨b, off, none⟩) c bs ta tc) 44, rowc (.slice sa ((v.take i).filter (difB v bs)).length sc) ((v.take i).filter (difB v bs)).length 3 1 (nms ((v.take i).filter (difB v bs)))]) (fun w hS => (jK hS)) ?_
   refine WQ.back ⟨i + 1, sa, sc⟩ (by show i + 1 ≤ v.length; omega) (by show v.length - (i + 1) < v.length - i; omega) ?_ ?_
   ·simp only [hst]
    exact ⟨rfl, rfl, rfl, trivial⟩
   ·simp only [hst]
 ·have hie : i = v.length := by simp at h9; omega
  subst hie
  rw [List.take_length]
  refine jN 10 ?_
  refine WL.callV F.fun69 rfl rfl (fun w hS => Number_c (v.filter (difB v bs)) (fun y hy => hv24 y (List.mem_filter.1 hy).1) (Nat.le_trans (List.length_filter_le _ _) hvl) sa sc w (RdV.of_row rfl (hS.ok (rowc (.slice sa (v.filter (difB v bs)).length sc) (v.filter (difB v bs)).length 3 1 (nms (v.filter (difB v bs)))) jM))) ?_
  refine jN 5 ?_
  exact WQ.ret (rs := [.tmp 2]) rfl (.tmp rfl .nil) (fun w hS => ⟨rfl, hS.sublist (List.nil_sublist _)⟩)

end Go.Proofs.YtkgllhkhdjodeaaGreat

namespace Go.Proofs.YtkgllhkhdjodeaaGreat
open Go Go.Eng Go.Proofs Dg
set_option maxRecDepth 100000 in
theorem Alike1_c (t : BT) (da : Option Addr) (dc : Nat) (v : List Nat) (bs : List Bool) (hp : v.Pairwise (· < ·)) (hv24 : ∀ x ∈ v, x < 24) (hvl : v.length ≤ 24) (hbl : bs.length = 2 ^ v.length) (a ta : Option Addr) (c tc : Nat) (w : World) (hd : RdD w t da) (hr : RdV w v a) (hrb : RdB w bs ta)
  (hsup : supT (canon t).1 = numN (v.filter (difB v bs))) (hT : ∀ i z, bs[i]? = some z → t.ev (cfg (confN v i)) = z ∧ t.ev (cfg (confN v i ||| 4278190080)) = z) :
  Pure Tryz.prog 16 [dval t da dc, sval v a c bs ta tc] w (.bool true) := by
 refine enter Tryz.func16 rfl Tryz.ntmps16 rfl (St.init _) ?_
 refine jN 3 ?_
 refine WL.boxN rfl rfl (fun b2 => ?_)
 refine jN 1 ?_
 refine WL.boxN rfl rfl (fun b3 => ?_)
 refine jN 6 ?_
 refine WC.drawsL (by kernel_rfl) (FactsOk.cons (ds := [1, 3]) (LoadOk.whole (t := 2) rfl jM) (FactsOk.cons (ds := [3]) (LoadOk.whole (t := 3) rfl jM) (FactsOk.nil))) ?_
 refine jF 0 0 rfl rfl (Yl.loadN F.agg35 rfl rfl) ?_
 refine jF 2 1 rfl rfl (Yl.loadN F.agg44 rfl rfl) ?_
 refine jA 1 rfl ?_
 refine WL.callV F.fun35 rfl rfl (fun w hS => Support_c t da dc w (hd.next0 hS)) ?_
 refine WD.on (closed_of (by kernel_rfl)) (fun w hS => Sx.gone rfl (Sx.keep ((fun j v hv => by rw [Nat.zero_add]; exact hS.cell jM hv)) (Sx.none))) ?_
 refine jA 3 rfl ?_
 refine WL.callV (v := .int .u32 (supT (canon t).1 : Int)) F.fun25 rfl rfl (fun w hS => by rw [hsup]; exact rSupport_c v bs hp hv24 hvl hbl a ta c tc w (hr.next hS) (hrb.next hS)) ?_
 refine jG ?_
 refine jT 4 rfl (Yl.neI rfl rfl) ?_
 refine jD ?_
 refine jN 1 ?_
 refine WC.cond rfl (fun h11 => ?_) (fun h11 => ?_)
 ·exfalso; simp at h11
 ·refine jN 10 ?_
  refine WC.chunks (C' := [pt b2 [.slice da (canon t).1.length dc, .int .i64 ((canon t).2 : Int)] 35, pt b3 (scells v a c bs ta tc) 44]) (fun w hS => (jK hS)) ?_
  refine WC.loop (α := Nat) (fun i => i ≤ bs.length) (fun i => [(2, pp b2), (3, pp b3), (5, .int .i64 (i : Int))]) (fun _ => [pt b2 [.slice da (canon t).1.length dc, .int .i64 ((canon t).2 : Int)] 35, pt b3 (scells v a c bs ta tc) 44]) (fun i => bs.length - i) (0) ?_ ?_ ?_ ?_
  ·exact Nat.zero_le _
  ·exact ⟨rfl, rfl, rfl, trivial⟩
  ·rfl
  rintro i hi
  show WC _ _ _ _ _ _ _ [(2, pp b2), (3, pp b3), (5, .int .i64 (i : Int))] [pt b2 [.slice da (canon t).1.length dc, .int .i64 ((canon t).2 : Int)] 35, pt b3 (scells v a c bs ta tc) 44]
  refine jN 15 ?_
  refine WC.cond rfl (fun h16 => ?_) (fun h16 => ?_)
  ·have hlt : i < bs.length := by simpa using h16
   obtain ⟨z, hx⟩ : ∃ z, bs[i]? = some z := ⟨_, List.getElem?_eq_getElem hlt⟩
   obtain ⟨b, off, rfl, hcell⟩ := hrb i z hx
   obtain ⟨hT1, hT2⟩ := hT i z hx
   have hcn : confN v i < 2 ^ 24 := confN_lt v i 24 hp hv24
   have h2n : 2 ^ v.length ≤ 2 ^ 24 := Nat.pow_le_pow_right (by decide) hvl
   refine jN 13 ?_
   refine WL.callV F.fun48 rfl rfl (fun w hS => Config_c v i (by omega) hp hv24 hvl a c w (hr.next hS)) ?_
   refine jN 5 ?_
   refine WC.drawsL (by kernel_rfl) (FactsOk.cons (ds := []) (LoadOk.whole (t := 2) rfl jM) (FactsOk.cons (ds := []) (LoadOk.one (t := 3) (off := 1) rfl jM rfl) (FactsOk.cons (ds := []) (LoadOk.by (Y := fun w => w.cell? ⟨b, off + i * 1, none⟩ = some (.bool z)) (fun w hS => by rw [Nat.mul_one]; exact hS.oldc hcell (by simp))) (FactsOk.cons (ds := []) (LoadOk.whole (t := 2) rfl jM) (FactsOk.cons (ds := []) (LoadOk.one (t := 3) (off := 1) rfl jM rfl) (FactsOk.cons (ds := []) (LoadOk.by (Y := fun w => w.cell? ⟨b, off + i * 1, none⟩ = some (.bool z)) (fun w hS => by rw [Nat.mul_one]; exact hS.oldc hcell (by simp))) (FactsOk.nil))))))) ?_
   refine jF 0 0 rfl rfl (Yl.loadN F.agg35 rfl rfl) ?_
   refine jT 1 rfl (Yl.move rfl) ?_
   refine jT 3 rfl (Yl.fieldAddr0 F.fld44_1 rfl) ?_
   refine jF 4 1 rfl rfl (Yl.load1 F.one42 rfl) ?_
   refine jT 5 rfl (Yl.move rfl) ?_
   refine jT 6 rfl (Yl.indexAddr F.sl42 rfl rfl hlt) ?_
   refine jF 7 2 rfl rfl (Yl.load1 F.one4 rfl) ?_
   refine jA 2 rfl ?_
   refine WL.callV (v := .bool z) F.fun36 rfl rfl (fun w hS => by rw [← hT1]; exact Has_c t da dc (confN v i) (by omega) w (hd.next0 hS)) ?_
   refine WD.on (closed_of (by kernel_rfl)) (fun w hS => Sx.keep ((fun j v hv => by rw [Nat.zero_add]; exact hS.cell jM hv)) (Sx.keep (hS.cell jM rfl) (Sx.keep (by rw [Nat.mul_one]; exact hS.oldc hcell (by simp)) (Sx.keep ((fun j v hv => by rw [Nat.zero_add]; exact hS.cell jM hv)) (Sx.keep (hS.cell jM rfl) (Sx.keep (by rw [Nat.mul_one]; exact hS.oldc hcell (by simp)) (Sx.none))))))) ?_
   refine jT 8 rfl (Yl.bin rfl rfl (fun w => run_neZ _ _ w)) ?_
   refine jT 9 rfl (Yl.move rfl) ?_
   refine fun hcl => WA.splitB (i := 32) rfl (fun g32 => ?_) (fun g32 => ?_)
   ·refine (show WD _ _ _ _ _ _ _ _ _ _ _ _ from ?_) hcl
    exfalso; simp at g32
   ·refine (show WD _ _ _ _ _ _ _ _ _ _ _ _ from ?_) hcl
    refine WD.takeG (i := 10) rfl rfl rfl rfl rfl rfl (by kernel_rfl) (by kernel_rfl) (by kernel_rfl) (fun _ _ _ h => h) (by kernel_rfl) (need_at 3 21 rfl (by kernel_rfl)) (Yl.loadN F.agg35 rfl rfl) ?_
    refine WD.takeG (i := 11) rfl rfl rfl rfl rfl rfl (by kernel_rfl) (by kernel_rfl) (by kernel_rfl) (fun _ _ _ h => h) (by kernel_rfl) need_none (Yl.move rfl) ?_
    refine WD.takeG (i := 12) rfl rfl rfl rfl rfl rfl (by kernel_rfl) (by kernel_rfl) (by kernel_rfl) (fun _ _ _ h => h) (by kernel_rfl) need_none (Yl.bin rfl rfl (fun w => run_or (b := 4278190080) (by omega) (by decide) _ _ _ w)) ?_
    refine WD.takeG (i := 14) rfl rfl rfl rfl rfl rfl (by kernel_rfl) (by kernel_rfl) (by kernel_rfl) (fun _ _ _ h => h) (by kernel_rfl) need_none (Yl.fieldAddr0 F.fld44_1 rfl) ?_
    refine WD.takeG (i := 15) rfl rfl rfl rfl rfl rfl (by kernel_rfl) (by kernel_rfl) (by kernel_rfl) (fun _ _ _ h => h) (by kernel_rfl) (need_at 4 21 rfl (by kernel_rfl)) (Yl.load1 F.one42 rfl) ?_
    refine WD.takeG (i := 16) rfl rfl rfl rfl rfl rfl (by kernel_rfl) (by kernel_rfl) (by kernel_rfl) (fun _ _ _ h => h) (by kernel_rfl) need_none (Yl.move rfl) ?_
    refine WD.takeG (i := 17) rfl rfl rfl rfl rfl rfl (by kernel_rfl) (by kernel_rfl) (by kernel_rfl) (fun _ _ _ h => h) (by kernel_rfl) need_none (Yl.indexAddr F.sl42 rfl rfl hlt) ?_
    refine WD.takeG (i := 18) rfl rfl rfl rfl rfl rfl (by kernel_rfl) (by kernel_rfl) (by kernel_rfl) (fun _ _ _ h => h) (by kernel_rfl) (need_at 5 21 rfl (by kernel_rfl)) (Yl.load1 F.one4 rfl) ?_
    refine jA 13 rfl ?_
    refine WL.guardT rfl rfl rfl ?_
    refine WL.callV (v := .bool z) F.fun36 rfl rfl (fun w hS => by rw [← hT2]; exact Has_c t da dc (confN v i ||| 4278190080) (Nat.or_lt_two_pow (n := 32) (by omega) (by decide)) w (hd.next0 hS)) ?_
    refine WD.on (closed_of (by kernel_rfl)) (fun w hS => Sx.keep ((fun j v hv => by rw [Nat.zero_add]; exact hS.cell jM hv)) (Sx.keep (hS.cell jM rfl) (Sx.keep (by rw [Nat.mul_one]; exact hS.oldc hcell (by simp)) (Sx.keep ((fun j v hv => by rw [Nat.zero_add]; exact hS.cell jM hv)) (Sx.keep (hS.cell jM rfl) (Sx.keep (by rw [Nat.mul_one]; exact hS.oldc hcell (by simp)) (Sx.none))))))) ?_
    refine WD.takeG (i := 19) rfl rfl rfl rfl rfl rfl (by kernel_rfl) (by kernel_rfl) (by kernel_rfl) (fun _ _ _ h => h) (by kernel_rfl) need_none (Yl.bin rfl rfl (fun w => run_neZ _ _ w)) ?_
    refine jT 20 rfl (Yl.pickF rfl rfl) ?_
    refine jD ?_
    refine jN 1 ?_
    refine WC.cond rfl (fun h43 => ?_) (fun h43 => ?_)
    ·exfalso; simp at h43
    ·refine jN 11 ?_
     refine WQ.chunks (C' := [pt b2 [.slice da (canon t).1.length dc, .int .i64 ((canon t).2 : Int)] 35, pt b3 (scells v a c bs (some ⟨b, off, none⟩) tc) 44]) (fun w hS => (jK hS)) ?_
     refine WQ.back (i + 1) ?_ ?_ ?_ ?_
     ·exact by (show i + 1 ≤ bs.length); omega
     ·(show bs.length - (i + 1) < bs.length - i; omega)
     ·exact ⟨rfl, rfl, rfl, trivial⟩
     ·rfl
  ·refine jN 12 ?_
   exact WQ.ret (rs := [.tmp 4]) rfl (.tmp rfl .nil) (fun w hS => ⟨rfl, hS.sublist (List.nil_sublist _)⟩)

end Go.Proofs.YtkgllhkhdjodeaaGreat

/-! Which features a table depends on. -/
namespace Go.Proofs.YtkgllhkhdjodeaaGreat
open Go Go.Eng Go.Proofs Dg
theorem tabN_get {n : Nat} (g : Nat → Bool) {k : Nat} (hk : k < n) : (tabN n n g).getD k false = g k := by
 rw [List.getD_eq_getElem?_getD]
 unfold tabN
 rw [List.getElem?_map, List.getElem?_range hk]
 simp [hk]
theorem tabN_any {n : Nat} (g : Nat → Bool) : (tabN n n g).any id = true ↔ ∃ k, k < n ∧ g k = true := by
 unfold tabN
 rw [List.any_eq_true]
 constructor
 ·rintro ⟨x, hx, h⟩
  obtain ⟨k, hk, rfl⟩ := List.mem_map.1 hx
  have := List.mem_range.1 hk
  exact ⟨k, this, by simpa [this] using h⟩
 ·rintro ⟨k, hk, h⟩
  exact ⟨true, List.mem_map.2 ⟨k, List.mem_range.2 hk, by simp [hk, h]⟩, rfl⟩
theorem numN_bit (j : Nat) : ∀ (v : List Nat) (s : Nat), (v.foldl (fun s x => s ||| 2 ^ x) s).testBit j = true ↔ s.testBit j = true ∨ j ∈ v
 | [], s => by simp
 | x :: v, s => by
  rw [List.foldl_cons, numN_bit j v, Nat.testBit_or, Nat.testBit_two_pow]
  simp
  constructor
  ·rintro ((h | h) | h)
   ·exact .inl h
   ·exact .inr (.inl h.symm)
   ·exact .inr (.inr h)
  ·rintro (h | h | h)
   ·exact .inl (.inl h)
   ·exact .inl (.inr h.symm)
   ·exact .inr h
theorem sorted_ext : ∀ {l m : List Nat}, l.Pairwise (· < ·) → m.Pairwise (· < ·) → (∀ x, x ∈ l ↔ x ∈ m) → l = m
 | [], [], _, _, _ => rfl
 | [], y :: m, _, _, h => by have := (h y).2 (List.mem_cons_self ..); cases this
 | x :: l, [], _, _, h => by have := (h x).1 (List.mem_cons_self ..); cases this
 | x :: l, y :: m, hl, hm, h => by
  have hl' := List.pairwise_cons.1 hl
  have hm' := List.pairwise_cons.1 hm
  have e : x = y := by
   rcases List.mem_cons.1 ((h x).1 (List.mem_cons_self ..)) with e | h1
   ·exact e
   ·rcases List.mem_cons.1 ((h y).2 (List.mem_cons_self ..)) with e | h2
    ·exact e.symm
    ·have a1 := hm'.1 x h1
     have a2 := hl'.1 y h2
     omega
  subst e
  rw [sorted_ext hl'.2 hm'.2 fun z => ?_]
  constructor
  ·intro hz
   rcases List.mem_cons.1 ((h z).1 (List.mem_cons_of_mem _ hz)) with e | h1
   ·have := hl'.1 z hz; omega
   ·exact h1
  ·intro hz
   rcases List.mem_cons.1 ((h z).2 (List.mem_cons_of_mem _ hz)) with e | h1
   ·have := hm'.1 z hz; omega
   ·exact h1
theorem feat_self {v : List Nat} (hp : v.Pairwise (· < ·)) (hv : ∀ x ∈ v, x < 24) : featL (numN v ||| numN v) = v := by
 rw [Nat.or_self]
 refine sorted_ext (featL_sorted _) hp fun x => ?_
 unfold featL
 rw [List.mem_filter, List.mem_range]
 have h := numN_bit x v 0
 rw [Nat.zero_testBit] at h
 constructor
 ·rintro ⟨_, h1⟩
  rcases h.1 h1 with h2 | h2
  ·cases h2
  ·exact h2
 ·intro hx
  exact ⟨hv x hx, h.2 (.inr hx)⟩
/-- Whether a table depends on one of its features. -/
theorem difB_iff {v : List Nat} (hp : v.Pairwise (· < ·)) (hv : ∀ x ∈ v, x < 24) (bs : List Bool) (x : Nat) : difB v bs x = true ↔ ∃ k, k < 2 ^ v.length ∧ bs.getD (hasN v (updN (confN v k) x true)) false ≠ bs.getD (hasN v (updN (confN v k) x false)) false := by
 unfold difB
 rw [feat_self hp hv, tabN_any]
 have key : ∀ k, k < 2 ^ v.length → hb 2 ((tabN (2 ^ v.length) (2 ^ v.length) (fun k => bs.getD (hasN v (updN (confN v k) x true)) false)).getD (hasN v (confN v k)) false) ((tabN (2 ^ v.length) (2 ^ v.length) (fun k => bs.getD (hasN v (updN (confN v k) x false)) false)).getD (hasN v (confN v k)) false) = (bs.getD (hasN v (updN (confN v k) x true)) false != bs.getD (hasN v (updN (confN v k) x false)) false) := fun k hk => by
  rw [has_conf v k hp hk, tabN_get _ hk, tabN_get _ hk]
  unfold hb
  rw [if_neg (by decide), if_neg (by decide)]
 constructor
 ·rintro ⟨k, hk, h⟩
  rw [key k hk] at h
  exact ⟨k, hk, by simpa using h⟩
 ·rintro ⟨k, hk, h⟩
  exact ⟨k, hk, by rw [key k hk]; simpa using h⟩
end Go.Proofs.YtkgllhkhdjodeaaGreat

/-! Sets of clauses and what the search says of them. -/
namespace Go.Proofs.YtkgllhkhdjodeaaGreat
open Go Go.Eng Go.Proofs Dg
theorem num_of (cf : Cf) : ∀ n : Nat, ∃ M, M < 2 ^ n ∧ ∀ i, i < n → M.testBit i = cf i
 | 0 => ⟨0, by simp, fun i hi => by omega⟩
 | n + 1 => by
  obtain ⟨M, hM, hb⟩ := num_of cf n
  have hp : 2 ^ n < 2 ^ (n + 1) := Nat.pow_lt_pow_right (by decide) (Nat.lt_succ_self _)
  by_cases hc : cf n = true
  ·refine ⟨M ||| 2 ^ n, Nat.or_lt_two_pow (by omega) hp, fun i hi => ?_⟩
   rw [or_pow_testBit]
   by_cases he : i = n
   ·subst he; simp [hc]
   ·simp [he, hb i (by omega)]
  ·refine ⟨M, by omega, fun i hi => ?_⟩
   by_cases he : i = n
   ·subst he
    rw [Nat.testBit_lt_two_pow hM]; simpa using hc
   ·exact hb i (by omega)
end Go.Proofs.YtkgllhkhdjodeaaGreat

/-! The table of a formula, and its set. -/
namespace Go.Proofs.YtkgllhkhdjodeaaGreat
open Go Go.Eng Go.Proofs Dg
theorem opV_ext (names : List (List UInt8)) (op : Int) (nm : List UInt8) (bs : List Bool) {c d : Cf} (h : op = 3 → c (idxS names nm).toNat = d (idxS names nm).toNat) : opV names op nm bs c = opV names op nm bs d := by
 unfold opV
 by_cases h3 : op = 3
 ·subst h3; simp; exact h rfl
 ·simp only [if_neg h3]
mutual
theorem evT_ext (names : List (List UInt8)) : ∀ (t : Tree) {c d : Cf}, (∀ k ∈ Fm.rowT t, k.op = 3 → c (idxS names k.name).toNat = d (idxS names k.name).toNat) → evT names t c = evT names t d
 | .mk op nm kids, c, d, h => by
  simp only [evT]
  have e : evL names kids c = evL names kids d := evL_ext names kids fun k hk h3 => h k (by simp only [Fm.rowT]; exact List.mem_cons_of_mem _ hk) h3
  rw [e]
  exact opV_ext names op nm _ fun h3 => h (.mk op nm kids) (by simp only [Fm.rowT]; exact List.mem_cons_self ..) h3
theorem evL_ext (names : List (List UInt8)) : ∀ (ts : List Tree) {c d : Cf}, (∀ k ∈ Fm.rowL ts, k.op = 3 → c (idxS names k.name).toNat = d (idxS names k.name).toNat) → evL names ts c = evL names ts d
 | [], _, _, _ => by simp only [evL]
 | t :: ts, c, d, h => by
  simp only [evL]
  rw [evT_ext names t fun k hk h3 => h k (by simp only [Fm.rowL]; exact List.mem_append_left _ hk) h3, evL_ext names ts fun k hk h3 => h k (by simp only [Fm.rowL]; exact List.mem_append_right _ hk) h3]
end
theorem placeN_bit (names : List (List UInt8)) (j : Nat) : ∀ (l : List (List UInt8)) (s : Nat), (l.foldl (fun s nm => s ||| 2 ^ (idxS names nm).toNat) s).testBit j = true ↔ s.testBit j = true ∨ ∃ x ∈ l, (idxS names x).toNat = j
 | [], s => by simp
 | x :: l, s => by
  rw [List.foldl_cons, placeN_bit names j l, Nat.testBit_or, Nat.testBit_two_pow]
  simp
  constructor
  ·rintro ((h | h) | h)
   ·exact .inl h
   ·exact .inr (.inl h)
   ·exact .inr (.inr h)
  ·rintro (h | h | h)
   ·exact .inl (.inl h)
   ·exact .inl (.inr h)
   ·exact .inr h
/-- A formula's value depends on the places of its names alone. -/
theorem evT_place {t : Tree} {names : List (List UInt8)} (hk : knownB t names = true) (h24 : names.length ≤ 24) {c d : Cf} (h : ∀ j ∈ featL (placeN names (usedF (Fm.rowT t))), c j = d j) : evT names t c = evT names t d :=
 evT_ext names t fun k hm h3 => h _ (by
  have hu := used_has _ [] k hm h3
  obtain ⟨m, h1, h2⟩ := used_idx hk h24 (show k.name ∈ usedF (Fm.rowT t) from hu)
  unfold featL
  rw [List.mem_filter, List.mem_range]
  refine ⟨by rw [h1]; omega, ?_⟩
  unfold placeN
  exact (placeN_bit names _ _ 0).2 (.inr ⟨_, hu, rfl⟩))
abbrev placeV (t : Tree) (names : List (List UInt8)) : List Nat := featL (placeN names (usedF (Fm.rowT t)))
abbrev placeT (t : Tree) (names : List (List UInt8)) : List Bool := tabN (2 ^ (placeV t names).length) (2 ^ (placeV t names).length) (fun k => evT names t (cfg (confN (placeV t names) k)))
theorem place_at {t : Tree} {names : List (List UInt8)} (hk : knownB t names = true) (h24 : names.length ≤ 24) {M : Nat} {c : Cf} (h : ∀ j ∈ placeV t names, M.testBit j = c j) : (placeT t names).getD (hasN (placeV t names) M) false = evT names t c := by
 rw [tabN_get _ (hasN_lt _ _)]
 refine evT_place hk h24 fun j hj => ?_
 show (confN _ (hasN _ M)).testBit j = c j
 rw [conf_has _ M (featL_sorted _), ← h j hj]
 simp [hj]
theorem sub_bit {M x : Nat} (h : M.testBit x = true) (j : Nat) : (M - 2 ^ x).testBit j = if j = x then false else M.testBit j := by
 have hr : M % 2 ^ x < 2 ^ x := Nat.mod_lt _ (Nat.two_pow_pos x)
 have ha : M / 2 ^ x % 2 = 1 := by
  rw [Nat.testBit_eq_decide_div_mod_eq] at h
  exact of_decide_eq_true h
 obtain ⟨q, hq⟩ : ∃ q, M / 2 ^ x = 2 * q + 1 := ⟨M / 2 ^ x / 2, by omega⟩
 have hM : M = 2 ^ x * (2 * q + 1) + M % 2 ^ x := by rw [← hq]; exact (Nat.div_add_mod M (2 ^ x)).symm
 have hs : M - 2 ^ x = 2 ^ x * (2 * q) + M % 2 ^ x := by
  have e : 2 ^ x * (2 * q + 1) = 2 ^ x * (2 * q) + 2 ^ x := Nat.mul_succ _ _
  omega
 rw [hs, Nat.testBit_two_pow_mul_add _ hr]
 have h2 : M.testBit j = if j < x then (M % 2 ^ x).testBit j else (2 * q + 1).testBit (j - x) := by
  conv => lhs; rw [hM]
  exact Nat.testBit_two_pow_mul_add _ hr j
 by_cases hj : j = x
 ·subst hj
  rw [if_neg (Nat.lt_irrefl _), if_pos rfl, Nat.sub_self]; simp
 ·rw [if_neg hj, h2]
  by_cases hl : j < x
  ·rw [if_pos hl, if_pos hl]
  ·rw [if_neg hl, if_neg hl]
   obtain ⟨n, hn⟩ : ∃ n, j - x = n + 1 := ⟨j - x - 1, by omega⟩
   rw [hn, Nat.testBit_succ, Nat.testBit_succ]
   congr 1
   omega
theorem upd_bit {M x : Nat} (on : Bool) (j : Nat) : (updN M x on).testBit j = if j = x then on else M.testBit j := by
 unfold updN
 cases on with
 | true =>
  rw [if_pos rfl, Nat.testBit_or, Nat.testBit_two_pow]
  by_cases h : j = x
  ·subst h; simp
  ·rw [if_neg h]; simp [Ne.symm h]
 | false =>
  rw [if_neg (by simp)]
  by_cases hb : M.testBit x = true
  ·rw [if_pos hb, sub_bit hb]
  ·rw [if_neg hb]
   by_cases h : j = x
   ·subst h; rw [if_pos rfl]; simpa using hb
   ·rw [if_neg h]
theorem place_sup {t : Tree} {names : List (List UInt8)} (hk : knownB t names = true) (h24 : names.length ≤ 24) {tt : BT} (ho : tt.ok 0) (hev : ∀ c, tt.ev c = evT names t c) : supT (canon tt).1 = numN ((placeV t names).filter (difB (placeV t names) (placeT t names))) := by
 have hs := featL_sorted (placeN names (usedF (Fm.rowT t)))
 have hl : ∀ x ∈ placeV t names, x < 24 := fun x hx => featL_lt hx
 apply Nat.eq_of_testBit_eq
 intro j
 rw [Bool.eq_iff_iff, sup_dep ho]
 have hn := numN_bit j ((placeV t names).filter (difB (placeV t names) (placeT t names))) 0
 rw [Nat.zero_testBit] at hn
 unfold numN
 rw [hn]
 have hat : ∀ (M : Nat) (c : Cf) (on : Bool), (∀ i ∈ placeV t names, M.testBit i = c i) → (placeT t names).getD (hasN (placeV t names) (updN M j on)) false = evT names t (upd c j on) := fun M c on h => place_at hk h24 fun i hi => by
  rw [upd_bit]
  unfold upd
  by_cases e : i = j
  ·rw [if_pos e, if_pos e]
  ·rw [if_neg e, if_neg e]; exact h i hi
 constructor
 ·rintro ⟨c, hc⟩
  rw [hev, hev] at hc
  have hj : j ∈ placeV t names := Classical.byContradiction fun hnj => hc (evT_place hk h24 fun i hi => by
   have : i ≠ j := fun e => hnj (e ▸ hi)
   rw [upd_ne c _ this, upd_ne c _ this])
  refine .inr (List.mem_filter.2 ⟨hj, (difB_iff hs hl _ j).2 ?_⟩)
  obtain ⟨N, _, hN⟩ := num_of c 24
  refine ⟨hasN (placeV t names) N, hasN_lt _ _, ?_⟩
  have hb : ∀ i ∈ placeV t names, (confN (placeV t names) (hasN (placeV t names) N)).testBit i = c i := fun i hi => by
   rw [conf_has _ N hs, hN i (hl i hi)]; simp [hi]
  rw [hat _ c true hb, hat _ c false hb]
  exact fun e => hc e.symm
 ·rintro (h | h)
  ·cases h
  ·obtain ⟨hj, hd⟩ := List.mem_filter.1 h
   obtain ⟨k, _, hne⟩ := (difB_iff hs hl _ j).1 hd
   refine ⟨cfg (confN (placeV t names) k), ?_⟩
   rw [hat _ (cfg (confN (placeV t names) k)) true (fun i _ => rfl), hat _ (cfg (confN (placeV t names) k)) false (fun i _ => rfl)] at hne
   rw [hev, hev]
   exact fun e => hne e.symm
end Go.Proofs.YtkgllhkhdjodeaaGreat

namespace Go.Proofs.YtkgllhkhdjodeaaGreat
open Go Go.Eng Go.Proofs Dg
theorem few_yes {t : Tree} {names : List (List UInt8)} {n : Nat} (h : fewB t names n = true) : Fm.greatB t 100 = false ∧ names.length ≤ 30 ∧ (usedF (Fm.rowT t)).length ≤ n := by
  unfold fewB at h
  simp at h
  obtain ⟨⟨h1, h2, h3⟩, _⟩ := h
  exact ⟨h1, by omega, by omega⟩
theorem strs_one (l : List (List UInt8)) : ∀ u ∈ strs l, u.oneCell' = true := by
  intro u hu
  obtain ⟨x, _, rfl⟩ := List.mem_map.1 hu
  rfl
theorem RdS.news {w : World} {l : List (List UInt8)} {a : Option Addr} (h : RdS w l a) (hc : l.length ≠ 0) : ∃ bx ox, a = some ⟨bx, ox, none⟩ ∧ ∀ j u, (strs l)[j]? = some u → w.cell? ⟨bx, ox + j, none⟩ = some u := by
  obtain ⟨x, hx⟩ : ∃ x, l[0]? = some x := ⟨_, List.getElem?_eq_getElem (by omega)⟩
  obtain ⟨b, off, ha, _⟩ := h 0 x hx
  refine ⟨b, off, ha, fun j u hu => ?_⟩
  unfold strs at hu
  rw [List.getElem?_map] at hu
  cases hj : l[j]? with
  | none => rw [hj] at hu; cases hu
  | some y =>
    rw [hj] at hu
    simp only [Option.map_some, Option.some.injEq] at hu
    subst hu
    obtain ⟨b2, off2, ha2, h2⟩ := h j y hj
    rw [ha] at ha2
    simp only [Option.some.injEq, Addr.mk.injEq, and_true] at ha2
    obtain ⟨rfl, rfl⟩ := ha2
    exact h2
theorem high_bit (M j : Nat) (hj : j < 24) : (M ||| 4278190080).testBit j = M.testBit j := by
  rw [Nat.testBit_or]
  have : (4278190080 : Nat).testBit j = false := by
    have e : (4278190080 : Nat) = 2 ^ 24 * 255 := by decide
    rw [e, Nat.testBit_two_pow_mul]; simp; omega
  rw [this, Bool.or_false]
theorem place_tab {t : Tree} {names : List (List UInt8)} (hk : knownB t names = true) (h24 : names.length ≤ 24) {tt : BT} (hev : ∀ c, tt.ev c = evT names t c) :
    ∀ i z, (placeT t names)[i]? = some z → tt.ev (cfg (confN (placeV t names) i)) = z ∧ tt.ev (cfg (confN (placeV t names) i ||| 4278190080)) = z := by
  intro i z hz
  have hi : i < 2 ^ (placeV t names).length := by
    have := (List.getElem?_eq_some_iff.1 hz).1
    rwa [tabN_len] at this
  have h1 := tabN_get (fun k => evT names t (cfg (confN (placeV t names) k))) hi
  have h2 : (placeT t names).getD i false = z := by rw [List.getD_eq_getElem?_getD, hz]; rfl
  have h3 : evT names t (cfg (confN (placeV t names) i)) = z := by rw [← h2]; exact h1.symm
  refine ⟨by rw [hev, h3], ?_⟩
  rw [hev, ← h3]
  exact evT_place hk h24 fun j hj => high_bit _ _ (featL_lt hj)

set_option maxRecDepth 100000 in
theorem FormulaEvals_c (t : Tree) (G : List Nat) (a : Option Addr) (c : Nat) (names : List (List UInt8)) (na : Option Addr) (nc : Nat) (M : Nat) (wb : World) (hr : rdT wb t G (tv t a c)) (hnr : RdS wb names na) (hcap : names.length ≤ nc) (hM : M < 4294967296) :
    Pure Tryz.prog 3 [tv t a c, .slice na names.length nc, .int .u32 (M : Int)] wb (.bool true) := by
  refine enter Tryz.func3 rfl Tryz.ntmps3 rfl (St.init _) ?_
  refine WC.seq ?_
  refine WC.region ?_
  refine WL.step ?_
  refine WL.boxN rfl rfl (fun b3 => ?_)
  refine WL.step ?_
  refine WL.assign rfl rfl ?_
  refine WL.nil ?_
  refine WQ.then_normal ?_
  refine WC.seq ?_
  refine WC.seq ?_
  refine WC.region ?_
  refine WL.step ?_
  refine WL.loadW F.agg24 rfl rfl (by repeat (first | exact List.Mem.head _ | apply List.Mem.tail)) rfl ?_
  refine WL.step ?_
  refine WL.move rfl rfl ?_
  refine WL.step ?_
  refine WL.callV F.fun8 rfl rfl (fun w hS => few_c t names 7 wb G a c na nc w hr ((Ext.refl wb).st hS) (hnr.next hS)) ?_
  refine WL.step ?_
  refine WL.not rfl rfl ?_
  refine WL.nil ?_
  refine WQ.then_normal ?_
  refine WC.cond rfl (fun h15 => ?_) (fun h15 => ?_)
  · skip
    refine WC.seq ?_
    refine WC.region ?_
    refine WL.step ?_
    refine WL.callV F.fun9 rfl rfl (fun w _ => wakes_c w) ?_
    refine WL.step ?_
    refine WL.assign rfl rfl ?_
    refine WL.nil ?_
    refine WQ.then_normal ?_
    refine WC.ret ?_
    refine WQ.then_ret ?_
    exact WQ.ret (rs := [.tmp 6]) rfl (.tmp rfl .nil) (fun w hS => ⟨rfl, hS.sublist (List.nil_sublist _)⟩)
  · skip
    obtain ⟨hgr, hn30, hu7⟩ := few_yes (t := t) (names := names) (n := 7) (by simpa using h15)
    obtain ⟨hsz, hlv, hsn⟩ := Fm.great_no hgr
    refine WC.skip ?_
    refine WQ.then_normal ?_
    refine WC.seq ?_
    refine WC.region ?_
    refine WL.step ?_
    refine WL.loadW F.agg24 rfl rfl (by repeat (first | exact List.Mem.head _ | apply List.Mem.tail)) rfl ?_
    refine WL.step ?_
    refine WL.callC (β := List Nat × Option Addr × Nat) (res := fun y => tv t y.2.1 y.2.2) (cs := fun y => [own y.1 t (tv t y.2.1 y.2.2)]) (Cs := []) (O' := []) F.fun11 (fun d h => by cases h; rfl) rfl (List.Perm.refl _) (by simp) (by simp) (fun w hS _ => Copied_c 1200 (by omega) t wb G a c w (by omega) hr ((Ext.refl wb).st hS)) (fun y19 => ?_)
    refine WL.step ?_
    refine WL.move rfl rfl ?_
    refine WA.chunks (fun w hS => hS.rowNil 9 1) ?_
    refine WL.step ?_
    refine WL.appendC (n := 0) (xs := []) (news := strs names) F.el25 rfl rfl rfl (by repeat (first | exact Rem.here | apply Rem.there)) (fun w hS hm => (by obtain ⟨bx, ox, e1, e2⟩ := (hnr.news hm); exact ⟨bx, ox, e1, fun j u hu => hS.oldc (e2 j u hu) (by simp)⟩)) (by simp [strs]) (strs_one names) (Nat.le_trans (m := 30) (by omega) (by decide)) (by omega) (fun a2 c2 => ?_)
    simp only [Nat.zero_add, List.nil_append]
    refine WA.know (φ := names.length ≤ c2) (fun w hS => (Nat.eq_zero_or_pos names.length).elim (fun h0 => by omega) (fun h0 => (rowc_addr (hS.ok (rowc (.slice a2 names.length c2) names.length 9 1 (strs names)) (by repeat (first | exact List.Mem.head _ | apply List.Mem.tail))) h0).elim (fun _ h => h.2.2))) (fun hcap2 => ?_)
    refine WL.step ?_
    refine WL.move rfl rfl ?_
    refine WL.step ?_
    refine WL.callV F.fun10 rfl rfl (fun w hS => Eval_c t names M hM y19.1 y19.2.1 y19.2.2 a2 c2 hcap2 (by omega) w ((hS.ok (own y19.1 t (tv t y19.2.1 y19.2.2)) (by repeat (first | exact List.Mem.head _ | apply List.Mem.tail))).2) (RdS.of_row rfl (hS.ok (rowc (.slice a2 names.length c2) names.length 9 1 (strs names)) (by repeat (first | exact List.Mem.head _ | apply List.Mem.tail))))) ?_
    refine WL.step ?_
    refine WL.move rfl rfl ?_
    refine WL.step ?_
    refine WL.extract rfl rfl rfl ?_
    refine WL.step ?_
    refine WL.extract rfl rfl rfl ?_
    refine WL.step ?_
    refine WL.assign rfl rfl ?_
    refine WL.step ?_
    refine WL.assign rfl rfl ?_
    refine WL.nil ?_
    refine WQ.then_normal ?_
    refine WC.seq ?_
    refine WC.region ?_
    refine WL.step ?_
    refine WL.loadW F.agg24 rfl rfl (by repeat (first | exact List.Mem.head _ | apply List.Mem.tail)) rfl ?_
    refine WL.step ?_
    refine WL.move rfl rfl ?_
    refine WL.step ?_
    refine WL.call0 (β := DRes (fun cf => decide (mayD t names = 0) && evT names t cf)) (res := fun z => .returned (.tuple #[z.v, .int .i64 (mayD t names)])) (cs := fun z => [z.ch]) (ψ := fun _ => True) F.fun12 (fun d h => by cases h; rfl) rfl (fun w hS => (Diagram_c t names G a c na nc hcap (by omega) w (((Ext.refl wb).st hS).tree hr) (hnr.next hS)).mono (fun e w2 ⟨x, h1, h2⟩ => ⟨x, trivial, h1, h2⟩)) (fun z26 _ => ?_)
    refine WL.step ?_
    refine WL.move rfl rfl ?_
    refine WL.step ?_
    refine WL.extract rfl rfl rfl ?_
    refine WL.step ?_
    refine WL.extract rfl rfl rfl ?_
    refine WL.step ?_
    refine WL.alloc F.zero35 rfl (fun b9 => ?_)
    refine WL.step ?_
    refine WL.storeN F.agg35 rfl rfl rfl (by simp [Value.oneCell']) (by repeat (first | exact Upd.here | apply Upd.there)) (by repeat constructor) ?_
    refine WL.step ?_
    refine WL.assign rfl rfl ?_
    refine WL.nil ?_
    refine WQ.then_normal ?_
    refine WC.seq ?_
    refine WC.region ?_
    refine WL.step ?_
    refine WL.loadW F.agg24 rfl rfl (by repeat (first | exact List.Mem.head _ | apply List.Mem.tail)) rfl ?_
    refine WL.step ?_
    refine WL.move rfl rfl ?_
    refine WL.step ?_
    refine WL.callV F.fun13 rfl rfl (fun w hS => rmay_c t names wb G a c na nc hcap (by omega) w (by omega) hr ((Ext.refl wb).st hS) (hnr.next hS)) ?_
    refine WL.step ?_
    refine WL.assign rfl rfl ?_
    refine WL.nil ?_
    refine WQ.then_normal ?_
    refine WC.seq ?_
    refine WC.seq ?_
    refine WC.region ?_
    refine WL.step ?_
    refine WL.move rfl rfl ?_
    refine WL.step ?_
    refine WL.move rfl rfl ?_
    refine WL.step ?_
    refine WL.neI rfl rfl rfl ?_
    refine WL.step ?_
    refine WL.move rfl rfl ?_
    refine WA.splitB (i := 38) rfl (fun g38 => ?_) (fun g38 => ?_)
    · skip
      exfalso; simp at g38
    · skip
      refine WL.step (WL.guardT rfl rfl rfl ?_)
      refine WL.move rfl rfl ?_
      refine WL.step (WL.guardT rfl rfl rfl ?_)
      refine WL.move rfl rfl ?_
      refine WL.step (WL.guardT rfl rfl rfl ?_)
      refine WL.neI rfl rfl rfl ?_
      refine WL.step ?_
      refine WL.pickF rfl rfl rfl ?_
      refine WL.nil ?_
      refine WQ.then_normal ?_
      refine WC.cond rfl (fun h42 => ?_) (fun h42 => ?_)
      · skip
        exfalso; simp at h42
      · skip
        refine WC.skip ?_
        refine WQ.then_normal ?_
        refine WC.seq ?_
        refine WC.seq ?_
        refine WC.region ?_
        refine WL.step ?_
        refine WL.move rfl rfl ?_
        refine WL.step ?_
        refine WL.neI rfl rfl rfl ?_
        refine WL.nil ?_
        refine WQ.then_normal ?_
        refine WC.cond rfl (fun h44 => ?_) (fun h44 => ?_)
        · skip
          have hme : mayD t names ≠ 0 := by simpa using h44
          have hem : ((canon z26.1.1).2 == 0) = true := (emptyT z26.2.1).2 (fun cf => by rw [z26.2.2, decide_eq_false hme]; rfl)
          refine WC.seq ?_
          refine WC.region ?_
          refine WL.step ?_
          refine WL.move rfl rfl ?_
          refine WL.step ?_
          refine WL.not rfl rfl ?_
          refine WL.step ?_
          refine WL.move rfl rfl ?_
          refine WA.splitB (i := 47) rfl (fun g47 => ?_) (fun g47 => ?_)
          · skip
            refine WL.step (WL.guardT rfl rfl rfl ?_)
            refine WL.loadW F.agg35 rfl rfl (by repeat (first | exact List.Mem.head _ | apply List.Mem.tail)) rfl ?_
            refine WL.step (WL.guardT rfl rfl rfl ?_)
            refine WL.callV F.fun14 rfl rfl (fun w hS => Empty_c z26.1.1 z26.1.2.1 z26.1.2.2 w) ?_
            refine WL.step ?_
            refine WL.pickT rfl rfl rfl ?_
            refine WL.step ?_
            refine WL.move rfl rfl ?_
            refine WA.splitB (i := 51) rfl (fun g51 => ?_) (fun g51 => ?_)
            · skip
              refine WL.step (WL.guardT rfl rfl rfl ?_)
              refine WL.callV F.fun9 rfl rfl (fun w _ => wakes_c w) ?_
              refine WL.step ?_
              refine WL.pickT rfl rfl rfl ?_
              refine WL.step ?_
              refine WL.assign rfl rfl ?_
              refine WL.nil ?_
              refine WQ.then_normal ?_
              refine WC.ret ?_
              refine WQ.then_ret ?_
              exact WQ.ret (rs := [.tmp 6]) rfl (.tmp rfl .nil) (fun w hS => ⟨rfl, hS.sublist (List.nil_sublist _)⟩)
            · skip
              exfalso; rw [hem] at g51; cases g51
          · skip
            exfalso; rw [decide_eq_false hme] at g47; simp at g47
        · skip
          have hz : mayD t names = 0 := by simpa using h44
          obtain ⟨hv, hne, hk⟩ := mayD_zero.1 hz
          have h24 := names24 hne
          have hokT := okT_of hv hk
          have hsz2 := (validB_all hv).2
          have hev : ∀ cf, z26.1.1.ev cf = evT names t cf := fun cf => by (rw [z26.2.2, decide_eq_true hz]; rfl)
          have hfs := featL_sorted (placeN names (usedF (Fm.rowT t)))
          have hfl := featL_len (placeN names (usedF (Fm.rowT t)))
          have hsup := place_sup hk h24 z26.2.1 hev
          have htab := place_tab hk h24 hev
          refine WC.skip ?_
          refine WQ.then_normal ?_
          refine WC.seq ?_
          refine WC.drawsL (by kernel_rfl) (FactsOk.cons (ds := [4, 10, 11, 14]) (LoadOk.whole (t := 3) rfl (by repeat (first | exact List.Mem.head _ | apply List.Mem.tail))) (FactsOk.cons (ds := [11, 14]) (LoadOk.whole (t := 9) rfl (by repeat (first | exact List.Mem.head _ | apply List.Mem.tail))) (FactsOk.cons (ds := [10, 11, 14]) (LoadOk.whole (t := 3) rfl (by repeat (first | exact List.Mem.head _ | apply List.Mem.tail))) (FactsOk.nil)))) ?_
          refine WD.take (i := 0) rfl rfl rfl rfl (by kernel_rfl) (by kernel_rfl) (by kernel_rfl) (fun _ _ _ h => h) (by kernel_rfl) need_none (Yl.move rfl) ?_
          refine WD.take (i := 1) rfl rfl rfl rfl (by kernel_rfl) (by kernel_rfl) (by kernel_rfl) (fun _ _ _ h => h) (by kernel_rfl) (need_at 0 17 rfl (by kernel_rfl)) (Yl.loadN F.agg24 rfl rfl) ?_
          refine WD.take (i := 2) rfl rfl rfl rfl (by kernel_rfl) (by kernel_rfl) (by kernel_rfl) (fun _ _ _ h => h) (by kernel_rfl) need_none (Yl.move rfl) ?_
          refine WD.take (i := 3) rfl rfl rfl rfl (by kernel_rfl) (by kernel_rfl) (by kernel_rfl) (fun _ _ _ h => h) (by kernel_rfl) need_none (Yl.move rfl) ?_
          refine WD.one (i := 4) (by kernel_rfl) rfl ?_
          refine WL.callV (v := .bool (evT names t (cfg M))) F.fun15 rfl rfl (fun w hS => rTrue_c names na nc M h24 1000 (by omega) t wb G a c w (by omega) hokT hr ((Ext.refl wb).st hS) (hnr.next hS)) ?_
          refine WD.on (closed_of (by kernel_rfl)) (fun w hS => Sx.gone rfl (Sx.keep ((fun j v hv => by rw [Nat.zero_add]; exact hS.cell (by repeat (first | exact List.Mem.head _ | apply List.Mem.tail)) hv)) (Sx.keep ((fun j v hv => by rw [Nat.zero_add]; exact hS.cell (by repeat (first | exact List.Mem.head _ | apply List.Mem.tail)) hv)) (Sx.none)))) ?_
          refine WD.take (i := 5) rfl rfl rfl rfl (by kernel_rfl) (by kernel_rfl) (by kernel_rfl) (fun _ _ _ h => h) (by kernel_rfl) need_none (Yl.bin rfl rfl (fun w => run_eqB _ _ w)) ?_
          refine WD.take (i := 6) rfl rfl rfl rfl (by kernel_rfl) (by kernel_rfl) (by kernel_rfl) (fun _ _ _ h => h) (by kernel_rfl) need_none (Yl.move rfl) ?_
          refine fun hcl => WA.splitB (i := 60) rfl (fun g60 => ?_) (fun g60 => ?_)
          · skip
            refine (show WD _ _ _ _ _ _ _ _ _ _ _ _ from ?_) hcl
            refine WD.takeG (i := 7) rfl rfl rfl rfl rfl rfl (by kernel_rfl) (by kernel_rfl) (by kernel_rfl) (fun _ _ _ h => h) (by kernel_rfl) (need_at 1 17 rfl (by kernel_rfl)) (Yl.loadN F.agg35 rfl rfl) ?_
            refine WD.takeG (i := 8) rfl rfl rfl rfl rfl rfl (by kernel_rfl) (by kernel_rfl) (by kernel_rfl) (fun _ _ _ h => h) (by kernel_rfl) (need_at 2 17 rfl (by kernel_rfl)) (Yl.loadN F.agg24 rfl rfl) ?_
            refine WD.takeG (i := 9) rfl rfl rfl rfl rfl rfl (by kernel_rfl) (by kernel_rfl) (by kernel_rfl) (fun _ _ _ h => h) (by kernel_rfl) need_none (Yl.move rfl) ?_
            refine WD.one (i := 10) (by kernel_rfl) rfl ?_
            refine WL.guardT rfl rfl rfl ?_
            refine WL.callC (β := RSetG) (res := fun y => .agg [.slice y.va (placeV t names).length y.vc, .slice (some ⟨y.b, 0, none⟩) (2 ^ (placeV t names).length) (2 ^ (placeV t names).length)].toArray) (cs := fun y => [rowc (.slice y.va (placeV t names).length y.vc) (placeV t names).length 3 1 (nums (placeV t names)), rowc (.slice (some ⟨y.b, 0, none⟩) (2 ^ (placeV t names).length) (2 ^ (placeV t names).length)) (2 ^ (placeV t names).length) 4 1 (bls (placeT t names))]) (Cs := []) (O' := []) F.fun17 (fun d h => by cases h; rfl) rfl (List.Perm.refl _) (by simp) (by simp) (fun w hS _ => rSet_c t names hk hokT h24 wb G a c na nc w (by omega) hr ((Ext.refl wb).st hS) (hnr.next hS)) (fun ⟨va, vc, b9⟩ => ?_)
            refine WD.on (closed_of (by kernel_rfl)) (fun w hS => Sx.gone rfl (Sx.keep ((fun j v hv => by rw [Nat.zero_add]; exact hS.cell (by repeat (first | exact List.Mem.head _ | apply List.Mem.tail)) hv)) (Sx.gone rfl (Sx.none)))) ?_
            refine WD.one (i := 11) (by kernel_rfl) rfl ?_
            refine WL.guardT rfl rfl rfl ?_
            refine WL.callV (v := .bool true) F.fun16 rfl rfl (fun w hS => by have h9 := Alike1_c z26.1.1 z26.1.2.1 z26.1.2.2 (placeV t names) (placeT t names) hfs (fun x hx => featL_lt hx) hfl (tabN_len _ _ _) va (some ⟨b9, 0, none⟩) vc (2 ^ (placeV t names).length) w (z26.rd hS (by repeat (first | exact List.Mem.head _ | apply List.Mem.tail))) (RdV.of_row rfl (hS.ok (rowc (.slice va (placeV t names).length vc) (placeV t names).length 3 1 (nums (placeV t names))) (by repeat (first | exact List.Mem.head _ | apply List.Mem.tail)))) (RdB.of_row (n := (2 ^ (placeV t names).length)) (tabN_len _ _ _).symm (hS.ok (rowc (.slice (some ⟨b9, 0, none⟩) (2 ^ (placeV t names).length) (2 ^ (placeV t names).length)) (2 ^ (placeV t names).length) 4 1 (bls (placeT t names))) (by repeat (first | exact List.Mem.head _ | apply List.Mem.tail)))) hsup htab; simp only [sval, scells, tabN_len] at h9; exact h9) ?_
            refine WD.on (closed_of (by kernel_rfl)) (fun w hS => Sx.gone rfl (Sx.gone rfl (Sx.gone rfl (Sx.none)))) ?_
            refine WD.take (i := 12) rfl rfl rfl rfl (by kernel_rfl) (by kernel_rfl) (by kernel_rfl) (fun _ _ _ h => h) (by kernel_rfl) need_none (Yl.pickT rfl rfl) ?_
            refine WD.take (i := 13) rfl rfl rfl rfl (by kernel_rfl) (by kernel_rfl) (by kernel_rfl) (fun _ _ _ h => h) (by kernel_rfl) need_none (Yl.move rfl) ?_
            refine fun hcl => WA.splitB (i := 67) rfl (fun g67 => ?_) (fun g67 => ?_)
            · skip
              refine (show WD _ _ _ _ _ _ _ _ _ _ _ _ from ?_) hcl
              refine WD.one (i := 14) (by kernel_rfl) rfl ?_
              refine WL.guardT rfl rfl rfl ?_
              refine WL.callV F.fun9 rfl rfl (fun w _ => wakes_c w) ?_
              refine WD.on (closed_of (by kernel_rfl)) (fun w hS => Sx.gone rfl (Sx.gone rfl (Sx.gone rfl (Sx.none)))) ?_
              refine WD.take (i := 15) rfl rfl rfl rfl (by kernel_rfl) (by kernel_rfl) (by kernel_rfl) (fun _ _ _ h => h) (by kernel_rfl) need_none (Yl.pickT rfl rfl) ?_
              refine WD.take (i := 16) rfl rfl rfl rfl (by kernel_rfl) (by kernel_rfl) (by kernel_rfl) (fun _ _ _ h => h) (by kernel_rfl) need_none (Yl.assign rfl) ?_
              refine WD.done (by kernel_rfl) ?_
              refine WQ.then_normal ?_
              refine WC.ret ?_
              exact WQ.ret (rs := [.tmp 6]) rfl (.tmp rfl .nil) (fun w hS => ⟨rfl, hS.sublist (List.nil_sublist _)⟩)
            · skip
              refine (show WD _ _ _ _ _ _ _ _ _ _ _ _ from ?_) hcl
              exfalso; cases g67
          · skip
            refine (show WD _ _ _ _ _ _ _ _ _ _ _ _ from ?_) hcl
            exfalso; rw [decide_eq_true hz] at g60; simp at g60

end Go.Proofs.YtkgllhkhdjodeaaGreat
