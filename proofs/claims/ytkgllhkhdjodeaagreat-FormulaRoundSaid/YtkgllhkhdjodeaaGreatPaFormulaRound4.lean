import Derived.Test.YtkgllhkhdjodeaaGreatPaFormulaRound3
import Derived.RangeFuncOwn
import Derived.RangeFuncLeaves
import Derived.RangeFuncSeq
import Derived.OrdersIn
import Derived.TacticsIn
set_option linter.unusedSimpArgs false
set_option linter.unusedVariables false
namespace Go.Proofs.YtkgllhkhdjodeaaGreat
open Go Go.Eng Go.Proofs Dg
theorem venv_of {w0 w : World} {O : List Nat} {Fv : List Nat} {b2 b4 b5 b6 b7 b9 bm bk c : Nat} {l : List Dec} {a : Option Addr} {fk : Dec → Option Nat} (hS : St w0 O [vis Fv b5 b9 l [], pt b7 [visF b6 b2 b7 b5] 237, pt b6 [.map (some b9)] 236, pt b2 [pp bm] 200, pt b4 [.slice none 0 0, .int .i64 0] 35, pt bm [.slice a l.length c, .map (some bk)] 235, rowc (.slice a l.length c) l.length 104 3 (decs l), mpg enc3 bk (fun y => (fk y).map encI)] w) : VEnv w Fv b6 b2 b7 b5 b9 bm l a c := by
 have hd := hS.disj
 simp only [List.pairwise_cons, List.mem_cons, List.not_mem_nil, or_false, forall_eq_or_imp, forall_eq] at hd
 obtain ⟨⟨d1, d2, d3, d4, d5, d6, d7⟩, _⟩ := hd
 have hap : ∀ {b : Nat} {cs : List Value} {e : TypeId}, (∀ k, (vis Fv b5 b9 l []).fp k → ¬ (pt b cs e).fp k) → b ∉ Fv := fun h hb => h _ hb rfl
 refine ⟨hS.cell jM rfl, hap d2, hS.cell jM rfl, hap d3, hS.cell jM rfl, hap d1, hS.cell (cs := [.slice a l.length c, .map (some bk)]) jM rfl, hap d5, fun j u hu => ?_⟩
 obtain ⟨b, off, e1, e2⟩ := RdDec.of_row (l := l) (a := a) (cap := c) rfl (hS.ok (rowc (.slice a l.length c) l.length 104 3 (decs l)) jM) j u hu
 refine ⟨b, off, e1, e2, fun hb => d6 b hb ?_⟩
 show (Value.slice a l.length c).ownBlock = some b
 have hpos : 0 < l.length := by
  have h1 := (List.getElem?_eq_some_iff.1 hu).1
  rw [decs_len] at h1; omega
 obtain ⟨g, hg, _, _⟩ := rowc_addr (hS.ok (rowc (.slice a l.length c) l.length 104 3 (decs l)) jM) hpos
 subst hg
 injection e1 with e
 injection e with e _
 rw [← e]; rfl

theorem done_c (Fp : List Nat) (bm : Nat) (l : List Dec) (r : Nat) (w : World) (hm : Mk l) (hr : r < l.length + 2) (ho : (trs l r).ok 0) (hlen : l.length ≤ 16777216) (hS0 : St w Fp [mkr Fp bm l] w) :
  Calls Tryz.prog 148 [pp bm, .int .i64 (r : Int)].toArray w fun e w' => ∃ x : Option Addr × Nat, e = .returned (dval (trs l r) x.1 x.2) ∧ St w Fp [dC x.1 x.2 (trs l r)] w' := by
 obtain ⟨⟨a, c, bk, fk⟩, hk, h1, h2, hS0⟩ := hS0.bunOpen
 simp only [List.cons_append, List.nil_append] at hS0
 refine enter Tryz.func148 rfl Tryz.ntmps148 rfl (C := [pt bm [.slice a l.length c, .map (some bk)] 235, rowc (.slice a l.length c) l.length 104 3 (decs l), mpg enc3 bk (fun y => (fk y).map encI)]) hS0 ?_
 refine jN 3 ?_
 refine WL.box1 rfl rfl rfl (fun b2 => ?_)
 refine jN 1 ?_
 refine WL.alloc F.zero35 rfl (fun b4 => ?_)
 refine jN 5 ?_
 refine WL.alloc F.zero33 rfl (fun b5 => ?_)
 refine jN 5 ?_
 refine WL.makeMapG encI rfl (fun b9 => ?_)
 refine jN 1 ?_
 refine WL.insertG (f := fun _ : Nat => none) 0 undMI keyInt rfl rfl rfl rfl jU ?_
 refine jN 1 ?_
 refine WL.insertG (f := fun q : Nat => if q = 0 then some (.int .i64 0) else none) 1 undMI keyInt rfl rfl rfl rfl jU ?_
 refine jN 3 ?_
 refine WL.alloc F.zero236 rfl (fun b6 => ?_)
 refine jN 7 ?_
 refine WL.alloc F.zero237 rfl (fun b7 => ?_)
 refine jN 12 ?_
 refine WA.chunksE (C' := fun Fv => [vis Fv b5 b9 l [], pt b7 [visF b6 b2 b7 b5] 237, pt b6 [.map (some b9)] 236, pt b2 [pp bm] 200, pt b4 [.slice none 0 0, .int .i64 0] 35, pt bm [.slice a l.length c, .map (some bk)] 235, rowc (.slice a l.length c) l.length 104 3 (decs l), mpg enc3 bk (fun y => (fk y).map encI)]) (fun w hS => ?_) (fun Fv => ?_)
 ·exact St.visClose (l := l) (o := []) (a := none) (c := 0) (bk := b9) (bo := b5) (n := 0) (PlaceOk.nil hm) place_map0 rfl rfl (jK (hS.rowNil 104 3))
 refine jN 5 ?_
 refine WL.callFC (β := List Nat) (us := []) (cap := [pp b6, pp b2, pp b7, pp b5]) (res := fun y => .int .i64 ((visitT (trs l r) []).2 : Int)) (cs := fun y => [vis y b5 b9 l (visitT (trs l r) []).1]) (Cs := [vis Fv b5 b9 l []]) (C1 := [pt b7 [visF b6 b2 b7 b5] 237, pt b6 [.map (some b9)] 236, pt b2 [pp bm] 200, pt b4 [.slice none 0 0, .int .i64 0] 35, pt bm [.slice a l.length c, .map (some bk)] 235, rowc (.slice a l.length c) l.length 104 3 (decs l), mpg enc3 bk (fun y => (fk y).map encI)]) (O' := Fv) F.fun172 (fun d h => by cases h; rfl) rfl rfl (List.Perm.refl _) bun_O1 bun_O2 (fun w hS hS2 => visit_c b6 b2 b7 b5 b9 bm l a c hm (by omega) (r + 1) r (Nat.lt_succ_self _) Fv [] w hr Mk.nil ⟨_, ho⟩ (Nat.le_of_lt (canon_len ho)) (venv_of hS) hS2) (fun F2 => ?_)
 refine jN 6 ?_
 refine WA.openB (fun x3 hk3 h13 h23 => ?_)
 obtain ⟨a3, c3, f3⟩ := x3
 simp only [viCs, List.cons_append, List.nil_append]
 refine jN 11 ?_
 refine WQ.ret (rs := [.cell 4 35]) rfl (.cellN F.agg35 rfl jM rfl .nil) (fun w hS => ⟨(a3, c3), rfl, (jK hS)⟩)

end Go.Proofs.YtkgllhkhdjodeaaGreat

namespace Go.Proofs.YtkgllhkhdjodeaaGreat
open Go Go.Eng Go.Proofs Dg
structure FoldG (σ : Type) where
 i : Nat
 out : List Int
 ad : Option Addr
 ac : Nat
 s : σ

theorem Fold_c {σ : Type} (ch : σ → Chunk) (Fs : σ → List Nat) (hF : ∀ s, FpIs (ch s) (Fs s)) (fj : Nat) (hg : funB Tryz.prog fj = some true) (us cap : List Value) (l : List Dec) (a : Option Addr) (c root : Nat) (e0 e1 : Int) (I : List Int → σ → Prop)
  (hll : l.length ≤ 16777216) (hkid : ∀ k x, l[k]? = some x → x.2.1 < k + 2 ∧ x.2.2 < k + 2) (hroot : root < l.length + 2) (s0 : σ) (h0 : I [e0, e1] s0)
  (hj : ∀ (out : List Int) (s : σ) (x : Dec) (z1 z2 : Int) (w : World), l[out.length - 2]? = some x → I out s → out[x.2.1]? = some z1 → out[x.2.2]? = some z2 → St w (Fs s) [ch s] w →
   Calls Tryz.prog fj (us ++ [Value.int .i64 (x.1 : Int), .int .i64 z1, .int .i64 z2] ++ cap).toArray w fun e w' => ∃ y : { y : σ × Int // I (out ++ [y.2]) y.1 }, e = .returned (.int .i64 y.1.2) ∧ St w (Fs s) [ch y.1.1] w')
  (w : World) (hrd : RdDecO w l a (Fs s0)) (hS0 : St w (Fs s0) [ch s0] w) :
  Calls Tryz.prog 53 [.agg [.slice a l.length c, .int .i64 (root : Int)].toArray, .int .i64 e0, .int .i64 e1, Value.func (.func fj) us.toArray cap.toArray].toArray w fun e w' =>
   ∃ y : { y : List Int × σ × Int // I y.1 y.2.1 ∧ y.1.length = l.length + 2 ∧ y.1[root]? = some y.2.2 }, e = .returned (.int .i64 y.1.2.2) ∧ St w (Fs s0) [ch y.1.2.1] w' := by
 refine enter Tryz.func53 rfl Tryz.ntmps53 rfl (C := [ch s0]) hS0 ?_
 refine jN 3 ?_
 refine WL.boxN rfl rfl (fun b4 => ?_)
 refine jN 11 ?_
 refine WL.buildSlice F.sl41 F.ez41 rfl rfl rfl rfl jB rfl (fun b14 => ?_)
 refine jN 18 ?_
 refine WC.chunks (fun w hS => St.rowOf (n := 2) (sz := 1) (cs := [e0, e1].map (Value.int .i64)) (hS.pick (c := pt b14 [.int .i64 e0, .int .i64 e1] 3) jR) rfl (by decide)) ?_
 refine WC.chunks (C' := [ch s0, rowc (.slice (some ⟨b14, 0, none⟩) 2 2) 2 3 1 ([e0, e1].map (Value.int .i64)), pt b4 [.slice a l.length c, .int .i64 (root : Int)] 35]) (fun w hS => (jK hS)) ?_
 refine WC.loop (α := FoldG σ) (fun g => g.i ≤ l.length ∧ g.out.length = g.i + 2 ∧ I g.out g.s) (fun g => [(3, Value.func (.func fj) us.toArray cap.toArray), (4, pp b4), (9, .slice g.ad (g.i + 2) g.ac), (16, .slice a l.length c), (17, .int .i64 (l.length : Int)), (18, .int .i64 (g.i : Int))]) (fun g => [ch g.s, rowc (.slice g.ad (g.i + 2) g.ac) (g.i + 2) 3 1 (g.out.map (Value.int .i64)), pt b4 [.slice a l.length c, .int .i64 (root : Int)] 35]) (fun g => l.length - g.i) (⟨0, [e0, e1], some ⟨b14, 0, none⟩, 2, s0⟩) ?_ ?_ ?_ ?_
 ·exact ⟨Nat.zero_le _, rfl, h0⟩
 ·exact ⟨rfl, rfl, rfl, rfl, rfl, rfl, trivial⟩
 ·rfl
 rintro ⟨i, out, ad, ac, s⟩ ⟨hi, hol, hI⟩
 dsimp only at hi hol hI
 show WC _ _ _ _ _ _ _ [(3, Value.func (.func fj) us.toArray cap.toArray), (4, pp b4), (9, .slice ad (i + 2) ac), (16, .slice a l.length c), (17, .int .i64 (l.length : Int)), (18, .int .i64 (i : Int))] [ch s, rowc (.slice ad (i + 2) ac) (i + 2) 3 1 (out.map (Value.int .i64)), pt b4 [.slice a l.length c, .int .i64 (root : Int)] 35]
 refine jN 7 ?_
 refine WC.cond rfl (fun h19 => ?_) (fun h19 => ?_)
 ·have hlt : i < l.length := by simpa using h19
  obtain ⟨x, hx⟩ : ∃ x, l[i]? = some x := ⟨_, List.getElem?_eq_getElem hlt⟩
  obtain ⟨k1, k2⟩ := hkid i x hx
  obtain ⟨bl, off, rfl, hbl, hcx⟩ := hrd.at hx
  obtain ⟨z1, hz1⟩ : ∃ z, out[x.2.1]? = some z := ⟨_, List.getElem?_eq_getElem (by omega)⟩
  obtain ⟨z2, hz2⟩ : ∃ z, out[x.2.2]? = some z := ⟨_, List.getElem?_eq_getElem (by omega)⟩
  refine jN 7 ?_
  refine WL.indexAddr F.sl33 rfl rfl rfl hlt ?_
  refine jN 1 ?_
  refine WL.loadN F.agg104 rfl rfl (vs := [Value.int .i64 (x.1 : Int), .int .i64 (x.2.1 : Int), .int .i64 (x.2.2 : Int)]) rfl (fun w hS j v hv => hS.oldc (hcx j v hv) hbl) ?_
  refine jN 1 ?_
  refine WL.alloc F.zero104 rfl (fun b11 => ?_)
  refine jN 4 ?_
  refine WC.know (φ := ∃ g2, ad = some ⟨g2, 0, none⟩ ∧ i + 2 = i + 2 ∧ i + 2 ≤ ac) (fun w hS => rowc_addr (hS.ok (rowc (.slice ad (i + 2) ac) (i + 2) 3 1 (out.map (Value.int .i64))) jM) (by omega)) (fun ⟨g2, hg2, _, _⟩ => ?_)
  ·subst hg2
   refine WC.drawsL (by kernel_rfl) (FactsOk.cons (ds := [14, 15, 16]) (LoadOk.one (t := 11) (off := 0) rfl jM rfl) (FactsOk.cons (ds := [14, 15, 16]) (LoadOk.one (t := 11) (off := 1) rfl jM rfl) (FactsOk.cons (ds := [14, 15, 16]) (LoadOk.by (Y := fun w => w.cell? ⟨g2, 0 + x.2.1 * 1, none⟩ = some (.int .i64 z1)) (fun w hS => by rw [Nat.zero_add, Nat.mul_one]; exact rowc_cell (hS.ok (rowc (.slice (some ⟨g2, 0, none⟩) (i + 2) ac) (i + 2) 3 1 (out.map (Value.int .i64))) jM) (by simp [hz1]))) (FactsOk.cons (ds := [14, 15, 16]) (LoadOk.one (t := 11) (off := 2) rfl jM rfl) (FactsOk.cons (ds := [14, 15, 16]) (LoadOk.by (Y := fun w => w.cell? ⟨g2, 0 + x.2.2 * 1, none⟩ = some (.int .i64 z2)) (fun w hS => by rw [Nat.zero_add, Nat.mul_one]; exact rowc_cell (hS.ok (rowc (.slice (some ⟨g2, 0, none⟩) (i + 2) ac) (i + 2) 3 1 (out.map (Value.int .i64))) jM) (by simp [hz2]))) (FactsOk.nil)))))) ?_
   refine jT 0 rfl (Yl.move rfl) ?_
   refine jT 1 rfl (Yl.move rfl) ?_
   refine jT 2 rfl (Yl.fieldAddr0 F.fld104_0 rfl) ?_
   refine jF 3 0 rfl rfl (Yl.load1 F.one3 rfl) ?_
   refine jT 4 rfl (Yl.move rfl) ?_
   refine jT 5 rfl (Yl.fieldAddr0 F.fld104_1 rfl) ?_
   refine jF 6 1 rfl rfl (Yl.load1 F.one3 rfl) ?_
   refine jT 7 rfl (Yl.indexAddr F.sl41 rfl rfl (by omega)) ?_
   refine jF 8 2 rfl rfl (Yl.load1 F.one3 rfl) ?_
   refine jT 9 rfl (Yl.move rfl) ?_
   refine jT 10 rfl (Yl.fieldAddr0 F.fld104_2 rfl) ?_
   refine jF 11 3 rfl rfl (Yl.load1 F.one3 rfl) ?_
   refine jT 12 rfl (Yl.indexAddr F.sl41 rfl rfl (by omega)) ?_
   refine jF 13 4 rfl rfl (Yl.load1 F.one3 rfl) ?_
   refine jA 14 rfl ?_
   refine WL.callFC (β := { y : σ × Int // I (out ++ [y.2]) y.1 }) (us := us) (cap := cap) (res := fun y => .int .i64 y.1.2) (cs := fun y => [ch y.1.1]) (Cs := [ch s]) (C1 := [pt b11 [Value.int .i64 (x.1 : Int), .int .i64 (x.2.1 : Int), .int .i64 (x.2.2 : Int)] 104, rowc (.slice (some ⟨g2, 0, none⟩) (i + 2) ac) (i + 2) 3 1 (out.map (Value.int .i64)), pt b4 [.slice (some ⟨bl, off, none⟩) l.length c, .int .i64 (root : Int)] 35]) (O' := Fs s) hg (fun d h => by cases h; rfl) rfl rfl ?_ (fun c hc k hk => (by rw [List.mem_singleton.1 hc] at hk; exact (hF s k).1 hk)) (fun k hk => ⟨_, List.mem_singleton.2 rfl, (hF s k).2 hk⟩) (fun w hS hS2 => hj out s x z1 z2 w (by rw [hol]; simpa using hx) hI hz1 hz2 hS2) (fun y36 => ?_)
   ·exact ((List.Perm.swap _ _ _).trans (List.Perm.refl _))
   refine jG ?_
   refine jA 15 rfl ?_
   refine WL.buildSlice F.sl41 F.ez41 rfl rfl rfl rfl jB rfl (fun b37 => ?_)
   refine jG ?_
   refine jA 16 rfl ?_
   refine WL.appendE (news := [.int .i64 y36.1.2]) F.el41 rfl rfl rfl jR (fun w hS jj u hu => by rw [Nat.zero_add]; exact hS.cell (cs := [.int .i64 y36.1.2]) jM hu) rfl jO (Nat.le_trans (m := 33554432) (by omega) (by decide)) (by omega) (fun ad2 ac2 => ?_)
   refine jG ?_
   refine jT 17 rfl (Yl.assign rfl) ?_
   refine jD ?_
   refine jN 8 ?_
   refine WQ.chunks (C' := [ch y36.1.1, rowc (.slice ad2 (i + 1 + 2) ac2) (i + 1 + 2) 3 1 ((out ++ [y36.1.2]).map (Value.int .i64)), pt b4 [.slice (some ⟨bl, off, none⟩) l.length c, .int .i64 (root : Int)] 35]) (fun w hS => ?_) ?_
   ·rw [List.map_append]
    exact (jK hS)
   refine WQ.back (⟨i + 1, out ++ [y36.1.2], ad2, ac2, y36.1.1⟩) ?_ ?_ ?_ ?_
   ·exact ⟨by show i + 1 ≤ _; omega, by simp [hol], y36.2⟩
   ·(show l.length - (i + 1) < l.length - i; omega)
   ·exact ⟨rfl, rfl, rfl, rfl, rfl, rfl, trivial⟩
   ·rfl
 ·have hie : i = l.length := by simp at h19; omega
  subst hie
  obtain ⟨z, hz⟩ : ∃ z, out[root]? = some z := ⟨_, List.getElem?_eq_getElem (by omega)⟩
  refine jN 7 ?_
  refine WA.know (φ := ∃ g2, ad = some ⟨g2, 0, none⟩ ∧ l.length + 2 = l.length + 2 ∧ l.length + 2 ≤ ac) (fun w hS => rowc_addr (hS.ok (rowc (.slice ad (l.length + 2) ac) (l.length + 2) 3 1 (out.map (Value.int .i64))) jM) (by omega)) (fun ⟨g2, hg2, _, _⟩ => ?_)
  subst hg2
  refine jN 7 ?_
  refine WL.indexAddr F.sl41 rfl rfl rfl (by omega) ?_
  refine jN 1 ?_
  refine WL.load1 F.one3 rfl rfl (v := .int .i64 z) (fun w hS => by rw [Nat.zero_add, Nat.mul_one]; exact rowc_cell (hS.ok (rowc (.slice (some ⟨g2, 0, none⟩) (l.length + 2) ac) (l.length + 2) 3 1 (out.map (Value.int .i64))) jM) (by simp [hz])) ?_
  refine jN 5 ?_
  refine WQ.ret (rs := [.tmp 8]) rfl (.tmp rfl .nil) (fun w hS => ⟨⟨(out, s, z), hI, hol, hz⟩, rfl, (jK hS)⟩)

end Go.Proofs.YtkgllhkhdjodeaaGreat

namespace Go.Proofs.YtkgllhkhdjodeaaGreat
open Go Go.Eng Go.Proofs Dg
theorem at_c (l : List Dec) (a : Option Addr) (c root r : Nat) (w : World) (hll : l.length ≤ 16777216) (hr : r < l.length + 2) (hrd : RdDec w l a) :
  Pure Tryz.prog 176 [.agg [.slice a l.length c, .int .i64 (root : Int)].toArray, .int .i64 (r : Int)] w (.agg [.int .i64 ((atD l r).1 : Int), .int .i64 ((atD l r).2.1 : Int), .int .i64 ((atD l r).2.2 : Int)].toArray) := by
 refine enter Tryz.func176 rfl Tryz.ntmps176 rfl (St.init _) ?_
 refine jN 3 ?_
 refine WL.boxN rfl rfl (fun b2 => ?_)
 refine jN 1 ?_
 refine WL.alloc F.zero104 rfl (fun b4 => ?_)
 refine jN 11 ?_
 refine WC.cond rfl (fun h6 => ?_) (fun h6 => ?_)
 ·have h2 : r < 2 := by simp at h6; omega
  have ha : atD l r = (24, r, r) := by unfold atD; rw [if_pos h2]
  refine jN 14 ?_
  exact WQ.ret (rs := [.cell 4 104]) rfl (.cellN F.agg104 rfl jM rfl .nil) (fun w hS => ⟨by rw [ha]; rfl, hS.sublist (List.nil_sublist _)⟩)
 ·have h2 : 2 ≤ r := by simp at h6; omega
  obtain ⟨x, hx⟩ : ∃ x, l[r - 2]? = some x := ⟨_, List.getElem?_eq_getElem (by omega)⟩
  have ha : atD l r = x := atD_ge h2 hx
  obtain ⟨bl, off, rfl, hcx⟩ := hrd.at hx
  have hri : ((r - 2 : Nat) : Int) = (r : Int) - 2 := by omega
  refine jN 12 ?_
  refine WA.say 13 (.int .i64 ((r - 2 : Nat) : Int)) (by rw [hri]; rfl) ?_
  refine jN 1 ?_
  refine WL.indexAddr F.sl33 rfl rfl rfl (List.getElem?_eq_some_iff.1 hx).1 ?_
  refine jN 1 ?_
  refine WL.loadN F.agg104 rfl rfl (vs := [Value.int .i64 (x.1 : Int), .int .i64 (x.2.1 : Int), .int .i64 (x.2.2 : Int)]) rfl (fun w hS j v hv => hS.oldc (hcx j v hv) (by simp)) ?_
  refine jN 5 ?_
  exact WQ.ret (rs := [.cell 4 104]) rfl (.cellN F.agg104 rfl jM rfl .nil) (fun w hS => ⟨by rw [ha]; rfl, hS.sublist (List.nil_sublist _)⟩)

/-- An operation on the empty and the full set, as the program has it. -/
structure OpOk (g : Nat) (bop : Bool → Bool → Bool) (opf : Nat → Nat → Nat × Bool) : Prop where
 fn : funB Tryz.prog g = some true
 spec : OpSpec bop opf
 call : ∀ (x y : Nat) (w : World), x ≤ 1099511627776 → y ≤ 1099511627776 → Pure Tryz.prog g [.int .i64 (x : Int), .int .i64 (y : Int)] w (.tuple #[.int .i64 ((opf x y).1 : Int), .bool (opf x y).2])

theorem both_c (x y : Nat) (w : World) (hx : x ≤ 1099511627776) (hy : y ≤ 1099511627776) : Pure Tryz.prog 130 [.int .i64 (x : Int), .int .i64 (y : Int)] w (.tuple #[.int .i64 ((andF x y).1 : Int), .bool (andF x y).2]) := by
 refine enter Tryz.func130 rfl Tryz.ntmps130 rfl (St.init _) ?_
 refine jN 15 ?_
 refine WL.min3 (r := ((min (min x y) 1 : Nat) : Int)) rfl rfl rfl rfl (by (repeat split) <;> omega) ?_
 refine jN 6 ?_
 refine WA.splitB (i := 11) rfl (fun g11 => ?_) (fun g11 => ?_)
 ·refine jN 29 ?_
  refine WQ.ret (rs := [.tmp 4, .tmp 5]) rfl (.tmp rfl (.tmp rfl .nil)) (fun w hS => ⟨?_, hS⟩)
  have e : ∀ b : Bool, b = (andF x y).2 → Ending.returned (tup [.int .i64 ((min (min x y) 1 : Nat) : Int), .bool b]) = .returned (.tuple #[.int .i64 ((andF x y).1 : Int), .bool (andF x y).2]) := fun b hb => by rw [hb]; rfl
  refine e _ ?_
  unfold andF
  simp at *
  first | done | omega | (simp [*]; done) | (rw [Bool.eq_iff_iff]; simp; omega)
 ·refine jN 10 ?_
  refine WA.splitB (i := 15) rfl (fun g15 => ?_) (fun g15 => ?_)
  ·refine jN 21 ?_
   refine WQ.ret (rs := [.tmp 4, .tmp 5]) rfl (.tmp rfl (.tmp rfl .nil)) (fun w hS => ⟨?_, hS⟩)
   have e : ∀ b : Bool, b = (andF x y).2 → Ending.returned (tup [.int .i64 ((min (min x y) 1 : Nat) : Int), .bool b]) = .returned (.tuple #[.int .i64 ((andF x y).1 : Int), .bool (andF x y).2]) := fun b hb => by rw [hb]; rfl
   refine e _ ?_
   unfold andF
   simp at *
   first | done | omega | (simp [*]; done) | (rw [Bool.eq_iff_iff]; simp; omega)
  ·refine jN 9 ?_
   refine WA.splitB (i := 18) rfl (fun g18 => ?_) (fun g18 => ?_)
   ·refine jN 18 ?_
    refine WQ.ret (rs := [.tmp 4, .tmp 5]) rfl (.tmp rfl (.tmp rfl .nil)) (fun w hS => ⟨?_, hS⟩)
    have e : ∀ b : Bool, b = (andF x y).2 → Ending.returned (tup [.int .i64 ((min (min x y) 1 : Nat) : Int), .bool b]) = .returned (.tuple #[.int .i64 ((andF x y).1 : Int), .bool (andF x y).2]) := fun b hb => by rw [hb]; rfl
    refine e _ ?_
    unfold andF
    simp at *
    first | done | omega | (simp [*]; done) | (rw [Bool.eq_iff_iff]; simp; omega)
   ·refine jN 16 ?_
    refine WQ.ret (rs := [.tmp 4, .tmp 5]) rfl (.tmp rfl (.tmp rfl .nil)) (fun w hS => ⟨?_, hS⟩)
    have e : ∀ b : Bool, b = (andF x y).2 → Ending.returned (tup [.int .i64 ((min (min x y) 1 : Nat) : Int), .bool b]) = .returned (.tuple #[.int .i64 ((andF x y).1 : Int), .bool (andF x y).2]) := fun b hb => by rw [hb]; rfl
    refine e _ ?_
    unfold andF
    simp at *
    first | done | omega | (simp [*]; done) | (rw [Bool.eq_iff_iff]; simp; omega)

theorem both_ok : OpOk 130 (fun p q => p && q) andF := ⟨F.fun130, and_spec, both_c⟩
theorem odd_c (x y : Nat) (w : World) (hx : x ≤ 1099511627776) (hy : y ≤ 1099511627776) : Pure Tryz.prog 150 [.int .i64 (x : Int), .int .i64 (y : Int)] w (.tuple #[.int .i64 ((xorF x y).1 : Int), .bool (xorF x y).2]) := by
 refine enter Tryz.func150 rfl Tryz.ntmps150 rfl (St.init _) ?_
 refine jN 15 ?_
 refine WL.bin rfl rfl rfl (fun w => run_xor (by omega) (by omega) _ _ _ w) ?_
 refine jN 6 ?_
 refine WA.splitB (i := 11) rfl (fun g11 => ?_) (fun g11 => ?_)
 ·refine jN 15 ?_
  refine WQ.ret (rs := [.tmp 4, .tmp 5]) rfl (.tmp rfl (.tmp rfl .nil)) (fun w hS => ⟨?_, hS⟩)
  have e : ∀ b : Bool, b = (xorF x y).2 → Ending.returned (tup [.int .i64 ((x ^^^ y : Nat) : Int), .bool b]) = .returned (.tuple #[.int .i64 ((xorF x y).1 : Int), .bool (xorF x y).2]) := fun b hb => by rw [hb]; rfl
  refine e _ ?_
  unfold xorF
  simp at *
  first | done | omega | (simp [*]; done) | (rw [Bool.eq_iff_iff]; simp; omega)
 ·refine jN 13 ?_
  refine WQ.ret (rs := [.tmp 4, .tmp 5]) rfl (.tmp rfl (.tmp rfl .nil)) (fun w hS => ⟨?_, hS⟩)
  have e : ∀ b : Bool, b = (xorF x y).2 → Ending.returned (tup [.int .i64 ((x ^^^ y : Nat) : Int), .bool b]) = .returned (.tuple #[.int .i64 ((xorF x y).1 : Int), .bool (xorF x y).2]) := fun b hb => by rw [hb]; rfl
  refine e _ ?_
  unfold xorF
  simp at *
  first | done | omega | (simp [*]; done) | (rw [Bool.eq_iff_iff]; simp; omega)

theorem odd_ok : OpOk 150 (fun p q => p != q) xorF := ⟨F.fun150, xor_spec, odd_c⟩
theorem either_c (x y : Nat) (w : World) (hx : x ≤ 1099511627776) (hy : y ≤ 1099511627776) : Pure Tryz.prog 151 [.int .i64 (x : Int), .int .i64 (y : Int)] w (.tuple #[.int .i64 ((orF x y).1 : Int), .bool (orF x y).2]) := by
 refine enter Tryz.func151 rfl Tryz.ntmps151 rfl (St.init _) ?_
 refine jN 17 ?_
 refine WA.splitB (i := 8) rfl (fun g8 => ?_) (fun g8 => ?_)
 ·have hor : x = 1 ∨ y = 1 := by (simp at g8; omega)
  have ho : orF x y = (1, true) := by (unfold orF; rw [if_pos hor])
  refine jN 19 ?_
  refine WQ.ret (rs := [.tmp 4, .tmp 5]) rfl (.tmp rfl (.tmp rfl .nil)) (fun w hS => ⟨?_, hS⟩)
  rw [ho]; rfl
 ·refine jN 10 ?_
  refine WC.cond rfl (fun h11 => ?_) (fun h11 => ?_)
  ·have hor : x = 1 ∨ y = 1 := by (first | (simp at g8; omega) | (simp at h11; omega) | (simp at *; omega))
   have ho : orF x y = (1, true) := by (unfold orF; rw [if_pos hor])
   refine jN 10 ?_
   refine WQ.ret (rs := [.tmp 4, .tmp 5]) rfl (.tmp rfl (.tmp rfl .nil)) (fun w hS => ⟨?_, hS⟩)
   rw [ho]; rfl
  ·have hor : ¬ (x = 1 ∨ y = 1) := by (simp at g8 h11; omega)
   have ho : orF x y = (0, x == 0 && y == 0) := by (unfold orF; rw [if_neg hor])
   refine jN 10 ?_
   refine WA.splitB (i := 14) rfl (fun g14 => ?_) (fun g14 => ?_)
   ·refine jN 15 ?_
    refine WQ.ret (rs := [.tmp 4, .tmp 5]) rfl (.tmp rfl (.tmp rfl .nil)) (fun w hS => ⟨?_, hS⟩)
    rw [ho]
    have e : ∀ b : Bool, b = (x == 0 && y == 0) → Ending.returned (tup [.int .i64 0, .bool b]) = .returned (.tuple #[.int .i64 ((0 : Nat) : Int), .bool (x == 0 && y == 0)]) := fun b hb => by rw [hb]; rfl
    refine e _ ?_
    simp at *
    first | done | omega | (simp [*]; done) | (rw [Bool.eq_iff_iff]; simp; omega)
   ·refine jN 13 ?_
    refine WQ.ret (rs := [.tmp 4, .tmp 5]) rfl (.tmp rfl (.tmp rfl .nil)) (fun w hS => ⟨?_, hS⟩)
    rw [ho]
    have e : ∀ b : Bool, b = (x == 0 && y == 0) → Ending.returned (tup [.int .i64 0, .bool b]) = .returned (.tuple #[.int .i64 ((0 : Nat) : Int), .bool (x == 0 && y == 0)]) := fun b hb => by rw [hb]; rfl
    refine e _ ?_
    simp at *
    first | done | omega | (simp [*]; done) | (rw [Bool.eq_iff_iff]; simp; omega)

theorem either_ok : OpOk 151 (fun p q => p || q) orF := ⟨F.fun151, or_spec, either_c⟩
end Go.Proofs.YtkgllhkhdjodeaaGreat

/-
 Two diagrams that are joined: the memory.
-/
namespace Go.Proofs.YtkgllhkhdjodeaaGreat
open Go Go.Eng Go.Proofs Dg
theorem keyPair : KeyT Tryz.prog 243 enc2 := KeyT.twoOf (by kernel_rfl)
theorem undMP : Tryz.prog.underlying 221 = some (.map 243 3) := by kernel_rfl
abbrev jnCs (bm bs : Nat) (l : List Dec) (f : Nat × Nat → Option Nat) (F1 : List Nat) : List Chunk := [mkr F1 bm l, mpg enc2 bs (fun q => (f q).map encI)]
def jns (F : List Nat) (bm bs : Nat) (l : List Dec) (f : Nat × Nat → Option Nat) : Chunk := bun F (jnCs bm bs l f) (fun _ => True)
theorem St.jnsClose {w0 w : World} {O : List Nat} {C : List Chunk} {F1 : List Nat} {bm bs : Nat} {l : List Dec} {f : Nat × Nat → Option Nat} (h : St w0 O (mkr F1 bm l :: mpg enc2 bs (fun q => (f q).map encI) :: C) w) : St w0 O (jns (F1 ++ ([bs] ++ [])) bm bs l f :: C) w :=
 St.bunClose' (Cs := jnCs bm bs l f) F1 trivial (.cons FpIs.bun (.cons FpIs.mpg .nil)) h
theorem pair_map {f : Nat × Nat → Option Nat} {k : Nat × Nat} {n : Nat} {z : Int} (hz : z = (n : Int)) : (fun q : Nat × Nat => if q = k then some (Value.int .i64 z) else (f q).map encI) = (fun y => (if y = k then some n else f y).map encI) := by
 funext q
 by_cases h : q = k
 ·rw [if_pos h, if_pos h, hz]; rfl
 ·rw [if_neg h, if_neg h]
theorem RdDecO.now {w0 w : World} {F : List Nat} {C : List Chunk} {l : List Dec} {a : Option Addr} (h : RdDecO w0 l a F) (hS : St w0 F C w) : RdDec w l a := fun j u hu => by
 obtain ⟨b, off, e1, e2, e3⟩ := h j u hu
 exact ⟨b, off, e1, hS.oldc e2 e3⟩
structure JEnv (w : World) (F : List Nat) (bp bm bs : Nat) (la lb : List Dec) (aa ab : Option Addr) (ca cb ra rb : Nat) : Prop where
 ce : ∀ j v, [pp bm, .slice aa la.length ca, .int .i64 (ra : Int), .slice ab lb.length cb, .int .i64 (rb : Int), .map (some bs)][j]? = some v → w.cell? ⟨bp, j, none⟩ = some v
 ce' : bp ∉ F
 rda : RdDecO w la aa F
 rdb : RdDecO w lb ab F
theorem JEnv.next {w0 w : World} {F F' : List Nat} {C1 : List Chunk} {bp bm bs ca cb ra rb : Nat} {la lb l : List Dec} {aa ab : Option Addr} {f : Nat × Nat → Option Nat} (h : JEnv w0 F bp bm bs la lb aa ab ca cb ra rb) (hS : St w0 F ([jns F' bm bs l f] ++ C1) w) : JEnv w F' bp bm bs la lb aa ab ca cb ra rb := by
 have hap := fun {z : Nat} (h1 : z < w0.heap.size) (h2 : z ∉ F) => hS.apart (F := F') bun_O2 h1 h2
 refine ⟨fun j v hv => hS.oldc (h.ce j v hv) h.ce', hap (World.block_lt_of_cell? w0 _ (h.ce 0 _ rfl)) h.ce', fun j u hu => ?_, fun j u hu => ?_⟩
 ·obtain ⟨b, off, e1, e2, e3⟩ := h.rda j u hu
  exact ⟨b, off, e1, hS.oldc e2 e3, hap (World.block_lt_of_cell? w0 _ e2) e3⟩
 ·obtain ⟨b, off, e1, e2, e3⟩ := h.rdb j u hu
  exact ⟨b, off, e1, hS.oldc e2 e3, hap (World.block_lt_of_cell? w0 _ e2) e3⟩
abbrev JT := List Nat × List Dec × (Nat × Nat → Option Nat) × Nat
structure JPost (bop : Bool → Bool → Bool) (la lb l : List Dec) (m x y : Nat) (z : JT) : Prop where
 ismk : Mk z.2.1
 pre : ∃ t, z.2.1 = l ++ t
 len : z.2.1.length + 1 ≤ l.length + 2 ^ (24 - m)
 jr : JR bop z.2.1 z.2.2.2 (trs la x) (trs lb y)
 seen : SeenOk bop la lb z.2.1 z.2.2.1
end Go.Proofs.YtkgllhkhdjodeaaGreat

namespace Go.Proofs.YtkgllhkhdjodeaaGreat
open Go Go.Eng Go.Proofs Dg
set_option maxRecDepth 100000 in
theorem join_c (g : Nat) (bop : Bool → Bool → Bool) (opf : Nat → Nat → Nat × Bool) (hop : OpOk g bop opf) (bp bm bs : Nat) (la lb : List Dec) (aa ab : Option Addr) (ca cb ra rb : Nat) (ha : Mk la) (hb : Mk lb) (hla : la.length ≤ 16777216) (hlb : lb.length ≤ 16777216) : ∀ (n m : Nat), m ≤ 24 → 24 - m < n →
  ∀ (Fp : List Nat) (l : List Dec) (f : Nat × Nat → Option Nat) (x y : Nat) (w : World), x < la.length + 2 → y < lb.length + 2 → (trs la x).ok m → (trs lb y).ok m → Mk l → SeenOk bop la lb l f → l.length + 2 ^ (24 - m) ≤ 16777216 → JEnv w Fp bp bm bs la lb aa ab ca cb ra rb → St w Fp [jns Fp bm bs l f] w →
  Calls Tryz.prog 163 [pp bp, .int .i64 (x : Int), .int .i64 (y : Int), Value.func (.func g) [].toArray [].toArray].toArray w fun e w' => ∃ z : { z : JT // JPost bop la lb l m x y z }, e = .returned (.int .i64 (z.1.2.2.2 : Int)) ∧ St w Fp [jns z.1.1 bm bs z.1.2.1 z.1.2.2.1] w' := by
 intro n
 induction n with
 | zero => intro m; omega
 | succ n hrec =>
 intro m hm24 hmn Fp l f x y w hx hy hox hoy hm hsn hsz hE hS0
 have hpow : l.length + 1 ≤ l.length + 2 ^ (24 - m) := by have := Nat.one_le_two_pow (n := 24 - m); omega
 obtain ⟨F1, _, h1, h2, hS0⟩ := hS0.bunOpen
 simp only [jnCs, List.cons_append, List.nil_append] at hS0
 refine enter Tryz.func163 rfl Tryz.ntmps163 rfl (C := [mkr F1 bm l, mpg enc2 bs (fun q => (f q).map encI)]) hS0 ?_
 refine jN 16 ?_
 refine WL.callF0 (β := Unit) (res := fun _ => .returned (.tuple #[.int .i64 ((opf x y).1 : Int), .bool (opf x y).2])) (cs := fun _ => []) (ψ := fun _ => True) (us := []) (cap := []) hop.fn (fun d h => by cases h; rfl) rfl rfl (fun w hS => (hop.call x y w (by omega) (by omega)).mono (fun e w2 h => ⟨(), trivial, h.1, h.2⟩)) (fun _ _ => ?_)
 refine WL.step ?_
 refine WL.move rfl rfl ?_
 refine WL.step ?_
 refine WL.extract rfl rfl rfl ?_
 refine WL.step ?_
 refine WL.extract rfl rfl rfl ?_
 refine WL.step ?_
 refine WL.assign rfl rfl ?_
 refine WL.step ?_
 refine WL.assign rfl rfl ?_
 refine WL.nil ?_
 refine WQ.then_normal ?_
 refine WC.seq ?_
 refine WC.region ?_
 refine WL.step ?_
 refine WL.move rfl rfl ?_
 refine WL.nil ?_
 refine WQ.then_normal ?_
 refine WC.cond rfl (fun h28 => ?_) (fun h28 => ?_)
 ·refine jN 10 ?_
  refine WQ.ret (rs := [.tmp 8]) rfl (.tmp rfl .nil) (fun w hS => ⟨⟨(_, l, f, (opf x y).1), ⟨hm, ⟨[], by simp⟩, hpow, hop.spec.done h28, hsn⟩⟩, rfl, St.jnsClose hS⟩)
 ·refine jN 9 ?_
  refine WL.buildA F.arT243 rfl jB rfl ?_
  refine jN 1 ?_
  refine WL.alloc F.zero243 rfl (fun b11 => ?_)
  refine jN 6 ?_
  rcases Option.eq_none_or_eq_some (f (x, y)) with hf | ⟨r, hf⟩
  ·refine WC.drawsL (by kernel_rfl) (FactsOk.cons (ds := []) (LoadOk.by (Y := fun w => w.cell? ⟨bp, 5, none⟩ = some (.map (some bs))) (fun w hS => hS.oldc (hE.ce 5 _ rfl) hE.ce')) (FactsOk.cons (ds := []) (LoadOk.whole (t := 11) rfl jM) (FactsOk.cons (ds := []) (LoadOk.by (Y := fun w => (mpg enc2 bs (fun q => (f q).map encI)).ok w) (fun w hS => hS.ok _ jM)) (FactsOk.nil)))) ?_
   refine jT 0 rfl (Yl.move rfl) ?_
   refine jT 1 rfl (Yl.nilCheck rfl) ?_
   refine jT 2 rfl (Yl.fieldAddr0 F.fld223_3 rfl) ?_
   refine jF 3 0 rfl rfl (Yl.load1 F.one221 rfl) ?_
   refine jF 4 1 rfl rfl (Yl.loadN F.agg243 rfl rfl) ?_
   refine jF 5 2 rfl rfl (Yl.lookupMiss (f := fun q => (f q).map encI) (x, y) undMP keyPair zeroInt rfl rfl rfl (by rw [hf]; rfl)) ?_
   refine jT 6 rfl (Yl.move rfl) ?_
   refine jT 7 rfl (Yl.extract rfl rfl) ?_
   refine jT 8 rfl (Yl.extract rfl rfl) ?_
   refine jT 9 rfl (Yl.assign rfl) ?_
   refine jT 10 rfl (Yl.assign rfl) ?_
   refine jD ?_
   refine jN 11 ?_
   refine WC.cutPE (α := Nat × Nat) (fun z => [(0, pp bp), (1, .int .i64 (x : Int)), (2, .int .i64 (y : Int)), (3, Value.func (.func g) [].toArray [].toArray), (11, pp b11), (14, pp z.1), (15, pp z.2)]) (fun z => [pt z.1 [Value.int .i64 ((atD la x).1 : Int), .int .i64 ((atD la x).2.1 : Int), .int .i64 ((atD la x).2.2 : Int)] 104, pt z.2 [Value.int .i64 ((atD lb y).1 : Int), .int .i64 ((atD lb y).2.1 : Int), .int .i64 ((atD lb y).2.2 : Int)] 104, pt b11 [Value.int .i64 (x : Int), .int .i64 (y : Int)] 243, mkr F1 bm l, mpg enc2 bs (fun q => (f q).map encI)]) (fun c a d v w h => by cases d <;> exact h) (fun Q' hP hQ => ?_) (fun xE => ?_)
   ·refine WC.drawsL (by kernel_rfl) (FactsOk.cons (ds := [5, 11, 14, 15]) (LoadOk.by (Y := fun w => ∀ j v, [Value.slice aa la.length ca, .int .i64 (ra : Int)][j]? = some v → w.cell? ⟨bp, 1 + j, none⟩ = some v) (fun w hS => fun j v hv => hS.oldc (hE.ce (1 + j) v (by rw [Nat.add_comm]; rcases j with _ | _ | j <;> first | exact hv | simp at hv)) hE.ce')) (FactsOk.cons (ds := [11, 14, 15]) (LoadOk.by (Y := fun w => ∀ j v, [Value.slice ab lb.length cb, .int .i64 (rb : Int)][j]? = some v → w.cell? ⟨bp, 3 + j, none⟩ = some v) (fun w hS => fun j v hv => hS.oldc (hE.ce (3 + j) v (by rw [Nat.add_comm]; rcases j with _ | _ | j <;> first | exact hv | simp at hv)) hE.ce')) (FactsOk.nil))) ?_
    refine jT 0 rfl (Yl.move rfl) ?_
    refine jT 1 rfl (Yl.nilCheck rfl) ?_
    refine jT 2 rfl (Yl.fieldAddr0 F.fld223_1 rfl) ?_
    refine jF 3 0 rfl rfl (Yl.loadN F.agg35 rfl rfl) ?_
    refine jT 4 rfl (Yl.move rfl) ?_
    refine jT 6 rfl (Yl.move rfl) ?_
    refine jT 7 rfl (Yl.nilCheck rfl) ?_
    refine jT 8 rfl (Yl.fieldAddr0 F.fld223_2 rfl) ?_
    refine jF 9 1 rfl rfl (Yl.loadN F.agg35 rfl rfl) ?_
    refine jT 10 rfl (Yl.move rfl) ?_
    refine WD.three (i := 5) (j := 12) (l := 13) (by kernel_rfl) rfl rfl rfl ?_ ?_ ?_
    ·refine WL.callV F.fun176 rfl rfl (fun w hS => at_c la aa ca ra x w (by omega) hx (hE.rda.now hS)) ?_
     refine WD.on (closed_of (by kernel_rfl)) (fun w hS => Sx.gone rfl (Sx.keep (fun j v hv => hS.oldc (hE.ce (3 + j) v (by rw [Nat.add_comm]; rcases j with _ | _ | j <;> first | exact hv | simp at hv)) hE.ce') (Sx.none))) ?_
     refine WD.three (i := 11) (j := 12) (l := 13) (by kernel_rfl) rfl rfl rfl ?_ ?_ ?_
     ·refine WL.callV F.fun176 rfl rfl (fun w hS => at_c lb ab cb rb y w (by omega) hy (hE.rdb.now hS)) ?_
      refine jG ?_
      refine WD.two (i := 12) (j := 13) (by kernel_rfl) rfl rfl ?_ ?_
      ·refine WL.alloc F.zero104 rfl (fun b14 => ?_)
       refine jG ?_
       refine jA 13 rfl ?_
       refine WL.alloc F.zero104 rfl (fun b15 => ?_)
       refine jG ?_
       refine jA 14 rfl ?_
       refine WL.storeN F.agg104 rfl rfl rfl jO jU jS ?_
       refine jG ?_
       refine jA 15 rfl ?_
       refine WL.storeN F.agg104 rfl rfl rfl jO jU jS ?_
       refine jG ?_
       refine jD ?_
       refine WQ.chunks (C' := [pt (b14, b15).1 [Value.int .i64 ((atD la x).1 : Int), .int .i64 ((atD la x).2.1 : Int), .int .i64 ((atD la x).2.2 : Int)] 104, pt (b14, b15).2 [Value.int .i64 ((atD lb y).1 : Int), .int .i64 ((atD lb y).2.1 : Int), .int .i64 ((atD lb y).2.2 : Int)] 104, pt b11 [Value.int .i64 (x : Int), .int .i64 (y : Int)] 243, mkr F1 bm l, mpg enc2 bs (fun q => (f q).map encI)]) (fun w hS => (jK hS)) ?_
       exact WQ.byCut (hQ (b14, b15)) ⟨rfl, rfl, rfl, rfl, rfl, rfl, rfl, trivial⟩
      ·refine WL.alloc F.zero104 rfl (fun b15 => ?_)
       refine jG ?_
       refine jA 12 rfl ?_
       refine WL.alloc F.zero104 rfl (fun b14 => ?_)
       refine jG ?_
       refine jA 14 rfl ?_
       refine WL.storeN F.agg104 rfl rfl rfl jO jU jS ?_
       refine jG ?_
       refine jA 15 rfl ?_
       refine WL.storeN F.agg104 rfl rfl rfl jO jU jS ?_
       refine jG ?_
       refine jD ?_
       refine WQ.chunks (C' := [pt (b14, b15).1 [Value.int .i64 ((atD la x).1 : Int), .int .i64 ((atD la x).2.1 : Int), .int .i64 ((atD la x).2.2 : Int)] 104, pt (b14, b15).2 [Value.int .i64 ((atD lb y).1 : Int), .int .i64 ((atD lb y).2.1 : Int), .int .i64 ((atD lb y).2.2 : Int)] 104, pt b11 [Value.int .i64 (x : Int), .int .i64 (y : Int)] 243, mkr F1 bm l, mpg enc2 bs (fun q => (f q).map encI)]) (fun w hS => (jK hS)) ?_
       exact WQ.byCut (hQ (b14, b15)) ⟨rfl, rfl, rfl, rfl, rfl, rfl, rfl, trivial⟩
     ·refine WL.alloc F.zero104 rfl (fun b14 => ?_)
      refine WD.on (closed_of (by kernel_rfl)) (fun w hS => Sx.gone rfl (Sx.keep (fun j v hv => hS.oldc (hE.ce (3 + j) v (by rw [Nat.add_comm]; rcases j with _ | _ | j <;> first | exact hv | simp at hv)) hE.ce') (Sx.none))) ?_
      refine WD.two (i := 11) (j := 13) (by kernel_rfl) rfl rfl ?_ ?_
      ·refine WL.callV F.fun176 rfl rfl (fun w hS => at_c lb ab cb rb y w (by omega) hy (hE.rdb.now hS)) ?_
       refine jG ?_
       refine jA 13 rfl ?_
       refine WL.alloc F.zero104 rfl (fun b15 => ?_)
       refine jG ?_
       refine jA 14 rfl ?_
       refine WL.storeN F.agg104 rfl rfl rfl jO jU jS ?_
       refine jG ?_
       refine jA 15 rfl ?_
       refine WL.storeN F.agg104 rfl rfl rfl jO jU jS ?_
       refine jG ?_
       refine jD ?_
       refine WQ.chunks (C' := [pt (b14, b15).1 [Value.int .i64 ((atD la x).1 : Int), .int .i64 ((atD la x).2.1 : Int), .int .i64 ((atD la x).2.2 : Int)] 104, pt (b14, b15).2 [Value.int .i64 ((atD lb y).1 : Int), .int .i64 ((atD lb y).2.1 : Int), .int .i64 ((atD lb y).2.2 : Int)] 104, pt b11 [Value.int .i64 (x : Int), .int .i64 (y : Int)] 243, mkr F1 bm l, mpg enc2 bs (fun q => (f q).map encI)]) (fun w hS => (jK hS)) ?_
       exact WQ.byCut (hQ (b14, b15)) ⟨rfl, rfl, rfl, rfl, rfl, rfl, rfl, trivial⟩
      ·refine WL.alloc F.zero104 rfl (fun b15 => ?_)
       refine WD.on (closed_of (by kernel_rfl)) (fun w hS => Sx.gone rfl (Sx.keep (fun j v hv => hS.oldc (hE.ce (3 + j) v (by rw [Nat.add_comm]; rcases j with _ | _ | j <;> first | exact hv | simp at hv)) hE.ce') (Sx.none))) ?_
       refine jA 11 rfl ?_
       refine WL.callV F.fun176 rfl rfl (fun w hS => at_c lb ab cb rb y w (by omega) hy (hE.rdb.now hS)) ?_
       refine jG ?_
       refine jA 14 rfl ?_
       refine WL.storeN F.agg104 rfl rfl rfl jO jU jS ?_
       refine jG ?_
       refine jA 15 rfl ?_
       refine WL.storeN F.agg104 rfl rfl rfl jO jU jS ?_
       refine jG ?_
       refine jD ?_
       refine WQ.chunks (C' := [pt (b14, b15).1 [Value.int .i64 ((atD la x).1 : Int), .int .i64 ((atD la x).2.1 : Int), .int .i64 ((atD la x).2.2 : Int)] 104, pt (b14, b15).2 [Value.int .i64 ((atD lb y).1 : Int), .int .i64 ((atD lb y).2.1 : Int), .int .i64 ((atD lb y).2.2 : Int)] 104, pt b11 [Value.int .i64 (x : Int), .int .i64 (y : Int)] 243, mkr F1 bm l, mpg enc2 bs (fun q => (f q).map encI)]) (fun w hS => (jK hS)) ?_
       exact WQ.byCut (hQ (b14, b15)) ⟨rfl, rfl, rfl, rfl, rfl, rfl, rfl, trivial⟩
     ·refine WL.alloc F.zero104 rfl (fun b15 => ?_)
      refine WD.on (closed_of (by kernel_rfl)) (fun w hS => Sx.gone rfl (Sx.keep (fun j v hv => hS.oldc (hE.ce (3 + j) v (by rw [Nat.add_comm]; rcases j with _ | _ | j <;> first | exact hv | simp at hv)) hE.ce') (Sx.none))) ?_
      refine WD.two (i := 11) (j := 12) (by kernel_rfl) rfl rfl ?_ ?_
      ·refine WL.callV F.fun176 rfl rfl (fun w hS => at_c lb ab cb rb y w (by omega) hy (hE.rdb.now hS)) ?_
       refine jG ?_
       refine jA 12 rfl ?_
       refine WL.alloc F.zero104 rfl (fun b14 => ?_)
       refine jG ?_
       refine jA 14 rfl ?_
       refine WL.storeN F.agg104 rfl rfl rfl jO jU jS ?_
       refine jG ?_
       refine jA 15 rfl ?_
       refine WL.storeN F.agg104 rfl rfl rfl jO jU jS ?_
       refine jG ?_
       refine jD ?_
       refine WQ.chunks (C' := [pt (b14, b15).1 [Value.int .i64 ((atD la x).1 : Int), .int .i64 ((atD la x).2.1 : Int), .int .i64 ((atD la x).2.2 : Int)] 104, pt (b14, b15).2 [Value.int .i64 ((atD lb y).1 : Int), .int .i64 ((atD lb y).2.1 : Int), .int .i64 ((atD lb y).2.2 : Int)] 104, pt b11 [Value.int .i64 (x : Int), .int .i64 (y : Int)] 243, mkr F1 bm l, mpg enc2 bs (fun q => (f q).map encI)]) (fun w hS => (jK hS)) ?_
       exact WQ.byCut (hQ (b14, b15)) ⟨rfl, rfl, rfl, rfl, rfl, rfl, rfl, trivial⟩
      ·refine WL.alloc F.zero104 rfl (fun b14 => ?_)
       refine WD.on (closed_of (by kernel_rfl)) (fun w hS => Sx.gone rfl (Sx.keep (fun j v hv => hS.oldc (hE.ce (3 + j) v (by rw [Nat.add_comm]; rcases j with _ | _ | j <;> first | exact hv | simp at hv)) hE.ce') (Sx.none))) ?_
       refine jA 11 rfl ?_
       refine WL.callV F.fun176 rfl rfl (fun w hS => at_c lb ab cb rb y w (by omega) hy (hE.rdb.now hS)) ?_
       refine jG ?_
       refine jA 14 rfl ?_
       refine WL.storeN F.agg104 rfl rfl rfl jO jU jS ?_
       refine jG ?_
       refine jA 15 rfl ?_
       refine WL.storeN F.agg104 rfl rfl rfl jO jU jS ?_
       refine jG ?_
       refine jD ?_
       refine WQ.chunks (C' := [pt (b14, b15).1 [Value.int .i64 ((atD la x).1 : Int), .int .i64 ((atD la x).2.1 : Int), .int .i64 ((atD la x).2.2 : Int)] 104, pt (b14, b15).2 [Value.int .i64 ((atD lb y).1 : Int), .int .i64 ((atD lb y).2.1 : Int), .int .i64 ((atD lb y).2.2 : Int)] 104, pt b11 [Value.int .i64 (x : Int), .int .i64 (y : Int)] 243, mkr F1 bm l, mpg enc2 bs (fun q => (f q).map encI)]) (fun w hS => (jK hS)) ?_
       exact WQ.byCut (hQ (b14, b15)) ⟨rfl, rfl, rfl, rfl, rfl, rfl, rfl, trivial⟩
    ·refine WL.alloc F.zero104 rfl (fun b14 => ?_)
     refine WD.on (closed_of (by kernel_rfl)) (fun w hS => Sx.keep (fun j v hv => hS.oldc (hE.ce (1 + j) v (by rw [Nat.add_comm]; rcases j with _ | _ | j <;> first | exact hv | simp at hv)) hE.ce') (Sx.keep (fun j v hv => hS.oldc (hE.ce (3 + j) v (by rw [Nat.add_comm]; rcases j with _ | _ | j <;> first | exact hv | simp at hv)) hE.ce') (Sx.none))) ?_
     refine WD.two (i := 5) (j := 13) (by kernel_rfl) rfl rfl ?_ ?_
     ·refine WL.callV F.fun176 rfl rfl (fun w hS => at_c la aa ca ra x w (by omega) hx (hE.rda.now hS)) ?_
      refine WD.on (closed_of (by kernel_rfl)) (fun w hS => Sx.gone rfl (Sx.keep (fun j v hv => hS.oldc (hE.ce (3 + j) v (by rw [Nat.add_comm]; rcases j with _ | _ | j <;> first | exact hv | simp at hv)) hE.ce') (Sx.none))) ?_
      refine WD.two (i := 11) (j := 13) (by kernel_rfl) rfl rfl ?_ ?_
      ·refine WL.callV F.fun176 rfl rfl (fun w hS => at_c lb ab cb rb y w (by omega) hy (hE.rdb.now hS)) ?_
       refine jG ?_
       refine jA 13 rfl ?_
       refine WL.alloc F.zero104 rfl (fun b15 => ?_)
       refine jG ?_
       refine jA 14 rfl ?_
       refine WL.storeN F.agg104 rfl rfl rfl jO jU jS ?_
       refine jG ?_
       refine jA 15 rfl ?_
       refine WL.storeN F.agg104 rfl rfl rfl jO jU jS ?_
       refine jG ?_
       refine jD ?_
       refine WQ.chunks (C' := [pt (b14, b15).1 [Value.int .i64 ((atD la x).1 : Int), .int .i64 ((atD la x).2.1 : Int), .int .i64 ((atD la x).2.2 : Int)] 104, pt (b14, b15).2 [Value.int .i64 ((atD lb y).1 : Int), .int .i64 ((atD lb y).2.1 : Int), .int .i64 ((atD lb y).2.2 : Int)] 104, pt b11 [Value.int .i64 (x : Int), .int .i64 (y : Int)] 243, mkr F1 bm l, mpg enc2 bs (fun q => (f q).map encI)]) (fun w hS => (jK hS)) ?_
       exact WQ.byCut (hQ (b14, b15)) ⟨rfl, rfl, rfl, rfl, rfl, rfl, rfl, trivial⟩
      ·refine WL.alloc F.zero104 rfl (fun b15 => ?_)
       refine WD.on (closed_of (by kernel_rfl)) (fun w hS => Sx.gone rfl (Sx.keep (fun j v hv => hS.oldc (hE.ce (3 + j) v (by rw [Nat.add_comm]; rcases j with _ | _ | j <;> first | exact hv | simp at hv)) hE.ce') (Sx.none))) ?_
       refine jA 11 rfl ?_
       refine WL.callV F.fun176 rfl rfl (fun w hS => at_c lb ab cb rb y w (by omega) hy (hE.rdb.now hS)) ?_
       refine jG ?_
       refine jA 14 rfl ?_
       refine WL.storeN F.agg104 rfl rfl rfl jO jU jS ?_
       refine jG ?_
       refine jA 15 rfl ?_
       refine WL.storeN F.agg104 rfl rfl rfl jO jU jS ?_
       refine jG ?_
       refine jD ?_
       refine WQ.chunks (C' := [pt (b14, b15).1 [Value.int .i64 ((atD la x).1 : Int), .int .i64 ((atD la x).2.1 : Int), .int .i64 ((atD la x).2.2 : Int)] 104, pt (b14, b15).2 [Value.int .i64 ((atD lb y).1 : Int), .int .i64 ((atD lb y).2.1 : Int), .int .i64 ((atD lb y).2.2 : Int)] 104, pt b11 [Value.int .i64 (x : Int), .int .i64 (y : Int)] 243, mkr F1 bm l, mpg enc2 bs (fun q => (f q).map encI)]) (fun w hS => (jK hS)) ?_
       exact WQ.byCut (hQ (b14, b15)) ⟨rfl, rfl, rfl, rfl, rfl, rfl, rfl, trivial⟩
     ·refine WL.alloc F.zero104 rfl (fun b15 => ?_)
      refine WD.on (closed_of (by kernel_rfl)) (fun w hS => Sx.keep (fun j v hv => hS.oldc (hE.ce (1 + j) v (by rw [Nat.add_comm]; rcases j with _ | _ | j <;> first | exact hv | simp at hv)) hE.ce') (Sx.keep (fun j v hv => hS.oldc (hE.ce (3 + j) v (by rw [Nat.add_comm]; rcases j with _ | _ | j <;> first | exact hv | simp at hv)) hE.ce') (Sx.none))) ?_
      refine jA 5 rfl ?_
      refine WL.callV F.fun176 rfl rfl (fun w hS => at_c la aa ca ra x w (by omega) hx (hE.rda.now hS)) ?_
      refine WD.on (closed_of (by kernel_rfl)) (fun w hS => Sx.gone rfl (Sx.keep (fun j v hv => hS.oldc (hE.ce (3 + j) v (by rw [Nat.add_comm]; rcases j with _ | _ | j <;> first | exact hv | simp at hv)) hE.ce') (Sx.none))) ?_
      refine jA 11 rfl ?_
      refine WL.callV F.fun176 rfl rfl (fun w hS => at_c lb ab cb rb y w (by omega) hy (hE.rdb.now hS)) ?_
      refine jG ?_
      refine jA 14 rfl ?_
      refine WL.storeN F.agg104 rfl rfl rfl jO jU jS ?_
      refine jG ?_
      refine jA 15 rfl ?_
      refine WL.storeN F.agg104 rfl rfl rfl jO jU jS ?_
      refine jG ?_
      refine jD ?_
      refine WQ.chunks (C' := [pt (b14, b15).1 [Value.int .i64 ((atD la x).1 : Int), .int .i64 ((atD la x).2.1 : Int), .int .i64 ((atD la x).2.2 : Int)] 104, pt (b14, b15).2 [Value.int .i64 ((atD lb y).1 : Int), .int .i64 ((atD lb y).2.1 : Int), .int .i64 ((atD lb y).2.2 : Int)] 104, pt b11 [Value.int .i64 (x : Int), .int .i64 (y : Int)] 243, mkr F1 bm l, mpg enc2 bs (fun q => (f q).map encI)]) (fun w hS => (jK hS)) ?_
      exact WQ.byCut (hQ (b14, b15)) ⟨rfl, rfl, rfl, rfl, rfl, rfl, rfl, trivial⟩
    ·refine WL.alloc F.zero104 rfl (fun b15 => ?_)
     refine WD.on (closed_of (by kernel_rfl)) (fun w hS => Sx.keep (fun j v hv => hS.oldc (hE.ce (1 + j) v (by rw [Nat.add_comm]; rcases j with _ | _ | j <;> first | exact hv | simp at hv)) hE.ce') (Sx.keep (fun j v hv => hS.oldc (hE.ce (3 + j) v (by rw [Nat.add_comm]; rcases j with _ | _ | j <;> first | exact hv | simp at hv)) hE.ce') (Sx.none))) ?_
     refine WD.two (i := 5) (j := 12) (by kernel_rfl) rfl rfl ?_ ?_
     ·refine WL.callV F.fun176 rfl rfl (fun w hS => at_c la aa ca ra x w (by omega) hx (hE.rda.now hS)) ?_
      refine WD.on (closed_of (by kernel_rfl)) (fun w hS => Sx.gone rfl (Sx.keep (fun j v hv => hS.oldc (hE.ce (3 + j) v (by rw [Nat.add_comm]; rcases j with _ | _ | j <;> first | exact hv | simp at hv)) hE.ce') (Sx.none))) ?_
      refine WD.two (i := 11) (j := 12) (by kernel_rfl) rfl rfl ?_ ?_
      ·refine WL.callV F.fun176 rfl rfl (fun w hS => at_c lb ab cb rb y w (by omega) hy (hE.rdb.now hS)) ?_
       refine jG ?_
       refine jA 12 rfl ?_
       refine WL.alloc F.zero104 rfl (fun b14 => ?_)
       refine jG ?_
       refine jA 14 rfl ?_
       refine WL.storeN F.agg104 rfl rfl rfl jO jU jS ?_
       refine jG ?_
       refine jA 15 rfl ?_
       refine WL.storeN F.agg104 rfl rfl rfl jO jU jS ?_
       refine jG ?_
       refine jD ?_
       refine WQ.chunks (C' := [pt (b14, b15).1 [Value.int .i64 ((atD la x).1 : Int), .int .i64 ((atD la x).2.1 : Int), .int .i64 ((atD la x).2.2 : Int)] 104, pt (b14, b15).2 [Value.int .i64 ((atD lb y).1 : Int), .int .i64 ((atD lb y).2.1 : Int), .int .i64 ((atD lb y).2.2 : Int)] 104, pt b11 [Value.int .i64 (x : Int), .int .i64 (y : Int)] 243, mkr F1 bm l, mpg enc2 bs (fun q => (f q).map encI)]) (fun w hS => (jK hS)) ?_
       exact WQ.byCut (hQ (b14, b15)) ⟨rfl, rfl, rfl, rfl, rfl, rfl, rfl, trivial⟩
      ·refine WL.alloc F.zero104 rfl (fun b14 => ?_)
       refine WD.on (closed_of (by kernel_rfl)) (fun w hS => Sx.gone rfl (Sx.keep (fun j v hv => hS.oldc (hE.ce (3 + j) v (by rw [Nat.add_comm]; rcases j with _ | _ | j <;> first | exact hv | simp at hv)) hE.ce') (Sx.none))) ?_
       refine jA 11 rfl ?_
       refine WL.callV F.fun176 rfl rfl (fun w hS => at_c lb ab cb rb y w (by omega) hy (hE.rdb.now hS)) ?_
       refine jG ?_
       refine jA 14 rfl ?_
       refine WL.storeN F.agg104 rfl rfl rfl jO jU jS ?_
       refine jG ?_
       refine jA 15 rfl ?_
       refine WL.storeN F.agg104 rfl rfl rfl jO jU jS ?_
       refine jG ?_
       refine jD ?_
       refine WQ.chunks (C' := [pt (b14, b15).1 [Value.int .i64 ((atD la x).1 : Int), .int .i64 ((atD la x).2.1 : Int), .int .i64 ((atD la x).2.2 : Int)] 104, pt (b14, b15).2 [Value.int .i64 ((atD lb y).1 : Int), .int .i64 ((atD lb y).2.1 : Int), .int .i64 ((atD lb y).2.2 : Int)] 104, pt b11 [Value.int .i64 (x : Int), .int .i64 (y : Int)] 243, mkr F1 bm l, mpg enc2 bs (fun q => (f q).map encI)]) (fun w hS => (jK hS)) ?_
       exact WQ.byCut (hQ (b14, b15)) ⟨rfl, rfl, rfl, rfl, rfl, rfl, rfl, trivial⟩
     ·refine WL.alloc F.zero104 rfl (fun b14 => ?_)
      refine WD.on (closed_of (by kernel_rfl)) (fun w hS => Sx.keep (fun j v hv => hS.oldc (hE.ce (1 + j) v (by rw [Nat.add_comm]; rcases j with _ | _ | j <;> first | exact hv | simp at hv)) hE.ce') (Sx.keep (fun j v hv => hS.oldc (hE.ce (3 + j) v (by rw [Nat.add_comm]; rcases j with _ | _ | j <;> first | exact hv | simp at hv)) hE.ce') (Sx.none))) ?_
      refine jA 5 rfl ?_
      refine WL.callV F.fun176 rfl rfl (fun w hS => at_c la aa ca ra x w (by omega) hx (hE.rda.now hS)) ?_
      refine WD.on (closed_of (by kernel_rfl)) (fun w hS => Sx.gone rfl (Sx.keep (fun j v hv => hS.oldc (hE.ce (3 + j) v (by rw [Nat.add_comm]; rcases j with _ | _ | j <;> first | exact hv | simp at hv)) hE.ce') (Sx.none))) ?_
      refine jA 11 rfl ?_
      refine WL.callV F.fun176 rfl rfl (fun w hS => at_c lb ab cb rb y w (by omega) hy (hE.rdb.now hS)) ?_
      refine jG ?_
      refine jA 14 rfl ?_
      refine WL.storeN F.agg104 rfl rfl rfl jO jU jS ?_
      refine jG ?_
      refine jA 15 rfl ?_
      refine WL.storeN F.agg104 rfl rfl rfl jO jU jS ?_
      refine jG ?_
      refine jD ?_
      refine WQ.chunks (C' := [pt (b14, b15).1 [Value.int .i64 ((atD la x).1 : Int), .int .i64 ((atD la x).2.1 : Int), .int .i64 ((atD la x).2.2 : Int)] 104, pt (b14, b15).2 [Value.int .i64 ((atD lb y).1 : Int), .int .i64 ((atD lb y).2.1 : Int), .int .i64 ((atD lb y).2.2 : Int)] 104, pt b11 [Value.int .i64 (x : Int), .int .i64 (y : Int)] 243, mkr F1 bm l, mpg enc2 bs (fun q => (f q).map encI)]) (fun w hS => (jK hS)) ?_
      exact WQ.byCut (hQ (b14, b15)) ⟨rfl, rfl, rfl, rfl, rfl, rfl, rfl, trivial⟩
   obtain ⟨b14, b15⟩ := xE
   show WQ _ _ _ _ _ _ [(0, pp bp), (1, .int .i64 (x : Int)), (2, .int .i64 (y : Int)), (3, Value.func (.func g) [].toArray [].toArray), (11, pp b11), (14, pp b14), (15, pp b15)] [pt b14 [Value.int .i64 ((atD la x).1 : Int), .int .i64 ((atD la x).2.1 : Int), .int .i64 ((atD la x).2.2 : Int)] 104, pt b15 [Value.int .i64 ((atD lb y).1 : Int), .int .i64 ((atD lb y).2.1 : Int), .int .i64 ((atD lb y).2.2 : Int)] 104, pt b11 [Value.int .i64 (x : Int), .int .i64 (y : Int)] 243, mkr F1 bm l, mpg enc2 bs (fun q => (f q).map encI)]
   obtain ⟨i, hi⟩ : ∃ i, i = min (atD la x).1 (atD lb y).1 := ⟨_, rfl⟩
   have hgo := hop.spec.go x y h28
   have hi24 : i < 24 := by
    rcases hgo with h | h
    ·have := atD_lt ha hx h; omega
    ·have := atD_lt hb hy h; omega
   have hmi : m ≤ i := by have e1 := atD_ok ha hx hox hm24; have e2 := atD_ok hb hy hoy hm24; omega
   obtain ⟨a1, a2, a3, a4, _, _, a7⟩ := half_at ha hx hox (i := i) (by omega) hi24
   obtain ⟨c1, c2, c3, c4, _, _, c7⟩ := half_at hb hy hoy (i := i) (by omega) hi24
   have hp2 : 2 ^ (24 - (i + 1)) + 2 ^ (24 - (i + 1)) ≤ 2 ^ (24 - m) := by (have e1 : 2 ^ (24 - i) = 2 ^ (24 - (i + 1)) * 2 := by (rw [← Nat.pow_succ]; congr 1; omega)); (have e2 : 2 ^ (24 - i) ≤ 2 ^ (24 - m) := Nat.pow_le_pow_right (by decide) (by omega)); omega
   refine jN 12 ?_
   refine WL.minI (r := (i : Int)) rfl rfl rfl (by (split) <;> omega) ?_
   refine jN 11 ?_
   refine WL.buildA F.arT243 rfl jB rfl ?_
   refine jN 5 ?_
   refine WL.buildA F.arT243 rfl jB rfl ?_
   refine jN 1 ?_
   refine WL.alloc F.zero243 rfl (fun b17 => ?_)
   refine jN 1 ?_
   refine WL.alloc F.zero243 rfl (fun b18 => ?_)
   refine jN 19 ?_
   refine WC.cutQ ([(0, pp bp), (1, .int .i64 (x : Int)), (2, .int .i64 (y : Int)), (3, Value.func (.func g) [].toArray [].toArray), (11, pp b11), (14, pp b14), (15, pp b15), (16, .int .i64 (i : Int)), (17, pp b17), (18, pp b18)]) ([pt b17 [.int .i64 (loP la x i : Int), .int .i64 (y : Int)] 243, pt b18 [.int .i64 (hiP la x i : Int), .int .i64 (y : Int)] 243, pt b15 [Value.int .i64 ((atD lb y).1 : Int), .int .i64 ((atD lb y).2.1 : Int), .int .i64 ((atD lb y).2.2 : Int)] 104, pt b11 [Value.int .i64 (x : Int), .int .i64 (y : Int)] 243, mkr F1 bm l, mpg enc2 bs (fun q => (f q).map encI)]) (fun c a d v w h => by cases d <;> exact h) (fun Q' hP hQ => ?_) ?_
   ·refine WC.cond rfl (fun h70 => ?_) (fun h70 => ?_)
    ·have h70n : (atD la x).1 = i := by simp at h70; omega
     have e70 : loP la x i = (atD la x).2.1 ∧ hiP la x i = (atD la x).2.2 := by unfold loP hiP; rw [if_pos h70n, if_pos h70n]; exact ⟨rfl, rfl⟩
     refine WC.drawsL (by kernel_rfl) (FactsOk.cons (ds := [5, 7]) (LoadOk.one (t := 14) (off := 1) rfl jM rfl) (FactsOk.cons (ds := [7]) (LoadOk.one (t := 14) (off := 2) rfl jM rfl) (FactsOk.nil))) ?_
     refine jT 0 rfl (Yl.fieldAddr0 F.fld104_1 rfl) ?_
     refine jF 1 0 rfl rfl (Yl.load1 F.one3 rfl) ?_
     refine jT 2 rfl (Yl.fieldAddr0 F.fld104_2 rfl) ?_
     refine jF 3 1 rfl rfl (Yl.load1 F.one3 rfl) ?_
     refine jT 4 rfl (Yl.indexAddrA (i := 0) F.arT243 rfl rfl (by decide)) ?_
     refine jA 5 rfl ?_
     refine WL.store1 F.one3 rfl rfl rfl jU jS ?_
     refine WD.on (closed_of (by kernel_rfl)) (fun w hS => Sx.gone rfl (Sx.keep (hS.cell jM rfl) (Sx.none))) ?_
     refine jT 6 rfl (Yl.indexAddrA (i := 0) F.arT243 rfl rfl (by decide)) ?_
     refine jA 7 rfl ?_
     refine WL.store1 F.one3 rfl rfl rfl jU jS ?_
     refine jG ?_
     refine jD ?_
     refine WQ.chunks (C' := [pt b17 [.int .i64 (loP la x i : Int), .int .i64 (y : Int)] 243, pt b18 [.int .i64 (hiP la x i : Int), .int .i64 (y : Int)] 243, pt b15 [Value.int .i64 ((atD lb y).1 : Int), .int .i64 ((atD lb y).2.1 : Int), .int .i64 ((atD lb y).2.2 : Int)] 104, pt b11 [Value.int .i64 (x : Int), .int .i64 (y : Int)] 243, mkr F1 bm l, mpg enc2 bs (fun q => (f q).map encI)]) (fun w hS => ?_) (WQ.byCut hQ ⟨rfl, rfl, rfl, rfl, rfl, rfl, rfl, rfl, rfl, rfl, trivial⟩)
     rw [e70.1, e70.2]
     first | exact (jK hS) | exact (jK hS)
    ·have h70n : ¬ (atD la x).1 = i := by simp at h70; omega
     have e70 : loP la x i = x ∧ hiP la x i = x := by unfold loP hiP; rw [if_neg h70n, if_neg h70n]; exact ⟨rfl, rfl⟩
     refine jN 1 ?_
     refine WQ.chunks (C' := [pt b17 [.int .i64 (loP la x i : Int), .int .i64 (y : Int)] 243, pt b18 [.int .i64 (hiP la x i : Int), .int .i64 (y : Int)] 243, pt b15 [Value.int .i64 ((atD lb y).1 : Int), .int .i64 ((atD lb y).2.1 : Int), .int .i64 ((atD lb y).2.2 : Int)] 104, pt b11 [Value.int .i64 (x : Int), .int .i64 (y : Int)] 243, mkr F1 bm l, mpg enc2 bs (fun q => (f q).map encI)]) (fun w hS => ?_) (WQ.byCut hQ ⟨rfl, rfl, rfl, rfl, rfl, rfl, rfl, rfl, rfl, rfl, trivial⟩)
     rw [e70.1, e70.2]
     first | exact (jK hS) | exact (jK hS)
   refine jN 14 ?_
   refine WC.cutQ ([(0, pp bp), (3, Value.func (.func g) [].toArray [].toArray), (11, pp b11), (14, pp b14), (15, pp b15), (16, .int .i64 (i : Int)), (17, pp b17), (18, pp b18)]) ([pt b17 [.int .i64 (loP la x i : Int), .int .i64 (loP lb y i : Int)] 243, pt b18 [.int .i64 (hiP la x i : Int), .int .i64 (hiP lb y i : Int)] 243, pt b11 [Value.int .i64 (x : Int), .int .i64 (y : Int)] 243, mkr F1 bm l, mpg enc2 bs (fun q => (f q).map encI)]) (fun c a d v w h => by cases d <;> exact h) (fun Q' hP hQ => ?_) ?_
   ·refine WC.cond rfl (fun h80 => ?_) (fun h80 => ?_)
    ·have h80n : (atD lb y).1 = i := by simp at h80; omega
     have e80 : loP lb y i = (atD lb y).2.1 ∧ hiP lb y i = (atD lb y).2.2 := by unfold loP hiP; rw [if_pos h80n, if_pos h80n]; exact ⟨rfl, rfl⟩
     refine WC.drawsL (by kernel_rfl) (FactsOk.cons (ds := [5, 7]) (LoadOk.one (t := 15) (off := 1) rfl jM rfl) (FactsOk.cons (ds := [7]) (LoadOk.one (t := 15) (off := 2) rfl jM rfl) (FactsOk.nil))) ?_
     refine jT 0 rfl (Yl.fieldAddr0 F.fld104_1 rfl) ?_
     refine jF 1 0 rfl rfl (Yl.load1 F.one3 rfl) ?_
     refine jT 2 rfl (Yl.fieldAddr0 F.fld104_2 rfl) ?_
     refine jF 3 1 rfl rfl (Yl.load1 F.one3 rfl) ?_
     refine jT 4 rfl (Yl.indexAddrA (i := 1) F.arT243 rfl rfl (by decide)) ?_
     refine jA 5 rfl ?_
     refine WL.store1 F.one3 rfl rfl rfl jU jS ?_
     refine WD.on (closed_of (by kernel_rfl)) (fun w hS => Sx.gone rfl (Sx.keep (hS.cell jM rfl) (Sx.none))) ?_
     refine jT 6 rfl (Yl.indexAddrA (i := 1) F.arT243 rfl rfl (by decide)) ?_
     refine jA 7 rfl ?_
     refine WL.store1 F.one3 rfl rfl rfl jU jS ?_
     refine jG ?_
     refine jD ?_
     refine WQ.chunks (C' := [pt b17 [.int .i64 (loP la x i : Int), .int .i64 (loP lb y i : Int)] 243, pt b18 [.int .i64 (hiP la x i : Int), .int .i64 (hiP lb y i : Int)] 243, pt b11 [Value.int .i64 (x : Int), .int .i64 (y : Int)] 243, mkr F1 bm l, mpg enc2 bs (fun q => (f q).map encI)]) (fun w hS => ?_) (WQ.byCut hQ ⟨rfl, rfl, rfl, rfl, rfl, rfl, rfl, rfl, trivial⟩)
     rw [e80.1, e80.2]
     first | exact (jK hS) | exact (jK hS)
    ·have h80n : ¬ (atD lb y).1 = i := by simp at h80; omega
     have e80 : loP lb y i = y ∧ hiP lb y i = y := by unfold loP hiP; rw [if_neg h80n, if_neg h80n]; exact ⟨rfl, rfl⟩
     refine jN 1 ?_
     refine WQ.chunks (C' := [pt b17 [.int .i64 (loP la x i : Int), .int .i64 (loP lb y i : Int)] 243, pt b18 [.int .i64 (hiP la x i : Int), .int .i64 (hiP lb y i : Int)] 243, pt b11 [Value.int .i64 (x : Int), .int .i64 (y : Int)] 243, mkr F1 bm l, mpg enc2 bs (fun q => (f q).map encI)]) (fun w hS => ?_) (WQ.byCut hQ ⟨rfl, rfl, rfl, rfl, rfl, rfl, rfl, rfl, trivial⟩)
     rw [e80.1, e80.2]
     first | exact (jK hS) | exact (jK hS)
   refine jN 6 ?_
   refine WL.indexAddrA (i := 0) F.arT243 rfl rfl rfl (by decide) ?_
   refine jN 3 ?_
   refine WL.indexAddrA (i := 1) F.arT243 rfl rfl rfl (by decide) ?_
   refine jN 4 ?_
   refine WA.chunks (C' := [jns (F1 ++ ([bs] ++ [])) bm bs l f, pt b17 [.int .i64 (loP la x i : Int), .int .i64 (loP lb y i : Int)] 243, pt b18 [.int .i64 (hiP la x i : Int), .int .i64 (hiP lb y i : Int)] 243, pt b11 [Value.int .i64 (x : Int), .int .i64 (y : Int)] 243]) (fun w hS => St.jnsClose (jK hS)) ?_
   refine jN 1 ?_
   refine WL.callC (β := { z : JT // JPost bop la lb l (i + 1) (loP la x i) (loP lb y i) z }) (res := fun z => .int .i64 (z.1.2.2.2 : Int)) (cs := fun z => [jns z.1.1 bm bs z.1.2.1 z.1.2.2.1]) (Cs := [jns (F1 ++ ([bs] ++ [])) bm bs l f]) (C1 := [pt b17 [.int .i64 (loP la x i : Int), .int .i64 (loP lb y i : Int)] 243, pt b18 [.int .i64 (hiP la x i : Int), .int .i64 (hiP lb y i : Int)] 243, pt b11 [Value.int .i64 (x : Int), .int .i64 (y : Int)] 243]) (O' := (F1 ++ ([bs] ++ []))) F.fun163 (fun d h => by cases h; rfl) rfl (List.Perm.refl _) bun_O1 bun_O2 (fun w hS hS2 => hrec (i + 1) (by omega) (by omega) (F1 ++ ([bs] ++ [])) l f (loP la x i) (loP lb y i) w a1 c1 a3 c3 hm hsn (by omega) (hE.next hS) hS2) (fun ⟨z1, hz1⟩ => ?_)
   obtain ⟨G1, l1, f1, p1⟩ := z1
   obtain ⟨j1, j2, j3, j4, j5⟩ := hz1
   dsimp only at j1 j2 j3 j4 j5 ⊢
   refine jN 5 ?_
   refine WC.drawsL (by kernel_rfl) (FactsOk.cons (ds := [13]) (LoadOk.by (Y := fun w => w.cell? ⟨bp, 0, none⟩ = some (pp bm)) (fun w hS => hS.oldc (hE.ce 0 _ rfl) hE.ce')) (FactsOk.cons (ds := [12, 13]) (LoadOk.by (Y := fun w => w.cell? ⟨b18, 0 + 0 * 1, none⟩ = some (.int .i64 (hiP la x i : Int))) (fun w hS => hS.cell (cs := [.int .i64 (hiP la x i : Int), .int .i64 (hiP lb y i : Int)]) jM rfl)) (FactsOk.cons (ds := [12, 13]) (LoadOk.by (Y := fun w => w.cell? ⟨b18, 0 + 1 * 1, none⟩ = some (.int .i64 (hiP lb y i : Int))) (fun w hS => hS.cell (cs := [.int .i64 (hiP la x i : Int), .int .i64 (hiP lb y i : Int)]) jM rfl)) (FactsOk.nil)))) ?_
   refine jT 0 rfl (Yl.move rfl) ?_
   refine jT 1 rfl (Yl.nilCheck rfl) ?_
   refine jT 2 rfl (Yl.fieldAddr0 F.fld223_0 rfl) ?_
   refine jF 3 0 rfl rfl (Yl.load1 F.one200 rfl) ?_
   refine jT 4 rfl (Yl.move rfl) ?_
   refine jT 5 rfl (Yl.move rfl) ?_
   refine jT 6 rfl (Yl.move rfl) ?_
   refine jT 7 rfl (Yl.indexAddrA (i := 0) F.arT243 rfl rfl (by decide)) ?_
   refine jF 8 1 rfl rfl (Yl.load1 F.one3 rfl) ?_
   refine jT 9 rfl (Yl.indexAddrA (i := 1) F.arT243 rfl rfl (by decide)) ?_
   refine jF 10 2 rfl rfl (Yl.load1 F.one3 rfl) ?_
   refine jT 11 rfl (Yl.move rfl) ?_
   refine jA 12 rfl ?_
   refine WL.callC (β := { z : JT // JPost bop la lb l1 (i + 1) (hiP la x i) (hiP lb y i) z }) (res := fun z => .int .i64 (z.1.2.2.2 : Int)) (cs := fun z => [jns z.1.1 bm bs z.1.2.1 z.1.2.2.1]) (Cs := [jns G1 bm bs l1 f1]) (C1 := [pt b17 [.int .i64 (loP la x i : Int), .int .i64 (loP lb y i : Int)] 243, pt b18 [.int .i64 (hiP la x i : Int), .int .i64 (hiP lb y i : Int)] 243, pt b11 [Value.int .i64 (x : Int), .int .i64 (y : Int)] 243]) (O' := G1) F.fun163 (fun d h => by cases h; rfl) rfl (List.Perm.refl _) bun_O1 bun_O2 (fun w hS hS2 => hrec (i + 1) (by omega) (by omega) G1 l1 f1 (hiP la x i) (hiP lb y i) w a2 c2 a4 c4 j1 j5 (by omega) (hE.next hS) hS2) (fun ⟨z2, hz2⟩ => ?_)
   refine WD.on (closed_of (by kernel_rfl)) (fun w hS => Sx.keep (hS.oldc (hE.ce 0 _ rfl) hE.ce') (Sx.gone rfl (Sx.gone rfl (Sx.none)))) ?_
   obtain ⟨G2, l2, f2, p2⟩ := z2
   obtain ⟨k1, k2, k3, k4, k5⟩ := hz2
   dsimp only at k1 k2 k3 k4 k5 ⊢
   refine jA 13 rfl ?_
   refine WA.openB (fun G3 _ _ _ => ?_)
   simp only [jnCs, List.cons_append, List.nil_append]
   refine WL.callC (β := { z : List Nat × List Dec × Nat // MadeN l2 z.2.1 z.2.2 (mkN i (trs l2 p1) (trs l2 p2)) ∧ z.2.1.length ≤ l2.length + 1 }) (res := fun z => .int .i64 (z.1.2.2 : Int)) (cs := fun z => [mkr z.1.1 bm z.1.2.1]) (Cs := [mkr G3 bm l2]) (C1 := [mpg enc2 bs (fun q => (f2 q).map encI), pt b17 [.int .i64 (loP la x i : Int), .int .i64 (loP lb y i : Int)] 243, pt b18 [.int .i64 (hiP la x i : Int), .int .i64 (hiP lb y i : Int)] 243, pt b11 [Value.int .i64 (x : Int), .int .i64 (y : Int)] 243]) (O' := G3) F.fun149 (fun d h => by cases h; rfl) rfl (List.Perm.refl _) bun_O1 bun_O2 (fun w hS hS2 => mnode_c G3 bm l2 i p1 p2 w hi24 k1 (j4.ext k2).lt k4.lt (by omega) hS2) (fun ⟨z3, hz3, hz3l⟩ => ?_)
   refine jG ?_
   obtain ⟨G4, l3, r3⟩ := z3
   dsimp only at hz3 hz3l ⊢
   refine jT 14 rfl (Yl.assign rfl) ?_
   refine jD ?_
   refine jN 2 ?_
   refine WC.drawsL (by kernel_rfl) (FactsOk.cons (ds := [6]) (LoadOk.by (Y := fun w => w.cell? ⟨bp, 5, none⟩ = some (.map (some bs))) (fun w hS => hS.oldc (hE.ce 5 _ rfl) hE.ce')) (FactsOk.cons (ds := [6]) (LoadOk.whole (t := 11) rfl jM) (FactsOk.nil))) ?_
   refine jT 0 rfl (Yl.move rfl) ?_
   refine jT 1 rfl (Yl.nilCheck rfl) ?_
   refine jT 2 rfl (Yl.fieldAddr0 F.fld223_3 rfl) ?_
   refine jF 3 0 rfl rfl (Yl.load1 F.one221 rfl) ?_
   refine jF 4 1 rfl rfl (Yl.loadN F.agg243 rfl rfl) ?_
   refine jT 5 rfl (Yl.move rfl) ?_
   refine jA 6 rfl ?_
   refine WL.mapPutG (f := fun q => (f2 q).map encI) (x, y) undMP keyPair rfl rfl rfl rfl jU ?_
   refine jG ?_
   refine jD ?_
   refine jN 10 ?_
   have hjr := JR.node ha hb hx hy hox hoy hi hi24 j4 k4 k2 hz3
   have hpre : ∃ t, l3 = l ++ t := by (obtain ⟨t1, e1⟩ := j2; obtain ⟨t2, e2⟩ := k2; obtain ⟨t3, e3⟩ := hz3.pre; exact ⟨t1 ++ t2 ++ t3, by rw [e3, e2, e1]; simp⟩)
   refine WQ.ret (rs := [.tmp 8]) rfl (.tmp rfl .nil) (fun w hS => ⟨⟨(G4 ++ ([bs] ++ []), l3, fun q => if q = (x, y) then some r3 else f2 q, r3), ⟨hz3.ismk, hpre, by dsimp only; omega, hjr, (k5.ext hz3.pre).put hjr⟩⟩, rfl, ?_⟩)
   refine St.jnsClose (F1 := G4) ?_
   rw [← pair_map (z := (r3 : Int)) rfl]
   exact (jK hS)
  ·refine WC.drawsL (by kernel_rfl) (FactsOk.cons (ds := []) (LoadOk.by (Y := fun w => w.cell? ⟨bp, 5, none⟩ = some (.map (some bs))) (fun w hS => hS.oldc (hE.ce 5 _ rfl) hE.ce')) (FactsOk.cons (ds := []) (LoadOk.whole (t := 11) rfl jM) (FactsOk.cons (ds := []) (LoadOk.by (Y := fun w => (mpg enc2 bs (fun q => (f q).map encI)).ok w) (fun w hS => hS.ok _ jM)) (FactsOk.nil)))) ?_
   refine jT 0 rfl (Yl.move rfl) ?_
   refine jT 1 rfl (Yl.nilCheck rfl) ?_
   refine jT 2 rfl (Yl.fieldAddr0 F.fld223_3 rfl) ?_
   refine jF 3 0 rfl rfl (Yl.load1 F.one221 rfl) ?_
   refine jF 4 1 rfl rfl (Yl.loadN F.agg243 rfl rfl) ?_
   refine jF 5 2 rfl rfl (Yl.lookupHit (f := fun q => (f q).map encI) (v := encI r) (x, y) undMP keyPair zeroInt rfl rfl rfl (by rw [hf]; rfl)) ?_
   refine jT 6 rfl (Yl.move rfl) ?_
   refine jT 7 rfl (Yl.extract rfl rfl) ?_
   refine jT 8 rfl (Yl.extract rfl rfl) ?_
   refine jT 9 rfl (Yl.assign rfl) ?_
   refine jT 10 rfl (Yl.assign rfl) ?_
   refine jD ?_
   refine jN 18 ?_
   refine WQ.ret (rs := [.tmp 8]) rfl (.tmp rfl .nil) (fun w hS => ⟨⟨(_, l, f, r), ⟨hm, ⟨[], by simp⟩, hpow, hsn x y r hf, hsn⟩⟩, rfl, St.jnsClose (jK hS)⟩)

end Go.Proofs.YtkgllhkhdjodeaaGreat

/-
 What an operation on diagrams yields.
-/
namespace Go.Proofs.YtkgllhkhdjodeaaGreat
open Go Go.Eng Go.Proofs Dg
/-- A diagram of the function f, made anew. -/
abbrev DRes (f : Cf → Bool) : Type := { z : BT × Option Addr × Nat // z.1.ok 0 ∧ ∀ c, z.1.ev c = f c }
abbrev DRes.v {f : Cf → Bool} (z : DRes f) : Value := dval z.1.1 z.1.2.1 z.1.2.2
abbrev DRes.ch {f : Cf → Bool} (z : DRes f) : Chunk := dC z.1.2.1 z.1.2.2 z.1.1
def DPost (f : Cf → Bool) (w : World) (e : Ending) (w' : World) : Prop := ∃ z : DRes f, e = .returned z.v ∧ St w [] [z.ch] w'
theorem DRes.rd {f : Cf → Bool} (z : DRes f) {w0 w : World} {O : List Nat} {C : List Chunk} (hS : St w0 O C w) (hm : z.ch ∈ C) : RdD w z.1.1 z.1.2.1 := RdD.of_row z.2.1 (hS.ok _ hm)
theorem jenv_of {w0 w : World} {C : List Chunk} {F : List Nat} {bp bm bs ca cb ra rb : Nat} {la lb l : List Dec} {aa ab : Option Addr} {f : Nat × Nat → Option Nat} {e : TypeId}
  (hS : St w0 [] (jns F bm bs l f :: pt bp [pp bm, .slice aa la.length ca, .int .i64 (ra : Int), .slice ab lb.length cb, .int .i64 (rb : Int), .map (some bs)] e :: C) w) (hra : RdDec w0 la aa) (hrb : RdDec w0 lb ab) : JEnv w F bp bm bs la lb aa ab ca cb ra rb := by
 have hd := (List.pairwise_cons.1 hS.disj).1
 have hnew : ∀ b, b < w0.heap.size → b ∉ F := fun b hb hF => by
  have := (hS.bnd _ (List.mem_cons_self ..) b hF).2 hb
  simp at this
 refine ⟨fun j v hv => hS.cell (List.mem_cons_of_mem _ (List.mem_cons_self ..)) hv, fun hF => hd _ (List.mem_cons_self ..) bp hF rfl, fun j u hu => ?_, fun j u hu => ?_⟩
 ·obtain ⟨b, off, e1, e2⟩ := hra j u hu
  exact ⟨b, off, e1, hS.oldc e2 (by simp), hnew b (World.block_lt_of_cell? w0 _ e2)⟩
 ·obtain ⟨b, off, e1, e2⟩ := hrb j u hu
  exact ⟨b, off, e1, hS.oldc e2 (by simp), hnew b (World.block_lt_of_cell? w0 _ e2)⟩
end Go.Proofs.YtkgllhkhdjodeaaGreat

namespace Go.Proofs.YtkgllhkhdjodeaaGreat
open Go Go.Eng Go.Proofs Dg
theorem dwith_c (g : Nat) (bop : Bool → Bool → Bool) (opf : Nat → Nat → Nat × Bool) (hop : OpOk g bop opf) (s t : BT) (aa ab : Option Addr) (ca cb : Nat) (w : World) (hs : RdD w s aa) (ht : RdD w t ab) :
  Calls Tryz.prog 129 [dval s aa ca, dval t ab cb, Value.func (.func g) [].toArray [].toArray].toArray w (DPost (fun c => bop (s.ev c) (t.ev c)) w) := by
 refine enter Tryz.func129 rfl Tryz.ntmps129 rfl (St.init _) ?_
 refine jN 3 ?_
 refine WL.boxN rfl rfl (fun b3 => ?_)
 refine jN 1 ?_
 refine WL.boxN rfl rfl (fun b4 => ?_)
 refine jN 1 ?_
 refine WL.alloc F.zero35 rfl (fun b6 => ?_)
 refine jN 3 ?_
 refine WC.cutPE (α := Nat × Nat × Nat × List Nat) (fun x => [(7, pp x.1), (2, Value.func (.func g) [].toArray [].toArray), (3, pp b3), (4, pp b4), (6, pp b6)]) (fun x => [pt x.1 [pp x.2.1, .slice aa (canon s).1.length ca, .int .i64 ((canon s).2 : Int), .slice ab (canon t).1.length cb, .int .i64 ((canon t).2 : Int), .map (some x.2.2.1)] 223, mkr x.2.2.2 x.2.1 [], mpg enc2 x.2.2.1 (fun _ => none), pt b3 [.slice aa (canon s).1.length ca, .int .i64 ((canon s).2 : Int)] 35, pt b4 [.slice ab (canon t).1.length cb, .int .i64 ((canon t).2 : Int)] 35, pt b6 [.slice none 0 0, .int .i64 0] 35]) (fun c a d v w h => by cases d <;> exact h) (fun Q' hP hQ => ?_) (fun xE => ?_)
 ·refine WC.drawsL (by kernel_rfl) (FactsOk.cons (ds := [5]) (LoadOk.whole (t := 3) rfl jM) (FactsOk.cons (ds := [5]) (LoadOk.whole (t := 4) rfl jM) (FactsOk.nil))) ?_
  refine jF 1 0 rfl rfl (Yl.loadN F.agg35 rfl rfl) ?_
  refine jF 2 1 rfl rfl (Yl.loadN F.agg35 rfl rfl) ?_
  refine WD.two (i := 0) (j := 3) (by kernel_rfl) rfl rfl ?_ ?_
  ·refine WL.call0 (β := List Nat × Nat) (res := fun x => .returned (pp x.2)) (cs := fun x => [mkr x.1 x.2 []]) (ψ := fun _ => True) F.fun147 (fun d h => by cases h; rfl) rfl (fun w hS => (newMaker_c w).mono (fun e w2 ⟨x, h1, h2⟩ => ⟨x, trivial, h1, h2⟩)) (fun x8 _ => ?_)
   refine WD.on (closed_of (by kernel_rfl)) (fun w hS => Sx.keep ((fun j v hv => by rw [Nat.zero_add]; exact hS.cell jM hv)) (Sx.keep ((fun j v hv => by rw [Nat.zero_add]; exact hS.cell jM hv)) (Sx.none))) ?_
   refine jA 3 rfl ?_
   refine WL.makeMapG enc2 rfl (fun b11 => ?_)
   refine WD.on (closed_of (by kernel_rfl)) (fun w hS => Sx.keep ((fun j v hv => by rw [Nat.zero_add]; exact hS.cell jM hv)) (Sx.keep ((fun j v hv => by rw [Nat.zero_add]; exact hS.cell jM hv)) (Sx.none))) ?_
   refine jT 4 rfl (Yl.build F.stT223 rfl jB) ?_
   refine jA 5 rfl ?_
   refine WL.boxN rfl rfl (fun b13 => ?_)
   refine jG ?_
   refine jT 6 rfl (Yl.assign rfl) ?_
   refine jD ?_
   refine WQ.chunks (C' := [pt b13 [pp x8.2, .slice aa (canon s).1.length ca, .int .i64 ((canon s).2 : Int), .slice ab (canon t).1.length cb, .int .i64 ((canon t).2 : Int), .map (some b11)] 223, mkr x8.1 x8.2 [], mpg enc2 b11 (fun _ => none), pt b3 [.slice aa (canon s).1.length ca, .int .i64 ((canon s).2 : Int)] 35, pt b4 [.slice ab (canon t).1.length cb, .int .i64 ((canon t).2 : Int)] 35, pt b6 [.slice none 0 0, .int .i64 0] 35]) (fun w hS => (jK hS)) ?_
   exact WQ.byCut (hQ (b13, x8.2, b11, x8.1)) ⟨rfl, rfl, rfl, rfl, rfl, trivial⟩
  ·refine WL.makeMapG enc2 rfl (fun b11 => ?_)
   refine WD.on (closed_of (by kernel_rfl)) (fun w hS => Sx.keep ((fun j v hv => by rw [Nat.zero_add]; exact hS.cell jM hv)) (Sx.keep ((fun j v hv => by rw [Nat.zero_add]; exact hS.cell jM hv)) (Sx.none))) ?_
   refine jA 0 rfl ?_
   refine WL.call0 (β := List Nat × Nat) (res := fun x => .returned (pp x.2)) (cs := fun x => [mkr x.1 x.2 []]) (ψ := fun _ => True) F.fun147 (fun d h => by cases h; rfl) rfl (fun w hS => (newMaker_c w).mono (fun e w2 ⟨x, h1, h2⟩ => ⟨x, trivial, h1, h2⟩)) (fun x8 _ => ?_)
   refine WD.on (closed_of (by kernel_rfl)) (fun w hS => Sx.keep ((fun j v hv => by rw [Nat.zero_add]; exact hS.cell jM hv)) (Sx.keep ((fun j v hv => by rw [Nat.zero_add]; exact hS.cell jM hv)) (Sx.none))) ?_
   refine jT 4 rfl (Yl.build F.stT223 rfl jB) ?_
   refine jA 5 rfl ?_
   refine WL.boxN rfl rfl (fun b13 => ?_)
   refine jG ?_
   refine jT 6 rfl (Yl.assign rfl) ?_
   refine jD ?_
   refine WQ.chunks (C' := [pt b13 [pp x8.2, .slice aa (canon s).1.length ca, .int .i64 ((canon s).2 : Int), .slice ab (canon t).1.length cb, .int .i64 ((canon t).2 : Int), .map (some b11)] 223, mkr x8.1 x8.2 [], mpg enc2 b11 (fun _ => none), pt b3 [.slice aa (canon s).1.length ca, .int .i64 ((canon s).2 : Int)] 35, pt b4 [.slice ab (canon t).1.length cb, .int .i64 ((canon t).2 : Int)] 35, pt b6 [.slice none 0 0, .int .i64 0] 35]) (fun w hS => (jK hS)) ?_
   exact WQ.byCut (hQ (b13, x8.2, b11, x8.1)) ⟨rfl, rfl, rfl, rfl, rfl, trivial⟩
 obtain ⟨bp, bm, bs, F1⟩ := xE
 show WQ _ _ _ _ _ _ [(7, pp bp), (2, Value.func (.func g) [].toArray [].toArray), (3, pp b3), (4, pp b4), (6, pp b6)] [pt bp [pp bm, .slice aa (canon s).1.length ca, .int .i64 ((canon s).2 : Int), .slice ab (canon t).1.length cb, .int .i64 ((canon t).2 : Int), .map (some bs)] 223, mkr F1 bm [], mpg enc2 bs (fun _ => none), pt b3 [.slice aa (canon s).1.length ca, .int .i64 ((canon s).2 : Int)] 35, pt b4 [.slice ab (canon t).1.length cb, .int .i64 ((canon t).2 : Int)] 35, pt b6 [.slice none 0 0, .int .i64 0] 35]
 refine jN 2 ?_
 refine WC.chunks (C' := [jns (F1 ++ ([bs] ++ [])) bm bs [] (fun _ => none), pt bp [pp bm, .slice aa (canon s).1.length ca, .int .i64 ((canon s).2 : Int), .slice ab (canon t).1.length cb, .int .i64 ((canon t).2 : Int), .map (some bs)] 223, pt b3 [.slice aa (canon s).1.length ca, .int .i64 ((canon s).2 : Int)] 35, pt b4 [.slice ab (canon t).1.length cb, .int .i64 ((canon t).2 : Int)] 35, pt b6 [.slice none 0 0, .int .i64 0] 35]) (fun w hS => St.jnsClose (f := fun _ => none) (jK hS)) ?_
 ·refine WC.drawsL (by kernel_rfl) (FactsOk.cons (ds := [11, 12]) (LoadOk.one (t := 7) (off := 0) rfl jM rfl) (FactsOk.cons (ds := [10, 11, 12]) (LoadOk.one (t := 3) (off := 1) rfl jM rfl) (FactsOk.cons (ds := [10, 11, 12]) (LoadOk.one (t := 4) (off := 1) rfl jM rfl) (FactsOk.nil)))) ?_
  refine jT 0 rfl (Yl.move rfl) ?_
  refine jT 1 rfl (Yl.nilCheck rfl) ?_
  refine jT 2 rfl (Yl.fieldAddr0 F.fld223_0 rfl) ?_
  refine jF 3 0 rfl rfl (Yl.load1 F.one200 rfl) ?_
  refine jT 4 rfl (Yl.move rfl) ?_
  refine jT 5 rfl (Yl.fieldAddr0 F.fld35_1 rfl) ?_
  refine jF 6 1 rfl rfl (Yl.load1 F.one3 rfl) ?_
  refine jT 7 rfl (Yl.fieldAddr0 F.fld35_1 rfl) ?_
  refine jF 8 2 rfl rfl (Yl.load1 F.one3 rfl) ?_
  refine jT 9 rfl (Yl.move rfl) ?_
  refine jA 10 rfl ?_
  refine WL.callC (β := { z : JT // JPost bop (canon s).1 (canon t).1 [] 0 (canon s).2 (canon t).2 z }) (res := fun z => .int .i64 (z.1.2.2.2 : Int)) (cs := fun z => [jns z.1.1 bm bs z.1.2.1 z.1.2.2.1]) (Cs := [jns (F1 ++ ([bs] ++ [])) bm bs [] (fun _ => none)]) (C1 := [pt bp [pp bm, .slice aa (canon s).1.length ca, .int .i64 ((canon s).2 : Int), .slice ab (canon t).1.length cb, .int .i64 ((canon t).2 : Int), .map (some bs)] 223, pt b3 [.slice aa (canon s).1.length ca, .int .i64 ((canon s).2 : Int)] 35, pt b4 [.slice ab (canon t).1.length cb, .int .i64 ((canon t).2 : Int)] 35, pt b6 [.slice none 0 0, .int .i64 0] 35]) (O' := (F1 ++ ([bs] ++ []))) F.fun163 (fun d h => by cases h; rfl) rfl (List.Perm.refl _) bun_O1 bun_O2 (fun w hS hS2 => join_c g bop opf hop bp bm bs (canon s).1 (canon t).1 aa ab ca cb (canon s).2 (canon t).2 (canon_mk hs.1) (canon_mk ht.1) (Nat.le_of_lt (canon_len hs.1)) (Nat.le_of_lt (canon_len ht.1)) 25 0 (by omega) (by omega) (F1 ++ ([bs] ++ [])) [] (fun _ => none) (canon s).2 (canon t).2 w (canon_at s).1 (canon_at t).1 (by rw [(canon_at s).2]; exact hs.1) (by rw [(canon_at t).2]; exact ht.1) Mk.nil (fun _ _ _ h => by cases h) (by decide) (jenv_of hS hs.2 ht.2) hS2) (fun ⟨z1, hz1⟩ => ?_)
  refine WD.on (closed_of (by kernel_rfl)) (fun w hS => Sx.keep (hS.cell jM rfl) (Sx.gone rfl (Sx.gone rfl (Sx.none)))) ?_
  refine jA 11 rfl ?_
  obtain ⟨G1, l1, f1, r1⟩ := z1
  obtain ⟨j1, j2, j3, j4, j5⟩ := hz1
  dsimp only at j1 j2 j3 j4 j5 ⊢
  rw [(canon_at s).2, (canon_at t).2] at j4
  have hl1 : l1.length ≤ 16777216 := by
   have e : 2 ^ (24 - 0) = 16777216 := by decide
   simp only [List.length_nil] at j3
   omega
  refine WA.openB (fun G3 _ _ _ => ?_)
  simp only [jnCs, List.cons_append, List.nil_append]
  refine WL.callC (β := Option Addr × Nat) (res := fun z => dval (trs l1 r1) z.1 z.2) (cs := fun z => [dC z.1 z.2 (trs l1 r1)]) (Cs := [mkr G3 bm l1]) (C1 := [mpg enc2 bs (fun q => (f1 q).map encI), pt bp [pp bm, .slice aa (canon s).1.length ca, .int .i64 ((canon s).2 : Int), .slice ab (canon t).1.length cb, .int .i64 ((canon t).2 : Int), .map (some bs)] 223, pt b3 [.slice aa (canon s).1.length ca, .int .i64 ((canon s).2 : Int)] 35, pt b4 [.slice ab (canon t).1.length cb, .int .i64 ((canon t).2 : Int)] 35, pt b6 [.slice none 0 0, .int .i64 0] 35]) (O' := G3) F.fun148 (fun d h => by cases h; rfl) rfl (List.Perm.refl _) bun_O1 bun_O2 (fun w hS hS2 => done_c G3 bm l1 r1 w j1 j4.lt (j4.ok 0 hs.1 ht.1) hl1 hS2) (fun z3 => ?_)
  refine jG ?_
  refine jA 12 rfl ?_
  refine WL.storeN F.agg35 rfl rfl rfl jO jU jS ?_
  refine jG ?_
  refine jD ?_
  refine jN 2 ?_
  refine WQ.ret (rs := [.cell 6 35]) rfl (.cellN F.agg35 rfl jM rfl .nil) (fun w hS => ⟨⟨(trs l1 r1, z3), j4.ok 0 hs.1 ht.1, j4.ev⟩, rfl, (jK hS)⟩)

theorem And_c (s t : BT) (aa ab : Option Addr) (ca cb : Nat) (w : World) (hs : RdD w s aa) (ht : RdD w t ab) :
  Calls Tryz.prog 75 [dval s aa ca, dval t ab cb].toArray w (DPost (fun c => (fun p q : Bool => p && q) (s.ev c) (t.ev c)) w) := by
 refine enter Tryz.func75 rfl Tryz.ntmps75 rfl (St.init _) ?_
 refine jN 3 ?_
 refine WL.boxN rfl rfl (fun b2 => ?_)
 refine jN 1 ?_
 refine WL.boxN rfl rfl (fun b3 => ?_)
 refine jN 1 ?_
 refine WL.alloc F.zero35 rfl (fun b4 => ?_)
 refine jN 9 ?_
 refine WL.call0 (β := DRes (fun c => (fun p q : Bool => p && q) (s.ev c) (t.ev c))) (res := fun z => .returned z.v) (cs := fun z => [z.ch]) (ψ := fun _ => True) F.fun129 (fun d h => by cases h; rfl) rfl (fun w hS => (dwith_c _ _ _ both_ok s t aa ab ca cb w (hs.next0 hS) (ht.next0 hS)).mono (fun e w2 ⟨x, h1, h2⟩ => ⟨x, trivial, h1, h2⟩)) (fun z7 _ => ?_)
 refine WL.step ?_
 refine WL.storeN F.agg35 rfl rfl rfl (by simp [Value.oneCell']) (by repeat (first | exact Upd.here | apply Upd.there)) (by repeat constructor) ?_
 refine WL.nil ?_
 refine WQ.then_normal ?_
 refine WC.ret ?_
 refine WQ.ret (rs := [.cell 4 35]) rfl (.cellN F.agg35 rfl jM rfl .nil) (fun w hS => ⟨z7, rfl, (jK hS)⟩)

theorem Or_c (s t : BT) (aa ab : Option Addr) (ca cb : Nat) (w : World) (hs : RdD w s aa) (ht : RdD w t ab) :
  Calls Tryz.prog 105 [dval s aa ca, dval t ab cb].toArray w (DPost (fun c => (fun p q : Bool => p || q) (s.ev c) (t.ev c)) w) := by
 refine enter Tryz.func105 rfl Tryz.ntmps105 rfl (St.init _) ?_
 refine jN 3 ?_
 refine WL.boxN rfl rfl (fun b2 => ?_)
 refine jN 1 ?_
 refine WL.boxN rfl rfl (fun b3 => ?_)
 refine jN 1 ?_
 refine WL.alloc F.zero35 rfl (fun b4 => ?_)
 refine jN 9 ?_
 refine WL.call0 (β := DRes (fun c => (fun p q : Bool => p || q) (s.ev c) (t.ev c))) (res := fun z => .returned z.v) (cs := fun z => [z.ch]) (ψ := fun _ => True) F.fun129 (fun d h => by cases h; rfl) rfl (fun w hS => (dwith_c _ _ _ either_ok s t aa ab ca cb w (hs.next0 hS) (ht.next0 hS)).mono (fun e w2 ⟨x, h1, h2⟩ => ⟨x, trivial, h1, h2⟩)) (fun z7 _ => ?_)
 refine WL.step ?_
 refine WL.storeN F.agg35 rfl rfl rfl (by simp [Value.oneCell']) (by repeat (first | exact Upd.here | apply Upd.there)) (by repeat constructor) ?_
 refine WL.nil ?_
 refine WQ.then_normal ?_
 refine WC.ret ?_
 refine WQ.ret (rs := [.cell 4 35]) rfl (.cellN F.agg35 rfl jM rfl .nil) (fun w hS => ⟨z7, rfl, (jK hS)⟩)

theorem Xor_c (s t : BT) (aa ab : Option Addr) (ca cb : Nat) (w : World) (hs : RdD w s aa) (ht : RdD w t ab) :
  Calls Tryz.prog 104 [dval s aa ca, dval t ab cb].toArray w (DPost (fun c => (fun p q : Bool => p != q) (s.ev c) (t.ev c)) w) := by
 refine enter Tryz.func104 rfl Tryz.ntmps104 rfl (St.init _) ?_
 refine jN 3 ?_
 refine WL.boxN rfl rfl (fun b2 => ?_)
 refine jN 1 ?_
 refine WL.boxN rfl rfl (fun b3 => ?_)
 refine jN 1 ?_
 refine WL.alloc F.zero35 rfl (fun b4 => ?_)
 refine jN 9 ?_
 refine WL.call0 (β := DRes (fun c => (fun p q : Bool => p != q) (s.ev c) (t.ev c))) (res := fun z => .returned z.v) (cs := fun z => [z.ch]) (ψ := fun _ => True) F.fun129 (fun d h => by cases h; rfl) rfl (fun w hS => (dwith_c _ _ _ odd_ok s t aa ab ca cb w (hs.next0 hS) (ht.next0 hS)).mono (fun e w2 ⟨x, h1, h2⟩ => ⟨x, trivial, h1, h2⟩)) (fun z7 _ => ?_)
 refine WL.step ?_
 refine WL.storeN F.agg35 rfl rfl rfl (by simp [Value.oneCell']) (by repeat (first | exact Upd.here | apply Upd.there)) (by repeat constructor) ?_
 refine WL.nil ?_
 refine WQ.then_normal ?_
 refine WC.ret ?_
 refine WQ.ret (rs := [.cell 4 35]) rfl (.cellN F.agg35 rfl jM rfl .nil) (fun w hS => ⟨z7, rfl, (jK hS)⟩)

end Go.Proofs.YtkgllhkhdjodeaaGreat

namespace Go.Proofs.YtkgllhkhdjodeaaGreat
open Go Go.Eng Go.Proofs Dg
abbrev fcf (f : Cf → Bool) : Cf → Bool := f
theorem True_c (w : World) : Calls Tryz.prog 74 [].toArray w (DPost (fun _ => true) w) := by
 refine enter Tryz.func74 rfl Tryz.ntmps74 rfl (St.init _) ?_
 refine jN 3 ?_
 refine WL.alloc F.zero35 rfl (fun b0 => ?_)
 refine jN 11 ?_
 refine WQ.ret (rs := [.cell 0 35]) rfl (.cellN F.agg35 rfl jM rfl .nil) (fun w hS => ⟨⟨(.lf true, none, 0), trivial, fun _ => rfl⟩, rfl, ?_⟩)
 exact (hS.drop).rowNil _ _

theorem False_c (w : World) : Calls Tryz.prog 103 [].toArray w (DPost (fun _ => false) w) := by
 refine enter Tryz.func103 rfl Tryz.ntmps103 rfl (St.init _) ?_
 refine jN 3 ?_
 refine WL.alloc F.zero35 rfl (fun b0 => ?_)
 refine jN 11 ?_
 refine WQ.ret (rs := [.cell 0 35]) rfl (.cellN F.agg35 rfl jM rfl .nil) (fun w hS => ⟨⟨(.lf false, none, 0), trivial, fun _ => rfl⟩, rfl, ?_⟩)
 exact (hS.drop).rowNil _ _

theorem canon_var (i : Nat) : canon (.nd i (.lf false) (.lf true)) = ([(i, 0, 1)], 2) := by
 have h : Dg.look [] (.nd i (.lf false) (.lf true)) = none := by
  cases hl : Dg.look [] (.nd i (.lf false) (.lf true)) with
  | none => rfl
  | some p =>
   obtain ⟨h1, h2⟩ := look_some hl
   rcases p with _ | _ | p
   ·rw [(trs_zero _).1] at h2; cases h2
   ·rw [(trs_zero _).2] at h2; cases h2
   ·simp at h1; omega
 unfold canon
 conv => lhs; unfold visitT
 rw [h]
 simp [visitT]

theorem Var_in (n : Nat) (hn : n < 24) (w : World) : Calls Tryz.prog 99 [.int .i64 (n : Int)].toArray w fun e w' => ∃ z : DRes (fun c => c n), e = .returned (.tuple #[z.v, .int .i64 0]) ∧ St w [] [z.ch] w' := by
 refine enter Tryz.func99 rfl Tryz.ntmps99 rfl (St.init _) ?_
 refine jN 3 ?_
 refine WL.alloc F.zero35 rfl (fun b2 => ?_)
 refine jN 13 ?_
 refine WA.splitB (i := 6) rfl (fun g6 => ?_) (fun g6 => ?_)
 ·exfalso; simp at g6; omega
 ·refine jN 10 ?_
  refine WC.cond rfl (fun h9 => ?_) (fun h9 => ?_)
  ·exfalso; simp at h9; omega
  ·refine jN 9 ?_
   refine WL.buildSlice F.sl33 F.ez33 rfl rfl rfl rfl jB rfl (fun b13 => ?_)
   refine jN 9 ?_
   refine WQ.ret (rs := [.cell 2 35, .tmp 3]) rfl (.cellN F.agg35 rfl jM rfl (.tmp rfl .nil)) (fun w hS => ?_)
   refine ⟨⟨(.nd n (.lf false) (.lf true), some ⟨b13, 0, none⟩, 1), ⟨Nat.zero_le _, hn, fun e => (by simp at e), trivial, trivial⟩, fun c => ?_⟩, ?_, ?_⟩
   ·simp only [BT.ev]; cases c n <;> rfl
   ·show _ = Ending.returned (.tuple #[dval _ _ _, _])
    rw [dval, canon_var]; rfl
   ·show St _ [] [dC (some ⟨b13, 0, none⟩) 1 (.nd n (.lf false) (.lf true))] w
    rw [dC, canon_var]
    exact (jK (St.rowOf (n := 1) (sz := 3) (hS.pick (c := pt b13 [.int .i64 (n : Int), .int .i64 0, .int .i64 1] 104) jR) rfl (by decide)))

theorem Var_out (i : Int) (hi : i < 0 ∨ 24 ≤ i) (w : World) : Calls Tryz.prog 99 [.int .i64 i].toArray w fun e w' => ∃ z : DRes (fun _ => false), e = .returned (.tuple #[z.v, .int .i64 3]) ∧ St w [] [z.ch] w' := by
 refine enter Tryz.func99 rfl Tryz.ntmps99 rfl (St.init _) ?_
 refine jN 3 ?_
 refine WL.alloc F.zero35 rfl (fun b2 => ?_)
 refine jN 13 ?_
 refine WA.splitB (i := 6) rfl (fun g6 => ?_) (fun g6 => ?_)
 ·refine jN 21 ?_
  refine WQ.ret (rs := [.cell 2 35, .tmp 3]) rfl (.cellN F.agg35 rfl jM rfl (.tmp rfl .nil)) (fun w hS => ?_)
  exact ⟨⟨(.lf false, none, 0), trivial, fun _ => rfl⟩, rfl, (hS.drop).rowNil _ _⟩
 ·refine jN 10 ?_
  refine WC.cond rfl (fun h9 => ?_) (fun h9 => ?_)
  ·refine jN 12 ?_
   refine WQ.ret (rs := [.cell 2 35, .tmp 3]) rfl (.cellN F.agg35 rfl jM rfl (.tmp rfl .nil)) (fun w hS => ?_)
   exact ⟨⟨(.lf false, none, 0), trivial, fun _ => rfl⟩, rfl, (hS.drop).rowNil _ _⟩
  ·exfalso; simp at *; omega

theorem Has_c (t : BT) (a : Option Addr) (c n : Nat) (hn : n < 4294967296) (w : World) (ht : RdD w t a) : Pure Tryz.prog 36 [dval t a c, .int .u32 (n : Int)] w (.bool (t.ev (cfg n))) := by
 have hmk := canon_mk ht.1
 have hcl := canon_len ht.1
 refine enter Tryz.func36 rfl Tryz.ntmps36 rfl (St.init _) ?_
 refine jN 3 ?_
 refine WL.boxN rfl rfl (fun b2 => ?_)
 refine jN 16 ?_
 refine WC.loop (α := Nat) (fun r => r < (canon t).1.length + 2 ∧ (trs (canon t).1 r).ev (cfg n) = t.ev (cfg n)) (fun r => [(1, .int .u32 (n : Int)), (2, pp b2), (5, .int .i64 (r : Int))]) (fun _ => [pt b2 [.slice a (canon t).1.length c, .int .i64 ((canon t).2 : Int)] 35]) (fun r => r) ((canon t).2) ?_ ?_ ?_ ?_
 ·exact ⟨(canon_at t).1, by rw [(canon_at t).2]⟩
 ·exact ⟨rfl, rfl, rfl, trivial⟩
 ·rfl
 rintro r ⟨hr, hev⟩
 show WC _ _ _ _ _ _ _ [(1, .int .u32 (n : Int)), (2, pp b2), (5, .int .i64 (r : Int))] [pt b2 [.slice a (canon t).1.length c, .int .i64 ((canon t).2 : Int)] 35]
 refine jN 9 ?_
 refine WC.cond rfl (fun h10 => ?_) (fun h10 => ?_)
 ·have h2 : 2 ≤ r := by simp at h10; omega
  obtain ⟨k, rfl⟩ : ∃ k, r = k + 2 := ⟨r - 2, by omega⟩
  have hk : k < (canon t).1.length := by omega
  obtain ⟨x, hx⟩ : ∃ x, (canon t).1[k]? = some x := ⟨_, List.getElem?_eq_getElem hk⟩
  have hkb := hmk.kid k x hx
  have htr := hmk.at hx
  obtain ⟨bl, off, rfl, hcx⟩ := ht.2.at hx
  have hri : ((k : Nat) : Int) = ((k + 2 : Nat) : Int) - 2 := by omega
  refine jN 13 ?_
  refine WA.say 14 (.int .i64 (k : Int)) (by rw [hri]; rfl) ?_
  refine jN 1 ?_
  refine WL.indexAddr F.sl33 rfl rfl rfl hk ?_
  refine jN 1 ?_
  refine WL.loadN F.agg104 rfl rfl (vs := [Value.int .i64 (x.1 : Int), .int .i64 (x.2.1 : Int), .int .i64 (x.2.2 : Int)]) rfl (fun w hS j v hv => hS.oldc (hcx j v hv) (by simp)) ?_
  refine jN 1 ?_
  refine WL.alloc F.zero104 rfl (fun b6 => ?_)
  refine jN 23 ?_
  refine WL.bin rfl rfl rfl (fun w => run_shr (by omega) _ _ _ w) ?_
  refine jN 1 ?_
  refine WL.bin rfl rfl rfl (fun w => run_and (b := 1) (Nat.lt_of_le_of_lt (by rw [Nat.shiftRight_eq_div_pow]; exact Nat.div_le_self _ _) hn) (by decide) _ _ _ w) ?_
  refine jN 4 ?_
  refine WC.cond rfl (fun h24 => ?_) (fun h24 => ?_)
  ·have hbit : cfg n x.1 = true := by (rw [Fm.testBit_shift] at h24; exact h24)
   refine jN 9 ?_
   refine WQ.chunks (C' := [pt b2 [.slice (some ⟨bl, off, none⟩) (canon t).1.length c, .int .i64 ((canon t).2 : Int)] 35]) (fun w hS => (jK hS)) ?_
   refine WQ.back (x.2.2) ?_ ?_ ?_ ?_
   ·exact ⟨by omega, by rw [← hev, htr]; simp only [BT.ev, hbit, cond_true]⟩
   ·(show x.2.2 < k + 2; omega)
   ·exact ⟨rfl, rfl, rfl, trivial⟩
   ·rfl
  ·have hbit : cfg n x.1 = false := by (rw [Fm.testBit_shift] at h24; exact h24)
   refine jN 2 ?_
   refine WQ.chunks (C' := [pt b2 [.slice (some ⟨bl, off, none⟩) (canon t).1.length c, .int .i64 ((canon t).2 : Int)] 35]) (fun w hS => (jK hS)) ?_
   refine WQ.back (x.2.1) ?_ ?_ ?_ ?_
   ·exact ⟨by omega, by rw [← hev, htr]; simp only [BT.ev, hbit, cond_false]⟩
   ·(show x.2.1 < k + 2; omega)
   ·exact ⟨rfl, rfl, rfl, trivial⟩
   ·rfl
 ·have h2 : r < 2 := by simp at h10; omega
  have hfin : (r == 1) = t.ev (cfg n) := by
   rw [← hev]
   rcases r with _ | _ | r
   ·rw [(trs_zero _).1]; rfl
   ·rw [(trs_zero _).2]; rfl
   ·omega
  refine jN 16 ?_
  refine WQ.ret (rs := [.tmp 4]) rfl (.tmp rfl .nil) (fun w hS => ⟨?_, hS.drop⟩)
  show Ending.returned (.bool ((r : Int) == 1)) = _
  rw [← hfin]
  have e : ((r : Int) == 1) = (r == 1) := by (rw [Bool.eq_iff_iff]; simp; omega)
  rw [e]

end Go.Proofs.YtkgllhkhdjodeaaGreat

/-
 Passes over the nodes of a diagram that make another one.
-/
namespace Go.Proofs.YtkgllhkhdjodeaaGreat
open Go Go.Eng Go.Proofs Dg
theorem rdO_new {w0 w : World} {C : List Chunk} {ch : Chunk} {F : List Nat} {l : List Dec} {a : Option Addr} (hS : St w0 [] C w) (hm : ch ∈ C) (hc : FpIs ch F) (h : RdDec w0 l a) : RdDecO w l a F := fun j u hu => by
 obtain ⟨b, off, e1, e2⟩ := h j u hu
 refine ⟨b, off, e1, hS.oldc e2 (by simp), fun hF => ?_⟩
 have := (hS.bnd _ hm b ((hc b).2 hF)).2 (World.block_lt_of_cell? w0 _ e2)
 simp at this
theorem fi_len {φ : BT → BT} {la l : List Dec} {out : List Int} {x : Dec} (h : FI φ la out l) (hla : la.length < 16777216) (hx : la[out.length - 2]? = some x) : l.length ≤ 16777214 := by
 have h1 := (List.getElem?_eq_some_iff.1 hx).1
 have := h.len
 omega
theorem not_join (bm : Nat) (la : List Dec) (hla : Mk la) (hll : la.length < 16777216) (out : List Int) (s : List Nat × List Dec) (x : Dec) (z1 z2 : Int) (w : World) (hx : la[out.length - 2]? = some x) (hI : FI notT la out s.2) (h1 : out[x.2.1]? = some z1) (h2 : out[x.2.2]? = some z2) (hS : St w s.1 [mkr s.1 bm s.2] w) :
  Calls Tryz.prog 149 ([pp bm] ++ [Value.int .i64 (x.1 : Int), .int .i64 z1, .int .i64 z2] ++ []).toArray w fun e w' => ∃ y : { y : (List Nat × List Dec) × Int // FI notT la (out ++ [y.2]) y.1.2 }, e = .returned (.int .i64 y.1.2) ∧ St w s.1 [mkr y.1.1.1 bm y.1.1.2] w' := by
 obtain ⟨p1, rfl, e1, f1⟩ := hI.at' _ _ h1
 obtain ⟨p2, rfl, e2, f2⟩ := hI.at' _ _ h2
 refine (mnode_c s.1 bm s.2 x.1 p1 p2 w (hla.kid _ _ hx).1 hI.ismk e1 e2 (fi_len hI hll hx) hS).mono ?_
 rintro e w' ⟨⟨⟨F', l', r⟩, hm, hl⟩, he, hS'⟩
 refine ⟨⟨((F', l'), (r : Int)), hI.step hla hx hm.ismk hm.pre hl hm.lt ?_⟩, he, hS'⟩
 rw [hm.tree, f1, f2]; rfl
/-- The memory of With's pass. -/
abbrev wcCs (bi bmv bon bm : Nat) (i : Int) (on : Bool) (l : List Dec) (F1 : List Nat) : List Chunk := [pt bi [.int .i64 i] 3, pt bmv [pp bm] 200, pt bon [.bool on] 4, mkr F1 bm l]
def wch (F : List Nat) (bi bmv bon bm : Nat) (i : Int) (on : Bool) (l : List Dec) : Chunk := bun F (wcCs bi bmv bon bm i on l) (fun _ => True)
theorem wch_mv {F : List Nat} {bi bmv bon bm : Nat} {i : Int} {on : Bool} {l : List Dec} {w : World} (h : (wch F bi bmv bon bm i on l).ok w) : w.cell? ⟨bmv, 0, none⟩ = some (pp bm) := by
 obtain ⟨x, _, h2, _⟩ := h
 have := h2 (pt bmv [pp bm] 200) (by simp [wcCs])
 simp [World.cell?, show w.heap[bmv]? = some (.cells [pp bm].toArray 200 (0, 0)) from this]
theorem St.wchClose {w0 w : World} {O : List Nat} {C : List Chunk} {F1 : List Nat} {bi bmv bon bm : Nat} {i : Int} {on : Bool} {l : List Dec} (h : St w0 O (pt bi [.int .i64 i] 3 :: pt bmv [pp bm] 200 :: pt bon [.bool on] 4 :: mkr F1 bm l :: C) w) :
  St w0 O (wch ([bi] ++ ([bmv] ++ ([bon] ++ (F1 ++ [])))) bi bmv bon bm i on l :: C) w :=
 St.bunClose' (Cs := wcCs bi bmv bon bm i on l) F1 trivial (.cons FpIs.pt (.cons FpIs.pt (.cons FpIs.pt (.cons FpIs.bun .nil)))) h
end Go.Proofs.YtkgllhkhdjodeaaGreat

namespace Go.Proofs.YtkgllhkhdjodeaaGreat
open Go Go.Eng Go.Proofs Dg
theorem Not_c (t : BT) (a : Option Addr) (c : Nat) (w : World) (ht : RdD w t a) : Calls Tryz.prog 100 [dval t a c].toArray w (DPost (fun c => !t.ev c) w) := by
 have hmk := canon_mk ht.1
 have hcl := canon_len ht.1
 refine enter Tryz.func100 rfl Tryz.ntmps100 rfl (St.init _) ?_
 refine jN 3 ?_
 refine WL.boxN rfl rfl (fun b1 => ?_)
 refine jN 1 ?_
 refine WL.alloc F.zero35 rfl (fun b2 => ?_)
 refine jN 5 ?_
 refine WL.call0 (β := List Nat × Nat) (res := fun x => .returned (pp x.2)) (cs := fun x => [mkr x.1 x.2 []]) (ψ := fun _ => True) F.fun147 (fun d h => by cases h; rfl) rfl (fun w hS => (newMaker_c w).mono (fun e w2 ⟨x, h1, h2⟩ => ⟨x, trivial, h1, h2⟩)) (fun ⟨F1, bm⟩ _ => ?_)
 refine WL.step ?_
 refine WL.assign rfl rfl ?_
 refine WL.nil ?_
 refine WQ.then_normal ?_
 refine WC.seq ?_
 refine WC.region ?_
 refine WL.step ?_
 refine WL.move rfl rfl ?_
 refine WL.step ?_
 refine WL.loadW F.agg35 rfl rfl (by repeat (first | exact List.Mem.head _ | apply List.Mem.tail)) rfl ?_
 refine WL.step ?_
 refine WL.move rfl rfl ?_
 refine WL.step ?_
 refine WL.makeFunc (us := [pp bm]) (vs := []) rfl rfl rfl ?_
 refine jN 1 ?_
 refine WL.callC (β := { y : List Int × (List Nat × List Dec) × Int // FI notT (canon t).1 y.1 y.2.1.2 ∧ y.1.length = (canon t).1.length + 2 ∧ y.1[(canon t).2]? = some y.2.2 }) (res := fun y => .int .i64 y.1.2.2) (cs := fun y => [mkr y.1.2.1.1 bm y.1.2.1.2]) (Cs := [mkr F1 bm []]) (C1 := [pt b2 [.slice none 0 0, .int .i64 0] 35, pt b1 [.slice a (canon t).1.length c, .int .i64 ((canon t).2 : Int)] 35]) (O' := F1) F.fun53 (fun d h => by cases h; rfl) rfl (List.Perm.refl _) bun_O1 bun_O2 (fun w hS hS2 => Fold_c (σ := List Nat × List Dec) (fun s => mkr s.1 bm s.2) (fun s => s.1) (fun s => FpIs.bun) 149 F.fun149 [pp bm] [] (canon t).1 a c (canon t).2 1 0 (fun out s => FI notT (canon t).1 out s.2) (Nat.le_of_lt hcl) (fun k x hx => ⟨(hmk.kid k x hx).2.1, (hmk.kid k x hx).2.2.1⟩) (canon_at t).1 (F1, []) (FI.nil (b0 := true) (b1 := false) rfl rfl) (not_join bm (canon t).1 hmk hcl) w (rdO_new hS jM FpIs.bun ht.2) hS2) (fun ⟨⟨out, ⟨G1, l1⟩, z⟩, hI, hol, hz⟩ => ?_)
 obtain ⟨r1, rfl, hr1, htr⟩ := hI.at' _ _ hz
 rw [(canon_at t).2] at htr
 have hI9 := hI.len
 dsimp only at hI9 hol hI
 have hl1 : l1.length ≤ 16777216 := by omega
 refine jN 1 ?_
 refine WL.callC (β := Option Addr × Nat) (res := fun z => dval (trs l1 r1) z.1 z.2) (cs := fun z => [dC z.1 z.2 (trs l1 r1)]) (Cs := [mkr G1 bm l1]) (C1 := [pt b2 [.slice none 0 0, .int .i64 0] 35, pt b1 [.slice a (canon t).1.length c, .int .i64 ((canon t).2 : Int)] 35]) (O' := G1) F.fun148 (fun d h => by cases h; rfl) rfl (List.Perm.refl _) bun_O1 bun_O2 (fun w hS hS2 => done_c G1 bm l1 r1 w hI.ismk hr1 (by rw [htr]; exact notT_ok ht.1) hl1 hS2) (fun z3 => ?_)
 refine jN 5 ?_
 refine WQ.ret (rs := [.cell 2 35]) rfl (.cellN F.agg35 rfl jM rfl .nil) (fun w hS => ⟨⟨(trs l1 r1, z3), by rw [htr]; exact notT_ok ht.1, fun c => by rw [htr]; exact notT_ev t c⟩, rfl, (jK hS)⟩)

theorem fix_join (bi bmv bon bm : Nat) (i : Int) (on : Bool) (la : List Dec) (hla : Mk la) (hll : la.length < 16777216) (out : List Int) (s : List Nat × List Dec) (x : Dec) (z1 z2 : Int) (w : World) (hx : la[out.length - 2]? = some x) (hI : FI (fixT i on) la out s.2) (h1 : out[x.2.1]? = some z1) (h2 : out[x.2.2]? = some z2) (hS0 : St w s.1 [wch s.1 bi bmv bon bm i on s.2] w) :
  Calls Tryz.prog 152 ([] ++ [Value.int .i64 (x.1 : Int), .int .i64 z1, .int .i64 z2] ++ [pp bi, pp bmv, pp bon]).toArray w fun e w' => ∃ y : { y : (List Nat × List Dec) × Int // FI (fixT i on) la (out ++ [y.2]) y.1.2 }, e = .returned (.int .i64 y.1.2) ∧ St w s.1 [wch y.1.1.1 bi bmv bon bm i on y.1.1.2] w' := by
 obtain ⟨p1, rfl, e1, f1⟩ := hI.at' _ _ h1
 obtain ⟨p2, rfl, e2, f2⟩ := hI.at' _ _ h2
 obtain ⟨F1, _, g1, g2, hS0⟩ := hS0.bunOpen
 simp only [wcCs, List.cons_append, List.nil_append] at hS0
 refine enter Tryz.func152 rfl Tryz.ntmps152 rfl (C := [pt bi [.int .i64 i] 3, pt bmv [pp bm] 200, pt bon [.bool on] 4, mkr F1 bm s.2]) hS0 ?_
 refine jN 20 ?_
 refine WC.cond rfl (fun h10 => ?_) (fun h10 => ?_)
 ·have hne : ¬ (x.1 : Int) = i := by simpa using h10
  refine jN 2 ?_
  refine WA.chunks (C' := [mkr F1 bm s.2, pt bi [.int .i64 i] 3, pt bmv [pp bm] 200, pt bon [.bool on] 4]) (fun w hS => (jK hS)) ?_
  refine jN 9 ?_
  refine WL.callC (β := { z : List Nat × List Dec × Nat // MadeN s.2 z.2.1 z.2.2 (mkN x.1 (trs s.2 p1) (trs s.2 p2)) ∧ z.2.1.length ≤ s.2.length + 1 }) (res := fun z => .int .i64 (z.1.2.2 : Int)) (cs := fun z => [mkr z.1.1 bm z.1.2.1]) (Cs := [mkr F1 bm s.2]) (C1 := [pt bi [.int .i64 i] 3, pt bmv [pp bm] 200, pt bon [.bool on] 4]) (O' := F1) F.fun149 (fun d h => by cases h; rfl) rfl (List.Perm.refl _) bun_O1 bun_O2 (fun w hS hS2 => mnode_c F1 bm s.2 x.1 p1 p2 w (hla.kid _ _ hx).1 hI.ismk e1 e2 (fi_len hI hll hx) hS2) (fun ⟨⟨F2, l2, r2⟩, hm2, hl2⟩ => ?_)
  refine jN 7 ?_
  refine WQ.ret (rs := [.tmp 9]) rfl (.tmp rfl .nil) (fun w hS => ⟨⟨(([bi] ++ ([bmv] ++ ([bon] ++ (F2 ++ []))), l2), (r2 : Int)), hI.step hla hx hm2.ismk hm2.pre hl2 hm2.lt (by rw [hm2.tree, f1, f2, fixT, if_neg hne])⟩, rfl, St.wchClose (F1 := F2) (jK hS)⟩)
 ·have heq : (x.1 : Int) = i := by simpa using h10
  refine jN 8 ?_
  refine WC.cond rfl (fun h19 => ?_) (fun h19 => ?_)
  ·refine jN 11 ?_
   refine WQ.ret (rs := [.tmp 9]) rfl (.tmp rfl .nil) (fun w hS => ⟨⟨(([bi] ++ ([bmv] ++ ([bon] ++ (F1 ++ []))), s.2), (p2 : Int)), hI.step hla hx hI.ismk ⟨[], by simp⟩ (Nat.le_succ _) e2 (by rw [f2, fixT, if_pos heq, h19]; rfl)⟩, rfl, St.wchClose (F1 := F1) (jK hS)⟩)
  ·refine jN 12 ?_
   refine WQ.ret (rs := [.tmp 9]) rfl (.tmp rfl .nil) (fun w hS => ⟨⟨(([bi] ++ ([bmv] ++ ([bon] ++ (F1 ++ []))), s.2), (p1 : Int)), hI.step hla hx hI.ismk ⟨[], by simp⟩ (Nat.le_succ _) e1 (by rw [f1, fixT, if_pos heq, h19]; rfl)⟩, rfl, St.wchClose (F1 := F1) (jK hS)⟩)

theorem With_c (t : BT) (a : Option Addr) (c : Nat) (i : Int) (on : Bool) (w : World) (ht : RdD w t a) : Calls Tryz.prog 108 [dval t a c, .int .i64 i, .bool on].toArray w (DPost (fun c => t.ev (updI c i on)) w) := by
 have hmk := canon_mk ht.1
 have hcl := canon_len ht.1
 refine enter Tryz.func108 rfl Tryz.ntmps108 rfl (St.init _) ?_
 refine jN 3 ?_
 refine WL.boxN rfl rfl (fun b3 => ?_)
 refine jN 1 ?_
 refine WL.box1 rfl rfl rfl (fun b4 => ?_)
 refine jN 1 ?_
 refine WL.box1 rfl rfl rfl (fun b5 => ?_)
 refine jN 1 ?_
 refine WL.alloc F.zero35 rfl (fun b6 => ?_)
 refine jN 5 ?_
 refine WL.call0 (β := List Nat × Nat) (res := fun x => .returned (pp x.2)) (cs := fun x => [mkr x.1 x.2 []]) (ψ := fun _ => True) F.fun147 (fun d h => by cases h; rfl) rfl (fun w hS => (newMaker_c w).mono (fun e w2 ⟨x, h1, h2⟩ => ⟨x, trivial, h1, h2⟩)) (fun ⟨F1, bm⟩ _ => ?_)
 refine WL.step ?_
 refine WL.alloc F.zero200 rfl (fun b7 => ?_)
 refine jN 5 ?_
 refine WC.drawsL (by kernel_rfl) (FactsOk.cons (ds := [4, 5]) (LoadOk.by (Y := fun w => w.cell? ⟨b7, 0, none⟩ = some (pp bm)) (fun w hS => hS.cell jM rfl)) (FactsOk.cons (ds := [3, 4, 5]) (LoadOk.whole (t := 3) rfl jM) (FactsOk.nil))) ?_
 refine jF 0 0 rfl rfl (Yl.load1 F.one200 rfl) ?_
 refine jF 1 1 rfl rfl (Yl.loadN F.agg35 rfl rfl) ?_
 refine jT 2 rfl (Yl.makeFunc rfl rfl) ?_
 refine jA 3 rfl ?_
 refine WA.chunks (C' := [wch ([b4] ++ ([b7] ++ ([b5] ++ (F1 ++ [])))) b4 b7 b5 bm i on [], pt b3 [.slice a (canon t).1.length c, .int .i64 ((canon t).2 : Int)] 35, pt b6 [.slice none 0 0, .int .i64 0] 35]) (fun w hS => St.wchClose (jK hS)) ?_
 refine WL.callC (β := { y : List Int × (List Nat × List Dec) × Int // FI (fixT i on) (canon t).1 y.1 y.2.1.2 ∧ y.1.length = (canon t).1.length + 2 ∧ y.1[(canon t).2]? = some y.2.2 }) (res := fun y => .int .i64 y.1.2.2) (cs := fun y => [wch y.1.2.1.1 b4 b7 b5 bm i on y.1.2.1.2]) (Cs := [wch ([b4] ++ ([b7] ++ ([b5] ++ (F1 ++ [])))) b4 b7 b5 bm i on []]) (C1 := [pt b3 [.slice a (canon t).1.length c, .int .i64 ((canon t).2 : Int)] 35, pt b6 [.slice none 0 0, .int .i64 0] 35]) (O' := ([b4] ++ ([b7] ++ ([b5] ++ (F1 ++ []))))) F.fun53 (fun d h => by cases h; rfl) rfl (List.Perm.refl _) bun_O1 bun_O2 (fun w hS hS2 => Fold_c (σ := List Nat × List Dec) (fun s => wch s.1 b4 b7 b5 bm i on s.2) (fun s => s.1) (fun s => FpIs.bun) 152 F.fun152 [] [pp b4, pp b7, pp b5] (canon t).1 a c (canon t).2 0 1 (fun out s => FI (fixT i on) (canon t).1 out s.2) (Nat.le_of_lt hcl) (fun k x hx => ⟨(hmk.kid k x hx).2.1, (hmk.kid k x hx).2.2.1⟩) (canon_at t).1 (([b4] ++ ([b7] ++ ([b5] ++ (F1 ++ [])))), []) (FI.nil (b0 := false) (b1 := true) rfl rfl) (fix_join b4 b7 b5 bm i on (canon t).1 hmk hcl) w (rdO_new hS jM FpIs.bun ht.2) hS2) (fun ⟨⟨out, ⟨G1, l1⟩, z⟩, hI, hol, hz⟩ => ?_)
 refine WD.on (closed_of (by kernel_rfl)) (fun w hS => Sx.keep (wch_mv (hS.ok (wch G1 b4 b7 b5 bm i on l1) jM)) (Sx.gone rfl (Sx.none))) ?_
 refine jA 4 rfl ?_
 obtain ⟨r1, rfl, hr1, htr⟩ := hI.at' _ _ hz
 rw [(canon_at t).2] at htr
 have hI9 := hI.len
 dsimp only at hI9 hol hI
 have hl1 : l1.length ≤ 16777216 := by omega
 refine WA.openB (fun F3 _ _ _ => ?_)
 simp only [wcCs, List.cons_append, List.nil_append]
 refine WA.chunks (C' := [mkr F3 bm l1, pt b4 [.int .i64 i] 3, pt b7 [pp bm] 200, pt b5 [.bool on] 4, pt b3 [.slice a (canon t).1.length c, .int .i64 ((canon t).2 : Int)] 35, pt b6 [.slice none 0 0, .int .i64 0] 35]) (fun w hS => (jK hS)) ?_
 refine WL.callC (β := Option Addr × Nat) (res := fun z => dval (trs l1 r1) z.1 z.2) (cs := fun z => [dC z.1 z.2 (trs l1 r1)]) (Cs := [mkr F3 bm l1]) (C1 := [pt b4 [.int .i64 i] 3, pt b7 [pp bm] 200, pt b5 [.bool on] 4, pt b3 [.slice a (canon t).1.length c, .int .i64 ((canon t).2 : Int)] 35, pt b6 [.slice none 0 0, .int .i64 0] 35]) (O' := F3) F.fun148 (fun d h => by cases h; rfl) rfl (List.Perm.refl _) bun_O1 bun_O2 (fun w hS hS2 => done_c F3 bm l1 r1 w hI.ismk hr1 (by rw [htr]; exact fixT_ok ht.1) hl1 hS2) (fun z3 => ?_)
 refine jG ?_
 refine jA 5 rfl ?_
 refine WL.storeN F.agg35 rfl rfl rfl jO jU jS ?_
 refine jG ?_
 refine jD ?_
 refine jN 2 ?_
 refine WQ.ret (rs := [.cell 6 35]) rfl (.cellN F.agg35 rfl jM rfl .nil) (fun w hS => ⟨⟨(trs l1 r1, z3), by rw [htr]; exact fixT_ok ht.1, fun c => by rw [htr]; exact fixT_ev t c⟩, rfl, (jK hS)⟩)

end Go.Proofs.YtkgllhkhdjodeaaGreat

/-! Names and their places. -/
namespace Dg
open Go.Proofs.YtkgllhkhdjodeaaGreat
def idxS (l : List (List UInt8)) (s : List UInt8) : Int := if l.contains s then ((l.findIdx (fun x => x == s) : Nat) : Int) else -1
theorem idxS_hit {l : List (List UInt8)} {s : List UInt8} {i : Nat} (hno : (l.take i).contains s = false) (hx : l[i]? = some s) : idxS l s = i := by
 have hi := (List.getElem?_eq_some_iff.1 hx).1
 have hc : l.contains s = true := by
  rw [List.contains_iff_exists_mem_beq]
  exact ⟨s, List.mem_of_getElem? hx, by simp⟩
 unfold idxS
 rw [if_pos hc]
 congr 1
 have h1 : l.findIdx (fun x => x == s) ≤ i := by
  rcases Nat.lt_or_ge i (l.findIdx (fun x => x == s)) with h | h
  ·have := List.not_of_lt_findIdx h
   obtain ⟨h2, h3⟩ := List.getElem?_eq_some_iff.1 hx
   rw [h3] at this
   simp at this
  ·exact h
 rcases Nat.lt_or_ge (l.findIdx (fun x => x == s)) i with h | h
 ·exfalso
  have h2 : l.findIdx (fun x => x == s) < l.length := by omega
  have h3 := List.findIdx_getElem (p := fun x => x == s) (w := h2)
  have h4 : s ∈ l.take i := by
   rw [List.mem_take_iff_getElem]
   exact ⟨l.findIdx (fun x => x == s), by omega, by simpa using h3⟩
  have : (l.take i).contains s = true := by rw [List.contains_iff_exists_mem_beq]; exact ⟨s, h4, by simp⟩
  rw [hno] at this; cases this
 ·omega
theorem idxS_miss {l : List (List UInt8)} {s : List UInt8} (h : l.contains s = false) : idxS l s = -1 := by
 unfold idxS; rw [h]; rfl
theorem idxS_neg (l : List (List UInt8)) (s : List UInt8) : decide (0 ≤ idxS l s) = l.contains s := by
 unfold idxS
 cases h : l.contains s with
 | true => simp
 | false => simp
theorem idxS_lt {l : List (List UInt8)} {s : List UInt8} (h : l.contains s = true) : ∃ i : Nat, idxS l s = (i : Int) ∧ i < l.length ∧ l[i]? = some s := by
 unfold idxS
 rw [if_pos h]
 rw [List.contains_iff_exists_mem_beq] at h
 obtain ⟨y, hy, hs⟩ := h
 have he : y = s := (by simpa using hs : s = y).symm
 have h2 : l.findIdx (fun x => x == s) < l.length := List.findIdx_lt_length_of_exists ⟨y, hy, by simp [he]⟩
 refine ⟨_, rfl, h2, ?_⟩
 have h3 := List.findIdx_getElem (p := fun x => x == s) (w := h2)
 rw [List.getElem?_eq_getElem h2]
 simpa using h3
/-- The first error of names. -/
def namesG : List (List UInt8) → List (List UInt8) → Int
 | _, [] => 0
 | pre, s :: r => if Fm.isNameB s = false then 6 else if pre.contains s then 7 else namesG (pre ++ [s]) r
def namesE (l : List (List UInt8)) : Int := if 24 < l.length then 5 else namesG [] l
theorem namesG_step {l : List (List UInt8)} {i : Nat} {s : List UInt8} (hx : l[i]? = some s) : namesG (l.take i) (l.drop i) = if Fm.isNameB s = false then 6 else if (l.take i).contains s then 7 else namesG (l.take (i + 1)) (l.drop (i + 1)) := by
 obtain ⟨hi, he⟩ := List.getElem?_eq_some_iff.1 hx
 rw [List.drop_eq_getElem_cons hi, he, List.take_add_one, hx]
 rfl
end Dg

namespace Go.Proofs.YtkgllhkhdjodeaaGreat
open Go Go.Eng Go.Proofs Dg
theorem sidx_c (l : List (List UInt8)) (s : List UInt8) (a : Option Addr) (cap : Nat) (hll : l.length ≤ 1099511627776) (w : World) (hr : RdS w l a) : Pure Tryz.prog 98 [.slice a l.length cap, .string (str s)] w (.int .i64 (idxS l s)) := by
 refine enter Tryz.func98 rfl Tryz.ntmps98 rfl (St.init _) ?_
 refine jN 18 ?_
 refine WC.loop (α := Nat) (fun i => i ≤ l.length ∧ (l.take i).contains s = false) (fun i => [(0, .slice a l.length cap), (1, .string (str s)), (6, .slice a l.length cap), (7, .int .i64 (l.length : Int)), (8, .int .i64 (i : Int))]) (fun _ => []) (fun i => l.length - i) (0) ?_ ?_ ?_ ?_
 ·exact ⟨Nat.zero_le _, rfl⟩
 ·exact ⟨rfl, rfl, rfl, rfl, rfl, trivial⟩
 ·rfl
 rintro i ⟨hi, hno⟩
 refine jN 7 ?_
 refine WC.cond rfl (fun h9 => ?_) (fun h9 => ?_)
 ·have hlt : i < l.length := by simpa using h9
  obtain ⟨y, hx⟩ : ∃ y, l[i]? = some y := ⟨_, List.getElem?_eq_getElem hlt⟩
  obtain ⟨b, off, rfl, hcell⟩ := hr i y hx
  refine jN 21 ?_
  refine WL.indexAddr F.sl25 rfl rfl rfl hlt ?_
  refine jN 1 ?_
  refine WL.load1 F.one9 rfl rfl (v := .string (str y)) (fun w hS => hS.oldc (by simpa using hcell) (by simp)) ?_
  refine jN 4 ?_
  refine WC.cond rfl (fun h16 => ?_) (fun h16 => ?_)
  ·have hys : y = s := by (simp at h16; first | exact h16 | exact h16.symm)
   subst hys
   refine jN 14 ?_
   exact WQ.ret (rs := [.tmp 4]) rfl (.tmp rfl .nil) (fun w hS => ⟨by rw [idxS_hit hno hx]; rfl, hS⟩)
  ·refine jN 9 ?_
   refine WQ.back (i + 1) ?_ ?_ ?_ ?_
   ·exact ⟨by omega, by rw [List.take_add_one, hx]; simp at hno h16 ⊢; exact ⟨hno, fun e => h16 (by first | exact e | exact e.symm)⟩⟩
   ·omega
   ·exact ⟨rfl, rfl, rfl, rfl, rfl, trivial⟩
   ·rfl
 ·have hie : i = l.length := by simp at h9; omega
  subst hie
  rw [List.take_length] at hno
  refine jN 12 ?_
  exact WQ.ret (rs := [.tmp 4]) rfl (.tmp rfl .nil) (fun w hS => ⟨by rw [idxS_miss hno]; rfl, hS⟩)

theorem scontains_c (l : List (List UInt8)) (s : List UInt8) (a : Option Addr) (cap : Nat) (hll : l.length ≤ 1099511627776) (w : World) (hr : RdS w l a) : Pure Tryz.prog 45 [.slice a l.length cap, .string (str s)] w (.bool (l.contains s)) := by
 refine enter Tryz.func45 rfl Tryz.ntmps45 rfl (St.init _) ?_
 refine jN 13 ?_
 refine WL.callV F.fun98 rfl rfl (fun w hS => sidx_c l s a cap hll w (hr.next hS)) ?_
 refine jN 7 ?_
 exact WQ.ret (rs := [.tmp 4]) rfl (.tmp rfl .nil) (fun w hS => ⟨by (show Ending.returned (.bool (decide (0 ≤ idxS l s))) = _; rw [idxS_neg]), hS⟩)

end Go.Proofs.YtkgllhkhdjodeaaGreat

namespace Fm
open Go Go.Eng
/-! ### the reference's parser: tokens first, then a reader of them -/
abbrev Tk := Nat × List UInt8
/-- The tokens from the one behind (a, x) on, the end's among them; and where the first byte is that begins no token (-1: nowhere). -/
def toks (text : List UInt8) : Nat → Nat → List UInt8 → List Tk × Int
 | 0, _, _ => ([], 0)
 | n + 1, a, x => match next text a x with
  | .bad b => ([], (b : Int))
  | .ok a' x' => if x' = [] then ([(a', [])], -1) else ((a', x') :: (toks text n a' x').1, (toks text n a' x').2)
abbrev RS := Nat × Bool
def rword (T : List Tk) (r : RS) : List UInt8 := if r.2 = true then [] else match T[r.1]? with
 | some t => t.2
 | none => []
def rskip (T : List Tk) (r : RS) (s : List UInt8) : RS × Bool := if rword T r = s then ((r.1 + 1, r.2), true) else (r, false)
inductive RN where
 | choice | implies | row (i : Nat) | rest (i : Nat) (acc : List Tree) | least
def rp (T : List Tk) : Nat → RN → RS → Option (Tree × RS)
 | 0, _, _ => none
 | n + 1, .choice, r => (rp T n .implies r).bind fun q1 =>
   (if (rskip T q1.2 [60, 61, 62]).2 then (rp T n .implies (rskip T q1.2 [60, 61, 62]).1).bind fun q2 => some (Tree.mk 9 [] [q1.1, q2.1], q2.2) else some q1).bind fun q =>
   if (rskip T q.2 [63]).2 then (rp T n .choice (rskip T q.2 [63]).1).bind fun q2 =>
    if (rskip T q2.2 [58]).2 then (rp T n .choice (rskip T q2.2 [58]).1).bind fun q3 => some (Tree.mk 10 [] [q.1, q2.1, q3.1], q3.2)
    else some (q.1, (q2.2.1, true))
   else some q
 | n + 1, .implies, r => (rp T n (.row 0) r).bind fun q => if (rskip T q.2 [61, 62]).2 then (rp T n .implies (rskip T q.2 [61, 62]).1).bind fun q2 => some (Tree.mk 8 [] [q.1, q2.1], q2.2) else some q
 | n + 1, .row i, r => if 3 ≤ i then rp T n .least r else (rp T n (.row (i + 1)) r).bind fun q => rp T n (.rest i [q.1]) q.2
 | n + 1, .rest i acc, r => if (rskip T r (rowSign i)).2 then (rp T n (.row (i + 1)) (rskip T r (rowSign i)).1).bind fun q => rp T n (.rest i (acc ++ [q.1])) q.2 else some (mkRow i acc, r)
 | n + 1, .least, r => if rword T r = [] then some (zeroTree, (r.1, true))
   else if rword T r = [33] then (rp T n .least (r.1 + 1, r.2)).bind fun q => some (Tree.mk 4 [] [q.1], q.2)
   else if rword T r = [40] then (rp T n .choice (r.1 + 1, r.2)).bind fun q => if (rskip T q.2 [41]).2 then some (q.1, (rskip T q.2 [41]).1) else some (q.1, (q.2.1, true))
   else if rword T r = [48] then some (.mk 1 [] [], (r.1 + 1, r.2))
   else if rword T r = [49] then some (.mk 2 [] [], (r.1 + 1, r.2))
   else if isNameB (rword T r) then some (.mk 3 (rword T r) [], (r.1 + 1, r.2))
   else some (zeroTree, (r.1, true))

/-! what is behind a token -/
inductive AtTok (text : List UInt8) (T : List Tk) (e : Int) : Nat → Nat → List UInt8 → Prop
 | mk {I a : Nat} {x : List UInt8} (h : T[I]? = some (a, x)) (hn : x ≠ [] → ∀ (a' : Nat) (x' : List UInt8), next text a x = .ok a' x' → AtTok text T e (I + 1) a' x') (hb : x ≠ [] → ∀ b, next text a x = .bad b → T.length = I + 1 ∧ e = (b : Int))
   (hend : x = [] → T.length = I + 1 ∧ e = -1) : AtTok text T e I a x
section
variable {text : List UInt8} {T : List Tk} {e : Int} {I a : Nat} {x : List UInt8}
theorem AtTok.get (h : AtTok text T e I a x) : T[I]? = some (a, x) := by cases h; assumption
theorem AtTok.next (h : AtTok text T e I a x) (hx : x ≠ []) : (∀ a' x', Fm.next text a x = .ok a' x' → AtTok text T e (I + 1) a' x') ∧ (∀ b, Fm.next text a x = .bad b → T.length = I + 1 ∧ e = (b : Int)) := by
 cases h with
 | mk h1 hn hb _ => exact ⟨hn hx, hb hx⟩
theorem AtTok.last (h : AtTok text T e I a []) : T.length = I + 1 ∧ e = -1 := by
 cases h with
 | mk h1 _ _ hend => exact hend rfl
end
end Fm

namespace Fm
open Go Go.Eng
/-! ### the reader says what the parser says -/
section
variable {text : List UInt8} {T : List Tk} {e : Int} {I a b : Nat} {x s : List UInt8} {r : RS} {q : Tree × RS} {t : Tree}
def OffS (T : List Tk) (r : RS) : Prop := r.2 = true ∨ T.length ≤ r.1
def BadAt (T : List Tk) (e : Int) (b : Nat) (r : RS) : Prop := (r.2 = true ∧ ∃ y, T[r.1]? = some (b, y)) ∨ (T.length ≤ r.1 ∧ e = (b : Int))
theorem BadAt.off (h : BadAt T e b r) : OffS T r := by
 rcases h with h | h
 ·exact .inl h.1
 ·exact .inr h.1
theorem BadAt.set (h : BadAt T e b r) : BadAt T e b (r.1, true) := by
 rcases h with h | h
 ·exact .inl ⟨rfl, h.2⟩
 ·exact .inr h
def Rel (text : List UInt8) (T : List Tk) (e : Int) : PR → Tree × RS → Prop
 | .ok t a x, q => q.1 = t ∧ q.2.2 = false ∧ AtTok text T e q.2.1 a x
 | .bad b, q => BadAt T e b q.2
end
def sameP (T : List Tk) (n : Nat) (r : RS) : Option (Tree × RS) := (rp T n .implies r).bind fun q1 => if (rskip T q1.2 [60, 61, 62]).2 then (rp T n .implies (rskip T q1.2 [60, 61, 62]).1).bind fun q2 => some (Tree.mk 9 [] [q1.1, q2.1], q2.2) else some q1
def Sim (text : List UInt8) (T : List Tk) (e : Int) (I : Nat) (x : List UInt8) (p : PR) : NT → Prop
 | .choice => ∃ m q, rp T m .choice (I, false) = some q ∧ Rel text T e p q
 | .same => ∃ m q, sameP T m (I, false) = some q ∧ Rel text T e p q
 | .implies => ∃ m q, rp T m .implies (I, false) = some q ∧ Rel text T e p q
 | .row i => i ≤ 3 → ∃ m q, rp T m (.row i) (I, false) = some q ∧ Rel text T e p q
 | .rest i acc => i ≤ 2 → ∃ m q, rp T m (.rest i acc) (I, false) = some q ∧ Rel text T e p q
 | .not => ∃ m q, rp T m .least (I, false) = some q ∧ Rel text T e p q
 | .least => x ≠ [33] → ∃ m q, rp T m .least (I, false) = some q ∧ Rel text T e p q
/-- Every token in the row is of a kind. -/
def Kinds (x : List UInt8) : Prop := x = [] ∨ x ∈ signs ∨ x = [48] ∨ x = [49] ∨ isNameB x = true
/-- What the reference answers of a text that is not too long, out of its tokens and what its reader says. -/
def refTop (text : List UInt8) (T : List Tk) (e : Int) (q : Tree × RS) : Tree × Int × Int :=
 if q.2.1 < T.length ∧ (q.2.2 = true ∨ (T.getD q.2.1 (0, [])).2 ≠ []) then (zeroTree, ((T.getD q.2.1 (0, [])).1 : Int), 4)
 else if 0 ≤ e then (zeroTree, e, 4) else if validB q.1 then (q.1, 0, 0) else (zeroTree, (text.length : Int), 5)
end Fm

namespace Go.Proofs.YtkgllhkhdjodeaaGreat
open Go Go.Eng Go.Proofs
/-- Tokens in memory. -/
def RdTk (w : World) (T : List Fm.Tk) (a : Option Addr) : Prop := ∀ i t, T[i]? = some t → ∃ b off, a = some ⟨b, off, none⟩ ∧ w.cell? ⟨b, off + i * 2, none⟩ = some (.int .i64 (t.1 : Int)) ∧ w.cell? ⟨b, off + i * 2 + 1, none⟩ = some (.string (str t.2))
theorem RdTk.next {w0 w : World} {C : List Chunk} {T : List Fm.Tk} {a : Option Addr} (h : RdTk w0 T a) (hS : St w0 [] C w) : RdTk w T a := fun i t hx => by
 obtain ⟨b, off, ha, hc, hd⟩ := h i t hx
 exact ⟨b, off, ha, hS.oldc hc (by simp), hS.oldc hd (by simp)⟩
abbrev rdv (T : List Fm.Tk) (a : Option Addr) (c : Nat) (r : Fm.RS) : Value := .agg [.slice a T.length c, .int .i64 (r.1 : Int), .bool r.2].toArray
end Go.Proofs.YtkgllhkhdjodeaaGreat

namespace Go.Proofs.YtkgllhkhdjodeaaGreat
open Go Go.Eng Go.Proofs Dg
theorem check_c (l : List (List UInt8)) (a : Option Addr) (cap : Nat) (hcap : l.length ≤ cap) (hll : l.length ≤ 1099511627776) (w : World) (hr : RdS w l a) : Pure Tryz.prog 43 [.slice a l.length cap] w (.int .i64 (namesE l)) := by
 refine enter Tryz.func43 rfl Tryz.ntmps43 rfl (St.init _) ?_
 refine jN 17 ?_
 refine WC.cond rfl (fun h7 => ?_) (fun h7 => ?_)
 ·have hE : namesE l = 5 := by (unfold namesE; rw [if_pos (by simp at h7; omega)])
  refine jN 8 ?_
  exact WQ.ret (rs := [.tmp 2]) rfl (.tmp rfl .nil) (fun w hS => ⟨by rw [hE]; rfl, hS⟩)
 ·have h24 : l.length ≤ 24 := by simp at h7; omega
  have hE : namesE l = namesG [] l := by (unfold namesE; rw [if_neg (by omega)])
  refine jN 14 ?_
  refine WC.loop (α := Nat) (fun i => i ≤ l.length ∧ namesE l = namesG (l.take i) (l.drop i)) (fun i => [(0, .slice a l.length cap), (8, .slice a l.length cap), (9, .int .i64 (l.length : Int)), (10, .int .i64 (i : Int))]) (fun _ => []) (fun i => l.length - i) (0) ?_ ?_ ?_ ?_
  ·exact ⟨Nat.zero_le _, by rw [hE]; rfl⟩
  ·exact ⟨rfl, rfl, rfl, rfl, trivial⟩
  ·rfl
  rintro i ⟨hi, hEi⟩
  refine jN 7 ?_
  refine WC.cond rfl (fun h11 => ?_) (fun h11 => ?_)
  ·have hlt : i < l.length := by simpa using h11
   obtain ⟨s, hx⟩ : ∃ s, l[i]? = some s := ⟨_, List.getElem?_eq_getElem hlt⟩
   obtain ⟨b, off, rfl, hcell⟩ := hr i s hx
   have hst := namesG_step hx
   have htl : (l.take i).length = i := by simp; omega
   have hrt : ∀ {w0 : World}, RdS w0 l (some ⟨b, off, none⟩) → RdS w0 (l.take i) (some ⟨b, off, none⟩) := fun h j x hj => h j x (by (rw [List.getElem?_take] at hj; split at hj; exact hj; cases hj))
   refine jN 9 ?_
   refine WL.indexAddr F.sl25 rfl rfl rfl hlt ?_
   refine jN 1 ?_
   refine WL.load1 F.one9 rfl rfl (v := .string (str s)) (fun w hS => hS.oldc (by simpa using hcell) (by simp)) ?_
   refine jN 12 ?_
   refine WL.callV F.fun95 rfl rfl (fun w hS => isName_c s w) ?_
   refine jN 6 ?_
   refine WC.cond rfl (fun h15 => ?_) (fun h15 => ?_)
   ·refine jN 13 ?_
    exact WQ.ret (rs := [.tmp 2]) rfl (.tmp rfl .nil) (fun w hS => ⟨by rw [hEi, hst, if_pos (by simpa using h15)]; rfl, hS⟩)
   ·refine jN 7 ?_
    refine WL.y (F := fun _ => True) (Yl.sliceSlTo (n := i) F.sl25 rfl rfl (by omega)) rfl (fun _ _ => trivial) ?_
    refine WA.say 22 (.slice (some ⟨b, off, none⟩) (l.take i).length cap) (by rw [htl]; rfl) ?_
    refine jN 3 ?_
    refine WL.callV F.fun45 rfl rfl (fun w hS => scontains_c (l.take i) s (some ⟨b, off, none⟩) cap (by rw [htl]; omega) w (hrt (hr.next hS))) ?_
    refine jN 4 ?_
    refine WC.cond rfl (fun h19 => ?_) (fun h19 => ?_)
    ·refine jN 13 ?_
     exact WQ.ret (rs := [.tmp 2]) rfl (.tmp rfl .nil) (fun w hS => ⟨by rw [hEi, hst, if_neg (by simpa using h15), if_pos h19]; rfl, hS⟩)
    ·refine jN 10 ?_
     refine WQ.back (i + 1) ?_ ?_ ?_ ?_
     ·exact ⟨by omega, by rw [hEi, hst, if_neg (by simpa using h15), if_neg (by simpa using h19)]⟩
     ·omega
     ·exact ⟨rfl, rfl, rfl, rfl, trivial⟩
     ·rfl
  ·have hie : i = l.length := by simp at h11; omega
   subst hie
   rw [List.drop_length] at hEi
   refine jN 12 ?_
   exact WQ.ret (rs := [.tmp 2]) rfl (.tmp rfl .nil) (fun w hS => ⟨by rw [hEi]; rfl, hS⟩)

end Go.Proofs.YtkgllhkhdjodeaaGreat

/-
 A range over a function: the statement, its rounds, the functions that yield. By an AI agent.
-/
namespace Go.Eng
open Go Go.RowKit Go.Proofs.YtkgllhkhdjodeaaGreat
/-! ### from the plain calculus to a round's -/
abbrev FR (l : Nat) : Fence := Fence.wide.inRound l
def isDefer : Op → Bool
 | .defer _ => true
 | _ => false
theorem not_defer {op : Op} (h : isDefer op = false) : ∀ c, op ≠ .defer c := fun c e => by rw [e] at h; cases h
section
variable {P : Program} {ops : Array Oper} {Q : Exit → Act → World → Prop} {n : Nat}
theorem rowsIn_wide {row : String} {args : Array Value} {w : World} {R : Value → World → Prop} (h : Rows P row args w R) : RowsIn Fence.wide n P row args w R := fun c cs _ => by
 obtain ⟨v, w', h1, h2⟩ := h c cs
 exact ⟨v, w', h1, stepsIn_wide.2 h2⟩
theorem upon_in {F : Fence} (hF : F = Fence.wide ∨ ∃ l, F = FR l) {o : Oper} {a : Act} {K : Act → World → Prop} {r : Result Next} (h : o.upon P a K Q r) : o.uponIn F n P a K Q r := by
 have hc : ∀ {m : Nat} {f : FuncId} {args : Array Value} {w : World} {R : Ending → World → Prop}, Calls P f args w R → CallsIn F m P f args w R := fun {m} {f} {args} {w} {R} h => by
  rcases hF with rfl | ⟨l, rfl⟩
  ·exact callsIn_wide.2 h
  ·exact callsIn_wide.2 h
 have hr : ∀ {m : Nat} {row : String} {args : Array Value} {w : World} {R : Value → World → Prop}, Rows P row args w R → RowsIn F m P row args w R := fun {m} {row} {args} {w} {R} h => by
  rcases hF with rfl | ⟨l, rfl⟩
  ·exact rowsIn_wide h
  ·exact rowsIn_wide h
 have hd : F.depth.isSome = true → 1 ≤ n := by
  rcases hF with rfl | ⟨l, rfl⟩ <;> (intro h; cases h)
 cases r with
 | ok x w' =>
  cases x <;> simp only [Oper.upon] at h <;> first
   | exact h
   | exact ⟨hd, hc h⟩
   | exact ⟨hd, hr h⟩
   | exact h.elim
 | halt x w' => cases x <;> first | exact h | exact h.elim
theorem semAt_nd {ρ : Operand → Value} {o : Oper} {ro : Option Nat} (h : isDefer o.op = false) : Oper.semAt ro ρ o = execOp ρ o := Oper.semAt_eq ro ρ o (not_defer h)
theorem fn_in {F : Fence} (hF : F = Fence.wide ∨ ∃ l, F = FR l) (f : FuncId) : F.fn f := by
 rcases hF with rfl | ⟨l, rfl⟩ <;> trivial
theorem oper_in {F : Fence} (hF : F = Fence.wide ∨ ∃ l, F = FR l) {o : Oper} {a : Act} {w : World} {K : Act → World → Prop} (hd : isDefer o.op = false) (h : o.wp P a w K Q) : o.wpIn F n P a w K Q :=
 ⟨fun f _ => fn_in hF f, by rw [semAt_nd hd]; exact upon_in hF h⟩
theorem wpO_in {F : Fence} (hF : F = Fence.wide ∨ ∃ l, F = FR l) {o : Oper} {rest : List Oper} {a : Act} {w : World} (hd : isDefer o.op = false) (hQ : ¬ LetsOut Q) (h : wpO P ops Q o (wpListIn F n P ops Q rest) a w) : wpListIn F n P ops Q (o :: rest) a w := by
 unfold wpO at h
 unfold wpListIn
 split at h
 ·rename_i hw
  rw [if_pos hw]
  rcases h with h | ⟨_, h⟩
  ·exact oper_in hF hd h
  ·exact absurd h hQ
 ·rename_i hw
  rw [if_neg hw]
  exact ⟨fun f _ => fn_in hF f, h⟩
theorem list_in {F : Fence} (hF : F = Fence.wide ∨ ∃ l, F = FR l) (hQ : ¬ LetsOut Q) : ∀ (l : List Oper) (a : Act) (w : World), (l.all fun o => !isDefer o.op) = true → wpList P ops Q l a w → wpListIn F n P ops Q l a w
 | [], _, _, _, h => h
 | o :: rest, a, w, hd, h => by
  simp only [List.all_cons, Bool.and_eq_true, Bool.not_eq_true'] at hd
  unfold wpListIn
  unfold wpList at h
  split at h
  ·rename_i hw
   rw [if_pos hw]
   rcases h with h | ⟨_, h⟩
   ·exact Oper.wpIn_mono (fun a w h => list_in hF hQ rest a w hd.2 h) (oper_in hF hd.1 h)
   ·exact absurd h hQ
  ·rename_i hw
   rw [if_neg hw]
   exact ⟨fun f _ => fn_in hF f, list_in hF hQ rest _ _ hd.2 h⟩
theorem any_in {F : Fence} (hF : F = Fence.wide ∨ ∃ l, F = FR l) (hQ : ¬ LetsOut Q) (hd : (ops.toList.all fun o => !isDefer o.op) = true) : ∀ (fuel : Nat) (listed : Array Bool) (a : Act) (w : World), wpAny P .any ops Q fuel listed a w → wpAnyIn F n P .any ops Q fuel listed a w
 | 0, _, _, _, h => h
 | fuel + 1, listed, a, w, h => ⟨h.1, fun i hi => by
  have h1 := h.2 i hi
  unfold wpOp at h1
  unfold wpOpIn
  split at h1
  ·rename_i ho; simp only [ho]; exact any_in hF hQ hd fuel _ _ _ h1
  ·rename_i o ho
   simp only [ho]
   have hdo : isDefer o.op = false := by
    have := List.all_eq_true.1 hd o (by rw [← Array.getElem?_toList] at ho; exact List.mem_of_getElem? ho)
    simpa using this
   split at h1
   ·rename_i hw
    rw [if_pos hw]
    rcases h1 with h1 | ⟨_, h1⟩
    ·exact Oper.wpIn_mono (fun a w h => any_in hF hQ hd fuel _ a w h) (oper_in hF hdo h1)
    ·exact absurd h1 hQ
   ·rename_i hw
    rw [if_neg hw]
    exact ⟨fun f _ => fn_in hF f, any_in hF hQ hd fuel _ _ _ h1⟩⟩
end
/-! ### the control of a round -/
section
variable {P : Program} {w0 : World} {O : List Nat} {ops : Array Oper} {Q : Exit → Act → World → Prop} {N : Nat} {D : List Deferred} {L : FL} {C : List Chunk} {K : Act → World → Prop}
def WI (P : Program) (l : Nat) (w0 : World) (O : List Nat) (c : Code) (Q : Exit → Act → World → Prop) (N : Nat) (D : List Deferred) (L : FL) (C : List Chunk) : Prop :=
 ∀ a w, Fr N D L a → St w0 O C w → c.wpIn (FR l) 0 P Q a w
variable {l : Nat}
theorem WI.seq {x y : Code} (h : WI P l w0 O x (Exit.then (y.wpIn (FR l) 0 P Q) Q) N D L C) : WI P l w0 O (.seq x y) Q N D L C := fun a w hF hS => wpIn_seq (h a w hF hS)
theorem WI.skip (h : WQ w0 O Q .normal N D L C) : WI P l w0 O .skip Q N D L C := fun a w hF hS => wpIn_skip (h a w hF hS)
theorem WI.label {i : Nat} (h : WQ w0 O Q .normal N D L C) : WI P l w0 O (.label i) Q N D L C := fun a w hF hS => wpIn_label (h a w hF hS)
theorem WI.ret (h : WQ w0 O Q .ret N D L C) : WI P l w0 O .ret Q N D L C := fun a w hF hS => wpIn_ret (h a w hF hS)
theorem WI.exit {i : Nat} (h : WQ w0 O Q (.exit i) N D L C) : WI P l w0 O (.exit i) Q N D L C := fun a w hF hS => wpIn_exit (h a w hF hS)
theorem WI.block {i : Nat} {c : Code} (h : WI P l w0 O c (Exit.inBlock i Q) N D L C) : WI P l w0 O (.block i c) Q N D L C := fun a w hF hS => wpIn_block (h a w hF hS)
theorem WI.region {i : Nat} {r : List Oper} (hQ : ¬ LetsOut Q) (hd : (r.all fun o => !isDefer o.op) = true) (h : WA w0 O (wpList P r.toArray Q r) N D L C) : WI P l w0 O (.region i r.toArray false) Q N D L C := fun a w hF hS =>
 wpIn_region_lit (list_in (.inr ⟨l, rfl⟩) hQ r a w hd (h a w hF hS))
theorem WI.cond {c : Operand} {x y : Code} {t : Bool} (hc : ev L c = some (.bool t)) (ht : t = true → WI P l w0 O x Q N D L C) (hf : t = false → WI P l w0 O y Q N D L C) :
  WI P l w0 O (.cond c x y) Q N D L C := fun a w hF hS => wpIn_cond_split (hF.ev hc) (fun h => ht h a w hF hS) (fun h => hf h a w hF hS)
theorem WI.condT {c : Operand} {x y : Code} (hc : ev L c = some (.bool true)) (h : WI P l w0 O x Q N D L C) : WI P l w0 O (.cond c x y) Q N D L C :=
 fun a w hF hS => wpIn_cond_true (hF.ev hc) (h a w hF hS)
theorem WI.condF {c : Operand} {x y : Code} (hc : ev L c = some (.bool false)) (h : WI P l w0 O y Q N D L C) : WI P l w0 O (.cond c x y) Q N D L C :=
 fun a w hF hS => wpIn_cond_false (hF.ev hc) (h a w hF hS)
theorem WI.chunks {c : Code} {C' : List Chunk} (hs : ∀ w, St w0 O C w → St w0 O C' w) (h : WI P l w0 O c Q N D L C') : WI P l w0 O c Q N D L C := fun a w hF hS => h a w hF (hs w hS)
theorem WI.know {c : Code} {φ : Prop} (hs : ∀ w, St w0 O C w → φ) (h : φ → WI P l w0 O c Q N D L C) : WI P l w0 O c Q N D L C := fun a w hF hS => h (hs w hS) a w hF hS
/-- A region that draws, in a round. -/
theorem WI.drawsL {id : Nat} {r : List Oper} {Fs : List (List Nat × (World → Prop))} (hQ : ¬ LetsOut Q) (hd : (r.all fun o => !isDefer o.op) = true) (hm : P.follows .mixedOrders = true) (hF : FactsOk w0 O L C Fs)
  (h : WD P w0 O r.toArray Q Fs r.length (Array.replicate r.length false) N D L C) : WI P l w0 O (.region id r.toArray true) Q N D L C := fun a w hFr hS => by
 refine wpIn_region_any hm (any_in (.inr ⟨l, rfl⟩) hQ (by simpa using hd) _ _ _ _ (wpAny_of_T (Fs := Fs) _ _ _ _ ?_))
 have hc : Closed r.toArray (Array.replicate r.length false) := by
  intro j oj _ hl
  rcases Nat.lt_or_ge j r.length with h' | h'
  ·simp [h'] at hl
  ·simp [h'] at hl
 have hS' : St w0 O C { w with drawn := w.drawn + 1 } := ⟨hS.os, hS.tape, hS.output, hS.size, hS.old, fun c hc => c.loc w _ (fun _ _ => rfl) (hS.ok c hc), hS.bnd, hS.disj⟩
 have h1 := h hc a { w with drawn := w.drawn + 1 } hFr hS' (fun f hf _ => hF _ hS' f hf)
 simpa using h1
/-! ### a region that yields -/
theorem WC.regionIn {i : Nat} {r : List Oper} (h : WA w0 O (wpListIn Fence.wide 0 P r.toArray Q r) N D L C) : WC P w0 O (.region i r.toArray false) Q N D L C := fun a w hF hS =>
 wpIn_wide.1 (wpIn_region_lit (h a w hF hS))
theorem WIL.nil (h : WQ w0 O Q .normal N D L C) : WA w0 O (wpListIn Fence.wide 0 P ops Q []) N D L C := fun a w hF hS => h a w hF hS
theorem WIL.step {o : Oper} {rest : List Oper} (hQ : ¬ LetsOut Q) (hd : isDefer o.op = false) (h : WK P w0 O ops Q o (wpListIn Fence.wide 0 P ops Q rest) N D L C) : WA w0 O (wpListIn Fence.wide 0 P ops Q (o :: rest)) N D L C := fun a w hF hS =>
 wpO_in (.inl rfl) hd hQ (h a w hF hS)
theorem WIL.guardT {o : Oper} {rest : List Oper} {j : Nat} {g : Bool} {dj : Nat} (hgd : o.guard = some (j, g)) (hj : (ops[j]?).bind (·.dst) = some dj) (hv : lk L dj = some (.bool g))
  (h : WA w0 O (wpListIn Fence.wide 0 P ops Q ({ o with guard := none } :: rest)) N D L C) : WA w0 O (wpListIn Fence.wide 0 P ops Q (o :: rest)) N D L C := fun a w hF hS => by
 have h' := h a w hF hS
 have hw : Region.wanted o (yielded ops a.tmps) = true := by
  have := hF.get dj _ hv
  simp [Region.wanted, hgd, yielded, hj, this]
 unfold wpListIn at h' ⊢
 rw [if_pos hw]
 rw [if_pos (by simp [Region.wanted])] at h'
 exact h'
variable {d : Nat} {ty : TypeId} {pos : String} {af : Array Edge}
theorem WIL.yield {β : Type} {b : Bool} {rest : List Oper} {x : Operand} {xs : List Operand} {tys : Array TypeId} {vs : List Value} {cs : β → List Chunk} {Cs C1 : List Chunk} {O' : List Nat} {φ : β → Prop}
  (hd : Nat.blt d N = true) (hfv : ev L x = some (.func (.yield l) #[] #[])) (hx : evs L xs = some vs) (hp : C.Perm (Cs ++ C1)) (hO1 : ∀ c ∈ Cs, ∀ k, c.fp k → k ∈ O') (hO2 : ∀ k ∈ O', ∃ c ∈ Cs, c.fp k)
  (hc : ∀ w, St w0 O (Cs ++ C1) w → St w O' Cs w → YieldAt Fence.wide 0 P l vs.toArray w fun e w' => e = .returned (.bool b) ∧ ∃ x, φ x ∧ St w O' (cs x) w')
  (h : ∀ x, φ x → WA w0 O (wpListIn Fence.wide 0 P ops Q rest) N D ((d, .bool b) :: L) (cs x ++ C1)) :
  WA w0 O (wpListIn Fence.wide 0 P ops Q (⟨some d, .call { callee := .value x, args := xs.toArray, argTypes := tys }, ty, pos, af, none⟩ :: rest)) N D L C := fun a w hF hS => by
 have ha : xs.toArray.map a.eval = vs.toArray := by apply Array.ext'; simp [hF.evs hx]
 have hS1 := hS.perm hp
 obtain ⟨fn, tmps, assign, body, hy, hR⟩ := hc w hS1 (hS1.focus hO1)
 unfold wpListIn
 rw [if_pos (by simp [Region.wanted])]
 refine ⟨fun f _ => trivial, ?_⟩
 have e1 : (Oper.semAt Fence.wide.round a.eval ⟨some d, .call { callee := .value x, args := xs.toArray, argTypes := tys }, ty, pos, af, none⟩).run P w = .ok (.round l fn tmps assign body) w := by
  rw [semAt_nd rfl]
  simp [execOp, resolve, Deferred.ofValue, hF.ev hfv, invoke, ha, hy]
 rw [e1]
 refine ⟨fun h => (by cases h), hR.mono ?_⟩
 rintro e w' ⟨rfl, y, hφ, hS'⟩
 exact h y hφ _ w' (hF.put d _ hd) (hS1.callC hS' hO2)
end
/-! ### the statement -/
/-- One block that is no row of cells. -/
def ob1 (b : Nat) (o : Obj) : Chunk where
 fp k := k = b
 ok w := w.heap[b]? = some o
 loc w w' h hw := by rw [h b rfl]; exact hw
theorem FpIs.ob1 {b : Nat} {o : Obj} : FpIs (ob1 b o) [b] := fun k => by simp [Eng.ob1]
section
variable {P : Program} {w0 : World} {O : List Nat} {ops : Array Oper} {Q : Exit → Act → World → Prop} {N : Nat} {D : List Deferred} {L : FL} {C : List Chunk} {K : Act → World → Prop}
theorem St.allocO {w : World} (h : St w0 O C w) (o : Obj) : St w0 O (ob1 w.heap.size o :: C) (w.alloc o) := by
 have hh : ∀ k, k < w.heap.size → (w.alloc o).heap[k]? = w.heap[k]? := fun k hk => Below.heap_alloc w _ k hk
 refine ⟨h.os, h.tape, h.output, by have := h.size; simp; omega, fun k hk ho => ?_, ?_, ?_, ?_⟩
 ·rw [hh k (Nat.lt_of_lt_of_le hk h.size)]; exact h.old k hk ho
 ·intro c hc
  rcases List.mem_cons.1 hc with rfl | hc
  ·exact World.alloc_heap_new w o
  ·exact c.loc w _ (fun k hk => hh k (h.bnd c hc k hk).1) (h.ok c hc)
 ·intro c hc k hk
  rcases List.mem_cons.1 hc with rfl | hc
  ·have : k = w.heap.size := hk
   subst this
   exact ⟨by simp, fun hlt => absurd hlt (Nat.not_lt.2 h.size)⟩
  ·exact ⟨by have := (h.bnd c hc k hk).1; simp; omega, (h.bnd c hc k hk).2⟩
 ·refine List.Pairwise.cons (fun c hc k hk hk' => ?_) h.disj
  have : k = w.heap.size := hk
  subst this
  exact Nat.lt_irrefl _ (h.bnd c hc _ hk').1
theorem St.putO {w : World} {b : Nat} {o : Obj} (h : St w0 O (ob1 b o :: C) w) (o' : Obj) : St w0 O (ob1 b o' :: C) (w.putObj b o') := by
 have hb : b < w.heap.size := lt_of_heap (h.ok _ (List.mem_cons_self ..))
 have hbn := h.bnd _ (List.mem_cons_self ..) b rfl
 have hd := List.pairwise_cons.1 h.disj
 refine ⟨h.os, h.tape, h.output, by rw [World.putObj_size]; exact h.size, fun k hk ho => ?_, ?_, ?_, List.Pairwise.cons hd.1 hd.2⟩
 ·rw [World.putObj_heap_other (fun e => by subst e; exact ho (hbn.2 hk))]; exact h.old k hk ho
 ·intro c hc
  rcases List.mem_cons.1 hc with rfl | hc9
  ·exact World.putObj_heap_same hb
  ·exact c.loc w _ (fun k hk => World.putObj_heap_other (fun e => hd.1 c hc9 b rfl (e ▸ hk))) (h.ok c (List.mem_cons_of_mem _ hc9))
 ·intro c hc k hk
  rw [World.putObj_size]
  rcases List.mem_cons.1 hc with rfl | hc
  ·exact h.bnd _ (List.mem_cons_self ..) k hk
  ·exact h.bnd c (List.mem_cons_of_mem _ hc) k hk
/-- What a round begins with. -/
def putL : List Nat → List Value → FL → FL
 | p :: ps, v :: vs, L => putL ps vs ((p, v) :: L)
 | _, _, L => L
theorem Fr.putL {Dd : List Deferred} : ∀ (ps : List Nat) (vs : List Value) {L : FL} {t : Array Value}, (ps.all fun p => Nat.blt p N) = true → Fr N Dd L { tmps := t, defers := Dd } →
  Fr N Dd (Eng.putL ps vs L) { tmps := (ps.zip vs).foldl (fun t (q : Nat × Value) => t.setIfInBounds q.1 q.2) t, defers := Dd }
 | [], _, _, _, _, h => by simpa [Eng.putL] using h
 | _ :: _, [], _, _, _, h => by simpa [Eng.putL] using h
 | p :: ps, v :: vs, L, t, hp, h => by
  simp only [List.all_cons, Bool.and_eq_true] at hp
  simp only [Eng.putL, List.zip_cons_cons, List.foldl_cons]
  exact Fr.putL ps vs hp.2 (h.put p v hp.1)
/-- How a round ends: on it goes. -/
def rdPost (G : Prop → Prop) (w1 : World) (O : List Nat) {σ : Type} (I : σ → Prop) (J : σ → List Chunk) : Exit → Act → World → Prop
 | .normal, _, w => ∃ y, I y ∧ St w1 O (J y) w
 | _, _, _ => False
theorem WQ.round {G : Prop → Prop} {σ : Type} {I : σ → Prop} {J : σ → List Chunk} (y : σ) (hI : I y) (h : ∀ w, St w0 O C w → St w0 O (J y) w) : WQ w0 O (rdPost G w0 O I J) .normal N D L C := fun a w hF hS => ⟨y, hI, h w hS⟩
/-- Between the assignment to the loop's left sides and the body. -/
def beginK (P : Program) (l : Nat) (body : Code) (Q : Exit → Act → World → Prop) (a : Act) (w : World) : Prop := ∃ w2, (Instr.beginRound l).run P w = .ok () w2 ∧ body.wpIn (FR l) 0 P Q a w2
theorem WQ.begin {l : Nat} {body : Code} {r : Loop} {C1 : List Chunk} (hr : r.state = .ready) (hp : C.Perm (ob1 l (.loop r) :: C1)) (h : WI P l w0 O body Q N D L (ob1 l (.loop { r with state := .busy }) :: C1)) :
  WQ w0 O (Exit.then (beginK P l body Q) (fun _ _ _ => False)) .normal N D L C := fun a w hF hS => by
 have hS1 := hS.perm hp
 exact ⟨_, run_beginRound (hS1.ok _ (List.mem_cons_self ..)) hr, h a _ hF (hS1.putO _)⟩
abbrev recOf (fn : FuncId) (t : Array Value) (ps : List Nat) (assign body : Code) (Db : Nat) : Loop := { state := .ready, pending := none, fn, tmps := t, params := ps.toArray, assign, body, defers := Db }
theorem WC.rangeFunc {σ : Type} {g : Operand} {ps : List Nat} {assign body : Code} {gf : FuncId} {cap : List Value} {C1 : List Chunk} {n : Nat} (encs : Nat → List Value) (I : Nat → σ → Prop) (J : σ → List Chunk) (G : σ → List Nat) (y0 : σ)
  (hJ : ∀ y, FpL (J y) (G y)) (hI0 : I 0 y0) (hg : ev L g = some (.func (.func gf) #[] cap.toArray)) (hf : funB P gf = some true) (hps : ∀ k, (encs k).length = ps.length) (hpN : (ps.all fun p => Nat.blt p N) = true) (hp : C.Perm (J y0 ++ C1))
  (hc : ∀ (l : Nat) (ch : σ → Chunk) (w : World), w0.heap.size ≤ l → St w0 O (J y0 ++ C1) w → (∀ y, FpIs (ch y) (l :: G y)) → (∀ c ∈ J y0 ++ C1, ∀ k, c.fp k → k ≠ l) → St w (l :: G y0) [ch y0] w →
   (∀ k y w1, k < n → I k y → St w (l :: G y0) [ch y] w1 → YieldAt Fence.wide 0 P l (encs k).toArray w1 fun e w' => e = .returned (.bool true) ∧ ∃ y', I (k + 1) y' ∧ St w1 (l :: G y) [ch y'] w') →
   Calls P gf (Value.func (.yield l) #[] #[] :: cap).toArray w fun e w' => ∃ y, (∃ v, e = .returned v) ∧ I n y ∧ St w (l :: G y0) [ch y] w')
  (hround : ∀ (l : Nat) (r : Loop) k y w1, k < n → I k y → r.state = .ready → w0.heap.size ≤ l → St w0 O (J y ++ C1) w1 →
   WI P l w1 (l :: G y) assign (Exit.then (beginK P l body (rdPost (fun p => p) w1 (l :: G y) (I (k + 1)) (fun y => ob1 l (.loop { r with state := .busy }) :: J y))) (fun _ _ _ => False)) N [] (putL ps (encs k) L) (ob1 l (.loop r) :: J y))
  (hdone : ∀ Db y, I n y → WQ w0 O Q .normal N ({ target := .collected Db, args := #[] } :: D) L (ob1 Db (.deferred (some [])) :: J y ++ C1)) :
  WC P w0 O (.rangeFunc g ps.toArray assign body) Q N D L C := fun a w hFr hS0 => by
 have hS := hS0.perm hp
 refine (wpIn_wide (n := 1)).1 (wpIn_rangeFunc ?_)
 intro fn _
 show ∃ l mark w₁ d w₁' f args w₂, (Instr.enterLoop fn a.tmps ps.toArray assign body none).run P w = _ ∧ _
 obtain ⟨W1, hW1⟩ : ∃ W1, (w.alloc (.deferred (some []))).alloc (.loop (recOf fn a.tmps ps assign body w.heap.size)) = W1 := ⟨_, rfl⟩
 have hSd := (hS.allocO (.deferred (some []))).allocO (.loop (recOf fn a.tmps ps assign body w.heap.size))
 rw [hW1, World.size_alloc] at hSd
 have hlsz : w0.heap.size ≤ w.heap.size + 1 := Nat.le_succ_of_le hS.size
 refine ⟨w.heap.size + 1, [{ target := .collected w.heap.size, args := #[] }], W1, { target := .fn (.func gf) cap.toArray, args := #[.func (.yield (w.heap.size + 1)) #[] #[]] }, W1, gf,
  #[.func (.yield (w.heap.size + 1)) #[] #[]] ++ cap.toArray, W1, ?_, ?_, ?_, ?_, fun h => (by cases h), ?_⟩
 ·rw [← hW1]; exact run_enterLoop_outer _ _ _ _ _
 ·simp only [resolve, hFr.ev hg]
  simp [go_sem]
 ·intro f' _; trivial
 ·simp [invoke, go_sem, run_callFunc hf]
 obtain ⟨Db, hD⟩ : ∃ Db, w.heap.size = Db := ⟨_, rfl⟩
 obtain ⟨l, hl⟩ : ∃ l, Db + 1 = l := ⟨_, rfl⟩
 rw [hD] at hSd hlsz ⊢
 rw [hl] at hSd hlsz ⊢
 have hch : ∀ y, FpIs (bun (l :: G y) (fun _ : Unit => ob1 l (.loop (recOf fn a.tmps ps assign body Db)) :: J y) (fun _ => True)) (l :: G y) := fun y k => Iff.rfl
 have hclose : ∀ (y : σ) {v : World} {O1 : List Nat} {C2 : List Chunk} {wb : World}, St wb O1 (ob1 l (.loop (recOf fn a.tmps ps assign body Db)) :: J y ++ C2) v → St wb O1 (bun (l :: G y) (fun _ : Unit => ob1 l (.loop (recOf fn a.tmps ps assign body Db)) :: J y) (fun _ => True) :: C2) v := fun y {v} {O1} {C2} {wb} h =>
  St.bunClose' (Cs := fun _ : Unit => ob1 l (.loop (recOf fn a.tmps ps assign body Db)) :: J y) () trivial (.cons FpIs.ob1 (hJ y)) h
 -- the world in which the iterator is called
 have hSP : St w0 O (ob1 l (.loop (recOf fn a.tmps ps assign body Db)) :: J y0 ++ (ob1 Db (.deferred (some [])) :: C1)) W1 := hSd.perm (.cons _ (List.perm_middle.symm))
 have hfoc : St W1 (l :: G y0) [bun (l :: G y0) (fun _ : Unit => ob1 l (.loop (recOf fn a.tmps ps assign body Db)) :: J y0) (fun _ => True)] W1 :=
  (hclose y0 hSP).focus (Cs := [_]) (C1 := ob1 Db (.deferred (some [])) :: C1) (fun c hc k hk => by rw [List.mem_singleton.1 hc] at hk; exact hk)
 have hJC : St w0 O (J y0 ++ C1) W1 := hSP.sublist (List.Sublist.cons _ ((List.Sublist.refl _).append (List.sublist_cons_self ..)))
 have hdis : ∀ c ∈ J y0 ++ C1, ∀ k, c.fp k → k ≠ l := fun c hc k hk e => by
  have h1 := (hS.bnd c hc k hk).1
  subst e; omega
 refine (callsIn_wide (n := 0)).2 ?_
 have hargs : #[Value.func (.yield l) #[] #[]] ++ cap.toArray = (Value.func (.yield l) #[] #[] :: cap).toArray := by simp
 rw [hargs]
 refine (hc l (fun y => bun (l :: G y) (fun _ : Unit => ob1 l (.loop (recOf fn a.tmps ps assign body Db)) :: J y) (fun _ => True)) W1 hlsz hJC hch hdis hfoc ?_).mono ?_
 ·-- one round
  intro k y w1 hk hI hSy
  obtain ⟨_, _, _, _, hSo⟩ := hSy.bunOpen
  have hlr := hSo.ok _ (List.mem_cons_self ..)
  have hS1 : St w1 (l :: G y) (ob1 l (.loop (recOf fn a.tmps ps assign body Db)) :: J y) w1 := by
   have h9 : St W1 (l :: G y0) ((ob1 l (.loop (recOf fn a.tmps ps assign body Db)) :: J y) ++ []) w1 := hSo
   exact h9.focus (FpL.one (.cons FpIs.ob1 (hJ y)))
  have hglob : St w0 O (J y ++ C1) w1 := by
   have h8 : St w0 O ([bun (l :: G y0) (fun _ : Unit => ob1 l (.loop (recOf fn a.tmps ps assign body Db)) :: J y0) (fun _ => True)] ++ (ob1 Db (.deferred (some [])) :: C1)) W1 := hclose y0 hSP
   have h9 := h8.callC hSy (fun k hk => ⟨_, List.mem_singleton.2 rfl, hk⟩)
   obtain ⟨_, _, _, _, h7⟩ := (show St w0 O (bun (l :: G y) (fun _ : Unit => ob1 l (.loop (recOf fn a.tmps ps assign body Db)) :: J y) (fun _ => True) :: (ob1 Db (.deferred (some [])) :: C1)) w1 from h9).bunOpen
   exact (show St w0 O (ob1 l (.loop (recOf fn a.tmps ps assign body Db)) :: (J y ++ (ob1 Db (.deferred (some [])) :: C1))) w1 from h7).sublist (List.Sublist.cons _ ((List.Sublist.refl _).append (List.sublist_cons_self ..)))
  have hy := run_yield (P := P) (args := (encs k).toArray) hlr (by simp [hps k])
  refine ⟨_, _, _, _, hy, ?_⟩
  have hfr : Fr N [] (putL ps (encs k) L) { tmps := ((recOf fn a.tmps ps assign body Db).params.zip (encs k).toArray).foldl (fun t (q : Tmp × Value) => t.setIfInBounds q.1 q.2) (recOf fn a.tmps ps assign body Db).tmps, defers := [] } := by
   have h1 : Fr N [] L { tmps := a.tmps, defers := [] } := ⟨rfl, hFr.size, hFr.get⟩
   have h2 := Fr.putL ps (encs k) hpN h1
   simpa using h2
  have hw := hround l (recOf fn a.tmps ps assign body Db) k y w1 hk hI rfl hlsz hglob _ w1 hfr hS1
  refine roundIn_of_wpIn (F := Fence.wide) trivial (wpIn_mono hw ?_)
  intro e a1 w2 h
  cases e with
  | normal =>
   obtain ⟨w3, hb, hbody⟩ := h
   refine ⟨w3, hb, wpIn_mono hbody ?_⟩
   intro e2 a2 w4 h4
   cases e2 with
   | normal =>
    obtain ⟨y', hI', hS'⟩ := h4
    have hl4 := hS'.ok _ (List.mem_cons_self ..)
    refine ⟨_, _, run_endRound none hl4, rfl, y', hI', ?_⟩
    have h5 := hS'.putO (.loop { (recOf fn a.tmps ps assign body Db) with state := .ready, pending := none })
    have h6 : St w1 (l :: G y) (ob1 l (.loop (recOf fn a.tmps ps assign body Db)) :: J y' ++ []) (w4.putObj l (.loop { (recOf fn a.tmps ps assign body Db) with state := .ready, pending := none })) := by
     rw [List.append_nil]
     exact h5
    exact hclose y' h6
   | _ => exact h4.elim
  | _ => exact h.elim
 ·-- behind the iterator
  rintro e W2 ⟨y, ⟨v, rfl⟩, hIn, hS2⟩
  have h8 : St w0 O ([bun (l :: G y0) (fun _ : Unit => ob1 l (.loop (recOf fn a.tmps ps assign body Db)) :: J y0) (fun _ => True)] ++ (ob1 Db (.deferred (some [])) :: C1)) W1 := hclose y0 hSP
  have h9 := h8.callC hS2 (fun k hk => ⟨_, List.mem_singleton.2 rfl, hk⟩)
  obtain ⟨_, _, _, _, h7⟩ := (show St w0 O (bun (l :: G y) (fun _ : Unit => ob1 l (.loop (recOf fn a.tmps ps assign body Db)) :: J y) (fun _ => True) :: (ob1 Db (.deferred (some [])) :: C1)) W2 from h9).bunOpen
  have hl7 := h7.ok _ (List.mem_cons_self ..)
  refine ⟨none, _, run_endLoop hl7 (by simp), ?_⟩
  have h6 := (show St w0 O (ob1 l (.loop (recOf fn a.tmps ps assign body Db)) :: (J y ++ (ob1 Db (.deferred (some [])) :: C1))) W2 from h7).putO (.loop { (recOf fn a.tmps ps assign body Db) with state := .exhausted })
  refine hdone Db y hIn _ _ ⟨?_, hFr.size, hFr.get⟩ ((h6.sublist (List.sublist_cons_self ..)).perm List.perm_middle)
  show [_] ++ a.defers = _
  rw [hFr.defers]; rfl
/-! ### a function that holds such a statement -/
/-- The body returns, its marks taken. -/
def bodyPostR (P : Program) (fn : Func) (R : Ending → World → Prop) : Exit → Act → World → Prop
 | .normal, a, w | .ret, a, w => LeavesInM Fence.wide 0 P fn a.tmps R a.defers .returning w
 | _, _, _ => False
theorem enterM {f : FuncId} {fn : Func} {c : Code} {args : List Value} {w : World} {R : Ending → World → Prop} (hf : P.funcs[f]? = some fn) (hb : fn.body = some c) (hn : fn.ntmps = N) (hl : Nat.ble args.length N = true) (hS : St w O C w)
  (h : WC P w O c (bodyPostR P fn R) N [] (fl0 args 0) C) : Calls P f args.toArray w R := by
 refine callsIn_wide.1 (callsIn_of_wp_marks (n := 0) hf hb trivial (wpIn_wide.2 (Code.wp_mono (Q := bodyPostR P fn R) (fun e a w h => by cases e <;> first | exact h | exact h.elim) ?_)))
 subst hn
 have := h _ w (Fr.init args fn.ntmps (Nat.le_of_ble_eq_true hl)) hS
 simpa using this
theorem WQ.retM1 {fn : Func} {R : Ending → World → Prop} {rs : List ResultVar} {vs : List Value} {Db : Nat} {C1 : List Chunk} (hr : fn.results = rs.toArray) (hp : C.Perm (ob1 Db (.deferred (some [])) :: C1)) (h : RV P L C1 rs vs) (hR : ∀ w, St w0 O C1 w → R (.returned (tup vs)) w) :
  WQ w0 O (bodyPostR P fn R) .ret N [{ target := .collected Db, args := #[] }] L C := fun a w hF hS => by
 show LeavesInM Fence.wide 0 P fn a.tmps R a.defers .returning w
 rw [hF.defers]
 have hS1 := hS.perm hp
 have hF' : Fr N a.defers L a := ⟨rfl, hF.size, hF.get⟩
 have hS2 := (hS1.putO (.deferred none)).sublist (List.sublist_cons_self ..)
 exact ⟨by simp, .inl ⟨Db, _, rfl, run_takeDeferred (hS1.ok _ (List.mem_cons_self ..)), _, run_results hr h hF' hS2, hR _ hS2⟩⟩
end
end Go.Eng

/-
 A row of sets: their nodes, to be read. By an AI agent.
-/
namespace Go.Proofs.YtkgllhkhdjodeaaGreat
open Go Go.Eng Go.Proofs Dg
abbrev DV := BT × Option Addr × Nat
def RdIn (w : World) (x : DV) (F : List Nat) : Prop := x.1.ok 0 ∧ ∀ (j : Nat) (u : Value), (decs (canon x.1).1)[j]? = some u → ∃ b off, x.2.1 = some ⟨b, off, none⟩ ∧ w.cell? ⟨b, off + j, none⟩ = some u ∧ b ∈ F
def dsC (F : List Nat) (l : List DV) : Chunk where
 fp k := k ∈ F
 ok w := ∀ x ∈ l, RdIn w x F
 loc w w' h hw := fun x hx => ⟨(hw x hx).1, fun j u hu => by
  obtain ⟨b, off, e1, e2, e3⟩ := (hw x hx).2 j u hu
  exact ⟨b, off, e1, by rw [World.cell?_of_block (h b e3)]; exact e2, e3⟩⟩
theorem FpIs.dsC {F : List Nat} {l : List DV} : FpIs (dsC F l) F := fun k => Iff.rfl
theorem dsC_rd {F : List Nat} {l : List DV} {w : World} {x : DV} (h : (dsC F l).ok w) (hx : x ∈ l) : RdD w x.1 x.2.1 := ⟨(h x hx).1, fun j u hu => by
 obtain ⟨b, off, e1, e2, _⟩ := (h x hx).2 j u hu
 exact ⟨b, off, e1, e2⟩⟩
abbrev dcs (l : List DV) : List Value := l.flatMap fun x => [.slice x.2.1 (canon x.1).1.length x.2.2, .int .i64 ((canon x.1).2 : Int)]
theorem dcs_append (l m : List DV) : dcs (l ++ m) = dcs l ++ dcs m := by simp [dcs]
theorem dcs_len : ∀ l : List DV, (dcs l).length = l.length * 2
 | [] => rfl
 | x :: l => by
  have ih := dcs_len l
  simp only [dcs, List.flatMap_cons, List.length_append, List.length_cons, List.length_nil] at ih ⊢
  omega
theorem dcs_at : ∀ {l : List DV} {k : Nat} {x : DV}, l[k]? = some x → ∀ j u, [Value.slice x.2.1 (canon x.1).1.length x.2.2, .int .i64 ((canon x.1).2 : Int)][j]? = some u → (dcs l)[k * 2 + j]? = some u
 | y :: l, 0, x, h, j, u, hu => by
  simp at h; subst h
  have hj : j < 2 := by have := (List.getElem?_eq_some_iff.1 hu).1; simpa using this
  simp only [dcs, List.flatMap_cons, Nat.zero_mul, Nat.zero_add]
  rw [List.getElem?_append_left (by simpa using hj)]
  exact hu
 | y :: l, k + 1, x, h, j, u, hu => by
  have ih := dcs_at (l := l) (k := k) (by simpa using h) j u hu
  simp only [dcs, List.flatMap_cons] at ih ⊢
  rw [List.getElem?_append_right (by simp; omega), show (k + 1) * 2 + j - [Value.slice y.2.1 (canon y.1).1.length y.2.2, .int .i64 ((canon y.1).2 : Int)].length = k * 2 + j by simp; omega]
  exact ih
section
variable {w0 : World} {O : List Nat} {C : List Chunk}
theorem St.dsNil {w : World} (h : St w0 O C w) : St w0 O (dsC [] [] :: C) w :=
 ⟨h.os, h.tape, h.output, h.size, h.old, fun c hc => by
  rcases List.mem_cons.1 hc with rfl | hc
  ·intro x hx; cases hx
  ·exact h.ok c hc, fun c hc k hk => by
  rcases List.mem_cons.1 hc with rfl | hc
  ·cases hk
  ·exact h.bnd c hc k hk, List.Pairwise.cons (fun _ _ _ hk => by cases hk) h.disj⟩
theorem St.dsSnoc {w : World} {F : List Nat} {l : List DV} {t : BT} {a : Option Addr} {c : Nat} (ht : t.ok 0) (h : St w0 O (dsC F l :: dC a c t :: C) w) : ∃ F', St w0 O (dsC F' (l ++ [(t, a, c)]) :: C) w := by
 have hok : (dC a c t).ok w := h.ok _ (List.mem_cons_of_mem _ (List.mem_cons_self ..))
 have hob : ∃ G : List Nat, (∀ k ∈ G, (dC a c t).fp k) ∧ RdIn w (t, a, c) G := by
  by_cases h0 : (canon t).1.length = 0
  ·exact ⟨[], by simp, ht, fun j u hu => by
    have := (List.getElem?_eq_some_iff.1 hu).1
    rw [decs_len] at this
    dsimp only at this
    omega⟩
  ·obtain ⟨g, hg, _, _⟩ := rowc_addr hok (by omega)
   subst hg
   exact ⟨[g], fun k hk => by simp at hk; subst hk; rfl, ht, fun j u hu => ⟨g, 0, rfl, by rw [Nat.zero_add]; exact rowc_cells hok hu, by simp⟩⟩
 obtain ⟨G, hG1, hG2⟩ := hob
 refine ⟨F ++ G, h.join (fun k hk => ?_) (fun hc hd _ => ?_)⟩
 ·rcases List.mem_append.1 hk with hk | hk
  ·exact .inl hk
  ·exact .inr (hG1 k hk)
 ·intro x hx
  rcases List.mem_append.1 hx with hx | hx
  ·exact ⟨(hc x hx).1, fun j u hu => by
    obtain ⟨b, off, e1, e2, e3⟩ := (hc x hx).2 j u hu
    exact ⟨b, off, e1, e2, List.mem_append_left _ e3⟩⟩
  ·rw [List.mem_singleton.1 hx]
   exact ⟨hG2.1, fun j u hu => by
    obtain ⟨b, off, e1, e2, e3⟩ := hG2.2 j u hu
    exact ⟨b, off, e1, e2, List.mem_append_right _ e3⟩⟩
end
end Go.Proofs.YtkgllhkhdjodeaaGreat

/-
 Rows of sets, to be read. By an AI agent.
-/
namespace Go.Proofs.YtkgllhkhdjodeaaGreat
open Go Go.Eng Go.Proofs Dg
structure RdDL (w : World) (ds : List DV) (a : Option Addr) : Prop where
 hd : ∀ (j : Nat) (u : Value), (dcs ds)[j]? = some u → ∃ b off, a = some ⟨b, off, none⟩ ∧ w.cell? ⟨b, off + j, none⟩ = some u
 rd : ∀ x ∈ ds, RdD w x.1 x.2.1
theorem RdDL.next {w0 w : World} {C : List Chunk} {ds : List DV} {a : Option Addr} (h : RdDL w0 ds a) (hS : St w0 [] C w) : RdDL w ds a :=
 ⟨fun j u hu => by
  obtain ⟨b, off, h1, h2⟩ := h.hd j u hu
  exact ⟨b, off, h1, hS.oldc h2 (by simp)⟩, fun x hx => (h.rd x hx).next0 hS⟩
theorem RdDL.of_row {w : World} {ds : List DV} {a : Option Addr} {n cap : Nat} {e : TypeId} {F : List Nat} (hn : n = ds.length) (h : (rowc (.slice a n cap) n e 2 (dcs ds)).ok w) (h2 : (dsC F ds).ok w) : RdDL w ds a :=
 ⟨fun j u hu => by
  have hlt := (List.getElem?_eq_some_iff.1 hu).1
  rw [dcs_len] at hlt
  obtain ⟨g, hg, _, _⟩ := rowc_addr h (by omega)
  subst hg
  exact ⟨g, 0, rfl, by rw [Nat.zero_add]; exact rowc_cells h hu⟩, fun x hx => dsC_rd h2 hx⟩
theorem RdDL.at {w : World} {ds : List DV} {a : Option Addr} (h : RdDL w ds a) {i : Nat} {x : DV} (hx : ds[i]? = some x) : ∃ b off, a = some ⟨b, off, none⟩ ∧ (∀ j v, [Value.slice x.2.1 (canon x.1).1.length x.2.2, .int .i64 ((canon x.1).2 : Int)][j]? = some v → w.cell? ⟨b, off + i * 2 + j, none⟩ = some v) ∧ RdD w x.1 x.2.1 := by
 obtain ⟨b, off, h1, _⟩ := h.hd (i * 2 + 0) _ (dcs_at hx 0 _ rfl)
 refine ⟨b, off, h1, fun j v hv => ?_, h.rd x (List.mem_of_getElem? hx)⟩
 obtain ⟨b', off', h3, h4⟩ := h.hd (i * 2 + j) v (dcs_at hx j v hv)
 rw [h1] at h3
 injection h3 with h3
 injection h3 with h5 h6
 subst h5; subst h6
 rw [Nat.add_assoc]; exact h4
end Go.Proofs.YtkgllhkhdjodeaaGreat

namespace Go.Proofs.YtkgllhkhdjodeaaGreat
open Go Go.Eng Go.Proofs Dg
structure ManyG where
 i : Nat
 t : BT
 ad : Option Addr
 ac : Nat
abbrev dvl (x : DV) : List Value := [.slice x.2.1 (canon x.1).1.length x.2.2, .int .i64 ((canon x.1).2 : Int)]

theorem AndAll_c (ds : List DV) (a : Option Addr) (cap : Nat) (hll : ds.length ≤ 1099511627776) (w : World) (hr : RdDL w ds a) : Calls Tryz.prog 101 [.slice a ds.length cap].toArray w (DPost (fun cf => ds.all (fun x => x.1.ev cf)) w) := by
 refine enter Tryz.func101 rfl Tryz.ntmps101 rfl (St.init _) ?_
 refine jN 3 ?_
 refine WL.alloc F.zero35 rfl (fun b2 => ?_)
 refine jN 5 ?_
 refine WL.call0 (β := DRes (fun _ => true)) (res := fun z => .returned z.v) (cs := fun z => [z.ch]) (ψ := fun _ => True) F.fun74 (fun d h => by cases h; rfl) rfl (fun w hS => (True_c w).mono (fun e w2 ⟨x, h1, h2⟩ => ⟨x, trivial, h1, h2⟩)) (fun z6 _ => ?_)
 refine WL.step ?_
 refine WL.alloc F.zero35 rfl (fun b3 => ?_)
 refine jN 16 ?_
 refine WC.chunks (C' := [pt b2 [.slice none 0 0, .int .i64 0] 35, pt b3 [.slice z6.1.2.1 (canon z6.1.1).1.length z6.1.2.2, .int .i64 ((canon z6.1.1).2 : Int)] 35, z6.ch]) (fun w hS => (jK hS)) ?_
 refine WC.loop (α := ManyG) (fun g => g.i ≤ ds.length ∧ g.t.ok 0 ∧ ∀ cf, g.t.ev cf = (ds.take g.i).all (fun x => x.1.ev cf)) (fun g => [(2, pp b2), (3, pp b3), (7, .slice a ds.length cap), (8, .int .i64 (ds.length : Int)), (9, .int .i64 (g.i : Int))]) (fun g => [pt b2 [.slice none 0 0, .int .i64 0] 35, pt b3 [.slice g.ad (canon g.t).1.length g.ac, .int .i64 ((canon g.t).2 : Int)] 35, dC g.ad g.ac g.t]) (fun g => ds.length - g.i) (⟨0, z6.1.1, z6.1.2.1, z6.1.2.2⟩) ?_ ?_ ?_ ?_
 ·exact ⟨Nat.zero_le _, z6.2.1, fun cf => by rw [z6.2.2]; rfl⟩
 ·exact ⟨rfl, rfl, rfl, rfl, rfl, trivial⟩
 ·rfl
 rintro ⟨i, t, ad, ac⟩ ⟨hi, hok, hev⟩
 dsimp only at hi hok hev
 show WC _ _ _ _ _ _ _ [(2, pp b2), (3, pp b3), (7, .slice a ds.length cap), (8, .int .i64 (ds.length : Int)), (9, .int .i64 (i : Int))] [pt b2 [.slice none 0 0, .int .i64 0] 35, pt b3 [.slice ad (canon t).1.length ac, .int .i64 ((canon t).2 : Int)] 35, dC ad ac t]
 refine jN 7 ?_
 refine WC.cond rfl (fun h10 => ?_) (fun h10 => ?_)
 ·have hlt : i < ds.length := by simpa using h10
  obtain ⟨x, hx⟩ : ∃ x, ds[i]? = some x := ⟨_, List.getElem?_eq_getElem hlt⟩
  obtain ⟨b, off, rfl, hcx, hrx⟩ := hr.at hx
  refine jN 7 ?_
  refine WL.indexAddr F.sl48 rfl rfl rfl hlt ?_
  refine jN 1 ?_
  refine WL.loadN F.agg35 rfl rfl (vs := dvl x) rfl (fun w hS j v hv => hS.oldc (hcx j v hv) (by simp)) ?_
  refine jN 1 ?_
  refine WL.alloc F.zero35 rfl (fun b5 => ?_)
  refine jN 10 ?_
  refine WL.call0 (β := DRes (fun cf => t.ev cf && x.1.ev cf)) (res := fun z => .returned z.v) (cs := fun z => [z.ch]) (ψ := fun _ => True) F.fun75 (fun d h => by cases h; rfl) rfl (fun w hS => (And_c t x.1 ad x.2.1 ac x.2.2 w (RdD.of_row hok (hS.ok (dC ad ac t) jM)) (hrx.next0 hS)).mono (fun e w2 ⟨x, h1, h2⟩ => ⟨x, trivial, h1, h2⟩)) (fun z15 _ => ?_)
  refine WL.step ?_
  refine WL.storeN F.agg35 rfl rfl rfl (by simp [Value.oneCell']) (by repeat (first | exact Upd.here | apply Upd.there)) (by repeat constructor) ?_
  refine WL.nil ?_
  refine WQ.block_normal ?_
  refine WQ.then_normal ?_
  refine WC.region ?_
  refine WL.step ?_
  refine WL.add rfl rfl rfl ⟨by omega, by omega⟩ ?_
  refine WL.step ?_
  refine WL.move rfl rfl ?_
  refine WL.nil ?_
  refine WQ.chunks (C' := [pt b2 [.slice none 0 0, .int .i64 0] 35, pt b3 [.slice z15.1.2.1 (canon z15.1.1).1.length z15.1.2.2, .int .i64 ((canon z15.1.1).2 : Int)] 35, z15.ch]) (fun w hS => (jK hS)) ?_
  refine WQ.back (⟨i + 1, z15.1.1, z15.1.2.1, z15.1.2.2⟩) ?_ ?_ ?_ ?_
  ·exact ⟨by show i + 1 ≤ ds.length; omega, z15.2.1, fun cf => by (show z15.1.1.ev cf = _; rw [z15.2.2]; dsimp only; rw [hev, List.take_add_one, hx]; simp)⟩
  ·(show ds.length - (i + 1) < ds.length - i; omega)
  ·exact ⟨rfl, rfl, rfl, rfl, rfl, trivial⟩
  ·rfl
 ·have hie : i = ds.length := by simp at h10; omega
  subst hie
  rw [List.take_length] at hev
  refine jN 14 ?_
  refine WQ.ret (rs := [.cell 2 35]) rfl (.cellN F.agg35 rfl jM rfl .nil) (fun w hS => ⟨⟨(t, ad, ac), hok, hev⟩, rfl, (jK hS)⟩)

theorem OrAll_c (ds : List DV) (a : Option Addr) (cap : Nat) (hll : ds.length ≤ 1099511627776) (w : World) (hr : RdDL w ds a) : Calls Tryz.prog 102 [.slice a ds.length cap].toArray w (DPost (fun cf => ds.any (fun x => x.1.ev cf)) w) := by
 refine enter Tryz.func102 rfl Tryz.ntmps102 rfl (St.init _) ?_
 refine jN 3 ?_
 refine WL.alloc F.zero35 rfl (fun b2 => ?_)
 refine jN 5 ?_
 refine WL.call0 (β := DRes (fun _ => false)) (res := fun z => .returned z.v) (cs := fun z => [z.ch]) (ψ := fun _ => True) F.fun103 (fun d h => by cases h; rfl) rfl (fun w hS => (False_c w).mono (fun e w2 ⟨x, h1, h2⟩ => ⟨x, trivial, h1, h2⟩)) (fun z6 _ => ?_)
 refine WL.step ?_
 refine WL.alloc F.zero35 rfl (fun b3 => ?_)
 refine jN 16 ?_
 refine WC.chunks (C' := [pt b2 [.slice none 0 0, .int .i64 0] 35, pt b3 [.slice z6.1.2.1 (canon z6.1.1).1.length z6.1.2.2, .int .i64 ((canon z6.1.1).2 : Int)] 35, z6.ch]) (fun w hS => (jK hS)) ?_
 refine WC.loop (α := ManyG) (fun g => g.i ≤ ds.length ∧ g.t.ok 0 ∧ ∀ cf, g.t.ev cf = (ds.take g.i).any (fun x => x.1.ev cf)) (fun g => [(2, pp b2), (3, pp b3), (7, .slice a ds.length cap), (8, .int .i64 (ds.length : Int)), (9, .int .i64 (g.i : Int))]) (fun g => [pt b2 [.slice none 0 0, .int .i64 0] 35, pt b3 [.slice g.ad (canon g.t).1.length g.ac, .int .i64 ((canon g.t).2 : Int)] 35, dC g.ad g.ac g.t]) (fun g => ds.length - g.i) (⟨0, z6.1.1, z6.1.2.1, z6.1.2.2⟩) ?_ ?_ ?_ ?_
 ·exact ⟨Nat.zero_le _, z6.2.1, fun cf => by rw [z6.2.2]; rfl⟩
 ·exact ⟨rfl, rfl, rfl, rfl, rfl, trivial⟩
 ·rfl
 rintro ⟨i, t, ad, ac⟩ ⟨hi, hok, hev⟩
 dsimp only at hi hok hev
 show WC _ _ _ _ _ _ _ [(2, pp b2), (3, pp b3), (7, .slice a ds.length cap), (8, .int .i64 (ds.length : Int)), (9, .int .i64 (i : Int))] [pt b2 [.slice none 0 0, .int .i64 0] 35, pt b3 [.slice ad (canon t).1.length ac, .int .i64 ((canon t).2 : Int)] 35, dC ad ac t]
 refine jN 7 ?_
 refine WC.cond rfl (fun h10 => ?_) (fun h10 => ?_)
 ·have hlt : i < ds.length := by simpa using h10
  obtain ⟨x, hx⟩ : ∃ x, ds[i]? = some x := ⟨_, List.getElem?_eq_getElem hlt⟩
  obtain ⟨b, off, rfl, hcx, hrx⟩ := hr.at hx
  refine jN 7 ?_
  refine WL.indexAddr F.sl48 rfl rfl rfl hlt ?_
  refine jN 1 ?_
  refine WL.loadN F.agg35 rfl rfl (vs := dvl x) rfl (fun w hS j v hv => hS.oldc (hcx j v hv) (by simp)) ?_
  refine jN 1 ?_
  refine WL.alloc F.zero35 rfl (fun b5 => ?_)
  refine jN 10 ?_
  refine WL.call0 (β := DRes (fun cf => t.ev cf || x.1.ev cf)) (res := fun z => .returned z.v) (cs := fun z => [z.ch]) (ψ := fun _ => True) F.fun105 (fun d h => by cases h; rfl) rfl (fun w hS => (Or_c t x.1 ad x.2.1 ac x.2.2 w (RdD.of_row hok (hS.ok (dC ad ac t) jM)) (hrx.next0 hS)).mono (fun e w2 ⟨x, h1, h2⟩ => ⟨x, trivial, h1, h2⟩)) (fun z15 _ => ?_)
  refine WL.step ?_
  refine WL.storeN F.agg35 rfl rfl rfl (by simp [Value.oneCell']) (by repeat (first | exact Upd.here | apply Upd.there)) (by repeat constructor) ?_
  refine WL.nil ?_
  refine WQ.block_normal ?_
  refine WQ.then_normal ?_
  refine WC.region ?_
  refine WL.step ?_
  refine WL.add rfl rfl rfl ⟨by omega, by omega⟩ ?_
  refine WL.step ?_
  refine WL.move rfl rfl ?_
  refine WL.nil ?_
  refine WQ.chunks (C' := [pt b2 [.slice none 0 0, .int .i64 0] 35, pt b3 [.slice z15.1.2.1 (canon z15.1.1).1.length z15.1.2.2, .int .i64 ((canon z15.1.1).2 : Int)] 35, z15.ch]) (fun w hS => (jK hS)) ?_
  refine WQ.back (⟨i + 1, z15.1.1, z15.1.2.1, z15.1.2.2⟩) ?_ ?_ ?_ ?_
  ·exact ⟨by show i + 1 ≤ ds.length; omega, z15.2.1, fun cf => by (show z15.1.1.ev cf = _; rw [z15.2.2]; dsimp only; rw [hev, List.take_add_one, hx]; simp)⟩
  ·(show ds.length - (i + 1) < ds.length - i; omega)
  ·exact ⟨rfl, rfl, rfl, rfl, rfl, trivial⟩
  ·rfl
 ·have hie : i = ds.length := by simp at h10; omega
  subst hie
  rw [List.take_length] at hev
  refine jN 14 ?_
  refine WQ.ret (rs := [.cell 2 35]) rfl (.cellN F.agg35 rfl jM rfl .nil) (fun w hS => ⟨⟨(t, ad, ac), hok, hev⟩, rfl, (jK hS)⟩)

theorem Ite_c (t1 t2 t3 : BT) (a1 a2 a3 : Option Addr) (c1 c2 c3 : Nat) (w : World) (hr1 : RdD w t1 a1) (hr2 : RdD w t2 a2) (hr3 : RdD w t3 a3) : Calls Tryz.prog 106 [dval t1 a1 c1, dval t2 a2 c2, dval t3 a3 c3].toArray w (DPost (fun cf => bif t1.ev cf then t2.ev cf else t3.ev cf) w) := by
 refine enter Tryz.func106 rfl Tryz.ntmps106 rfl (St.init _) ?_
 refine jN 3 ?_
 refine WL.boxN rfl rfl (fun b3 => ?_)
 refine jN 1 ?_
 refine WL.boxN rfl rfl (fun b4 => ?_)
 refine jN 1 ?_
 refine WL.boxN rfl rfl (fun b5 => ?_)
 refine jN 1 ?_
 refine WL.alloc F.zero35 rfl (fun b6 => ?_)
 refine jN 3 ?_
 refine WC.drawsL (by kernel_rfl) (FactsOk.cons (ds := [2, 4, 6, 7, 8]) (LoadOk.whole (t := 3) rfl jM) (FactsOk.cons (ds := [2, 4, 6, 7, 8]) (LoadOk.whole (t := 4) rfl jM) (FactsOk.cons (ds := [4, 6, 7, 8]) (LoadOk.whole (t := 3) rfl jM) (FactsOk.cons (ds := [6, 7, 8]) (LoadOk.whole (t := 5) rfl jM) (FactsOk.nil))))) ?_
 refine jF 0 0 rfl rfl (Yl.loadN F.agg35 rfl rfl) ?_
 refine jF 1 1 rfl rfl (Yl.loadN F.agg35 rfl rfl) ?_
 refine jF 3 2 rfl rfl (Yl.loadN F.agg35 rfl rfl) ?_
 refine jF 5 3 rfl rfl (Yl.loadN F.agg35 rfl rfl) ?_
 refine jA 2 rfl ?_
 refine WL.call0 (β := DRes (fun cf => t1.ev cf && t2.ev cf)) (res := fun z => .returned z.v) (cs := fun z => [z.ch]) (ψ := fun _ => True) F.fun75 (fun d h => by cases h; rfl) rfl (fun w hS => (And_c t1 t2 a1 a2 c1 c2 w (hr1.next0 hS) (hr2.next0 hS)).mono (fun e w2 ⟨x, h1, h2⟩ => ⟨x, trivial, h1, h2⟩)) (fun z9 _ => ?_)
 refine WD.on (closed_of (by kernel_rfl)) (fun w hS => Sx.gone rfl (Sx.gone rfl (Sx.keep ((fun j v hv => by rw [Nat.zero_add]; exact hS.cell jM hv)) (Sx.keep ((fun j v hv => by rw [Nat.zero_add]; exact hS.cell jM hv)) (Sx.none))))) ?_
 refine jA 4 rfl ?_
 refine WL.call0 (β := DRes (fun cf => !t1.ev cf)) (res := fun z => .returned z.v) (cs := fun z => [z.ch]) (ψ := fun _ => True) F.fun100 (fun d h => by cases h; rfl) rfl (fun w hS => (Not_c t1 a1 c1 w (hr1.next0 hS)).mono (fun e w2 ⟨x, h1, h2⟩ => ⟨x, trivial, h1, h2⟩)) (fun z11 _ => ?_)
 refine WD.on (closed_of (by kernel_rfl)) (fun w hS => Sx.gone rfl (Sx.gone rfl (Sx.gone rfl (Sx.keep ((fun j v hv => by rw [Nat.zero_add]; exact hS.cell jM hv)) (Sx.none))))) ?_
 refine jA 6 rfl ?_
 refine WL.call0 (β := DRes (fun cf => z11.1.1.ev cf && t3.ev cf)) (res := fun z => .returned z.v) (cs := fun z => [z.ch]) (ψ := fun _ => True) F.fun75 (fun d h => by cases h; rfl) rfl (fun w hS => (And_c z11.1.1 t3 z11.1.2.1 a3 z11.1.2.2 c3 w (z11.rd hS jM) (hr3.next0 hS)).mono (fun e w2 ⟨x, h1, h2⟩ => ⟨x, trivial, h1, h2⟩)) (fun z13 _ => ?_)
 refine jG ?_
 refine jA 7 rfl ?_
 refine WL.call0 (β := DRes (fun cf => z9.1.1.ev cf || z13.1.1.ev cf)) (res := fun z => .returned z.v) (cs := fun z => [z.ch]) (ψ := fun _ => True) F.fun105 (fun d h => by cases h; rfl) rfl (fun w hS => (Or_c z9.1.1 z13.1.1 z9.1.2.1 z13.1.2.1 z9.1.2.2 z13.1.2.2 w (z9.rd hS jM) (z13.rd hS jM)).mono (fun e w2 ⟨x, h1, h2⟩ => ⟨x, trivial, h1, h2⟩)) (fun z14 _ => ?_)
 refine jG ?_
 refine jA 8 rfl ?_
 refine WL.storeN F.agg35 rfl rfl rfl jO jU jS ?_
 refine jG ?_
 refine jD ?_
 refine jN 2 ?_
 refine WQ.ret (rs := [.cell 6 35]) rfl (.cellN F.agg35 rfl jM rfl .nil) (fun w hS => ⟨⟨z14.1, z14.2.1, fun cf => by rw [z14.2.2]; dsimp only; rw [z9.2.2, z13.2.2]; dsimp only; rw [z11.2.2]; dsimp only; cases t1.ev cf <;> simp⟩, rfl, (jK hS)⟩)

end Go.Proofs.YtkgllhkhdjodeaaGreat

namespace Fm
open Go Go.Eng
end Fm

namespace Fm
open Go Go.Eng
/-- The tokens from a place on, as the reference goes through the text. -/
def scanF (text : List UInt8) : Nat → Nat → List Tk × Int
 | 0, _ => ([], 0)
 | n + 1, i => if text.length ≤ i then ([(text.length, [])], -1) else if text[i]? = some 32 then scanF text n (i + 1) else match tok (text.drop i) with
  | none => ([], (i : Int))
  | some x => ((i, x) :: (scanF text n (i + x.length)).1, (scanF text n (i + x.length)).2)
end Fm

namespace Fm
open Go Go.Eng
def SizeOk (T : List Tk) (r : RS) (q : Tree × RS) : RN → Prop
 | .rest i acc => r.1 ≤ q.2.1 ∧ q.2.1 ≤ T.length ∧ (rowT q.1).length ≤ (rowL acc).length + 2 * (q.2.1 - r.1) + (if acc.length = 1 then 0 else 1)
 | _ => r.1 ≤ q.2.1 ∧ q.2.1 ≤ T.length ∧ (rowT q.1).length ≤ 2 * (q.2.1 - r.1) + 1
mutual
/-- Are two trees equal? -/
def sameT : Tree → Tree → Bool
 | .mk o n k, .mk o' n' k' => decide (o = o') && n == n' && sameL k k'
def sameL : List Tree → List Tree → Bool
 | [], [] => true
 | a :: xs, b :: ys => sameT a b && sameL xs ys
 | _, _ => false
end
end Fm

namespace Fm
open Go Go.Eng
/-! ### how great a tree is -/
mutual
def cntT : Nat → Int → Tree → Int
  | lv, left, .mk _ name kids => if lv = 0 ∨ left - 1 < 0 ∨ 100 < name.length then -1 else cntL (lv - 1) (left - 1) kids
def cntL : Nat → Int → List Tree → Int
  | _, left, [] => left
  | lv, left, k :: ks => if left < 0 then left else cntL lv (cntT lv left k) ks
end
/-- Names of at most so many bytes. -/
def shortN (t : Tree) : Bool := decide (t.name.length ≤ 100)
/-- Great: more than 1,200 nodes, or more levels, or a long name. -/
def greatB (t : Tree) (lv : Nat) : Bool := decide (cntT lv 1200 t < 0)
/-! ### the reference's text -/
def lineOf (op : Int) : Int := if op = 5 then 2 else if op = 7 then 3 else if op = 6 then 4 else if op = 8 then 5 else if op = 9 then 6 else if op = 10 then 7 else 1
def signR (op i : Int) : List UInt8 :=
  if op = 5 then [32, 38, 32] else if op = 7 then [32, 94, 32] else if op = 6 then [32, 124, 32] else if op = 8 then [32, 61, 62, 32] else if op = 9 then [32, 60, 61, 62, 32] else if i = 1 then [32, 63, 32] else [32, 58, 32]
def mostOf (op i : Int) : Int := if (op = 8 ∧ i = 1) ∨ (op = 10 ∧ 0 < i) then lineOf op else if op = 4 then 1 else lineOf op - 1
def headR (op i : Int) : List UInt8 := (if op = 4 then [33] else []) ++ (if 0 < i then signR op i else [])
mutual
def textT : Tree → List UInt8
  | .mk op name kids => if op = 1 then [48] else if op = 2 then [49] else if op = 3 then name else textL op 0 kids
def textL : Int → Int → List Tree → List UInt8
  | _, _, [] => []
  | op, i, k :: ks => headR op i ++ (if mostOf op i < lineOf k.op then [40] ++ textT k ++ [41] else textT k) ++ textL op (i + 1) ks
end
def kidR (op i : Int) (k : Tree) : List UInt8 := if mostOf op i < lineOf k.op then [40] ++ textT k ++ [41] else textT k
/-- What is said of the first kids. -/
def textTo (op : Int) : Nat → List Tree → List UInt8
  | 0, _ => []
  | i + 1, ts => textTo op i ts ++ (match ts[i]? with | some k => headR op i ++ kidR op i k | none => [])
end Fm

namespace Go.Proofs.YtkgllhkhdjodeaaGreat
open Go Go.Eng Go.Proofs
def RRpost (T : List Fm.Tk) (a : Option Addr) (c : Nat) (w : World) (q : Tree × Fm.RS) (e : Ending) (w' : World) : Prop :=
 ∃ y : List Nat × Option Addr × Nat, e = .returned (.tuple #[tv q.1 y.2.1 y.2.2, rdv T a c q.2]) ∧ St w [] [own y.1 q.1 (tv q.1 y.2.1 y.2.2)] w'
def RC (T : List Fm.Tk) (a : Option Addr) (c : Nat) (f : Nat) (args : List Value) (nt : Fm.RN) (n : Nat) : Prop := ∀ r q w, RdTk w T a → Fm.rp T n nt r = some q → Calls Tryz.prog f (rdv T a c r :: args).toArray w (RRpost T a c w q)

end Go.Proofs.YtkgllhkhdjodeaaGreat

namespace Go.Proofs.YtkgllhkhdjodeaaGreat
open Go Go.Eng Go.Proofs
structure RG2 where
 m : Nat
 acc : List Tree
 F : List Nat
 vs : List Value
 len : Nat
 cells : List Value
 ad : Option Addr
 cap : Nat
 r : Fm.RS
 ev : List Value

end Go.Proofs.YtkgllhkhdjodeaaGreat

namespace Go.Proofs.YtkgllhkhdjodeaaGreat
open Go Go.Eng Go.Proofs
def tkc (T : List Fm.Tk) : List Value := T.flatMap fun t => [.int .i64 (t.1 : Int), .string (str t.2)]
structure TG where
 n : Nat
 i : Nat
 out : List Fm.Tk
 ad : Option Addr
 cap : Nat
def lim (wd rest : List UInt8) : Nat := if wd = [] then (Fm.word rest).length else 0

end Go.Proofs.YtkgllhkhdjodeaaGreat

namespace Go.Proofs.YtkgllhkhdjodeaaGreat
open Go Go.Eng Go.Proofs
def RowC (n : Nat) : Prop := ∀ (t : Tree) (wb : World) (G : List Nat) (a : Option Addr) (c : Nat) (w : World), (Fm.rowT t).length ≤ n → rdT wb t G (tv t a c) → Ext wb w →
 Calls Tryz.prog 70 [tv t a c].toArray w fun e w' => ∃ x : { y : Option Addr × Nat × List Value // NodesOk wb (Fm.rowT t) y.2.2 }, e = .returned (.slice x.1.1 (Fm.rowT t).length x.1.2.1) ∧ St w [] [rowc (.slice x.1.1 (Fm.rowT t).length x.1.2.1) (Fm.rowT t).length 24 3 (flat x.1.2.2)] w'

def LevC (n : Nat) : Prop := ∀ (t : Tree) (wb : World) (G : List Nat) (a : Option Addr) (c : Nat) (w : World), (Fm.rowT t).length ≤ n → rdT wb t G (tv t a c) → Ext wb w → Pure Tryz.prog 72 [tv t a c] w (.int .i64 (Fm.levT t : Int))

end Go.Proofs.YtkgllhkhdjodeaaGreat

namespace Go.Proofs.YtkgllhkhdjodeaaGreat
open Go Go.Eng Go.Proofs
def SameC (f n : Nat) : Prop := ∀ (x y : Tree) (wb : World) (G H : List Nat) (a a2 : Option Addr) (c c2 : Nat) (w : World), (Fm.rowT x).length ≤ n → rdT wb x G (tv x a c) → rdT wb y H (tv y a2 c2) → Ext wb w → Pure Tryz.prog f [tv x a c, tv y a2 c2] w (.bool (Fm.sameT x y))

/-- What the reference's Parse answers. -/
def refParse (text : List UInt8) : Tree × Int × Int := ((Fm.top text).1, ((Fm.top text).2.1 : Int), (Fm.top text).2.2)

end Go.Proofs.YtkgllhkhdjodeaaGreat

namespace Go.Proofs.YtkgllhkhdjodeaaGreat
open Go Go.Eng Go.Proofs
def CntC (lv : Nat) : Prop := ∀ (t : Tree) (left : Int) (wb : World) (G : List Nat) (a : Option Addr) (c : Nat) (w : World), -1 ≤ left → left ≤ 1200 → rdT wb t G (tv t a c) → Ext wb w → Pure Tryz.prog 83 [tv t a c, .int .i64 (lv : Int), .int .i64 left] w (.int .i64 (Fm.cntT lv left t))

def CopC (n : Nat) : Prop := ∀ (t : Tree) (wb : World) (G : List Nat) (a : Option Addr) (c : Nat) (w : World), (Fm.rowT t).length ≤ n → rdT wb t G (tv t a c) → Ext wb w →
 Calls Tryz.prog 11 [tv t a c].toArray w fun e w' => ∃ y : List Nat × Option Addr × Nat, e = .returned (tv t y.2.1 y.2.2) ∧ St w [] [own y.1 t (tv t y.2.1 y.2.2)] w'
structure CG where
 i : Nat
 F : List Nat
 vs : List Value
 ad : Option Addr
 cap : Nat

end Go.Proofs.YtkgllhkhdjodeaaGreat

/-! What a formula says of a configuration. -/
namespace Dg
open Go.Eng
def opV (names : List (List UInt8)) (op : Int) (nm : List UInt8) (bs : List Bool) (cf : Cf) : Bool :=
 if op = 2 then true
 else if op = 3 then cf (idxS names nm).toNat
 else if op = 4 then !(bs.getD 0 false)
 else if op = 5 then bs.all id
 else if op = 6 then bs.any id
 else if op = 7 then bs.foldl (fun x y => x != y) false
 else if op = 8 then !(bs.getD 0 false) || bs.getD 1 false
 else if op = 9 then !(bs.getD 0 false != bs.getD 1 false)
 else if op = 10 then bif bs.getD 0 false then bs.getD 1 false else bs.getD 2 false
 else false
mutual
def evT (names : List (List UInt8)) : Tree → Cf → Bool
 | .mk op nm kids, cf => opV names op nm (evL names kids cf) cf
def evL (names : List (List UInt8)) : List Tree → Cf → List Bool
 | [], _ => []
 | t :: ts, cf => evT names t cf :: evL names ts cf
end
theorem evT_eq (names : List (List UInt8)) (t : Tree) (cf : Cf) : evT names t cf = opV names t.op t.name (evL names t.kids cf) cf := by
 cases t with
 | mk op nm kids => simp only [evT, Tree.op, Tree.name, Tree.kids]
theorem evL_eq (names : List (List UInt8)) (cf : Cf) : ∀ ts : List Tree, evL names ts cf = ts.map (fun t => evT names t cf)
 | [] => by simp [evL]
 | t :: ts => by simp [evL, evL_eq names cf ts]
def okT (names : List (List UInt8)) (t : Tree) : Prop := ∀ k ∈ Fm.rowT t, Fm.rightB k = true ∧ (k.op = 3 → names.contains k.name = true)
theorem okT_kid {names : List (List UInt8)} {t k : Tree} {i : Nat} (h : okT names t) (hk : t.kids[i]? = some k) : okT names k := fun x hx => h x (by
 rw [Fm.rowT_eq]
 refine List.mem_cons_of_mem _ ?_
 have : ∀ (ts : List Tree) (i : Nat), ts[i]? = some k → ∀ x ∈ Fm.rowT k, x ∈ Fm.rowL ts := by
  intro ts
  induction ts with
  | nil => intro i h; simp at h
  | cons y ys ih =>
   intro i h x hx
   simp only [Fm.rowL]
   cases i with
   | zero => simp at h; subst h; exact List.mem_append_left _ hx
   | succ i => exact List.mem_append_right _ (ih i (by simpa using h) x hx)
 exact this t.kids i hk x hx)
theorem okT_self {names : List (List UInt8)} {t : Tree} (h : okT names t) : Fm.rightB t = true ∧ (t.op = 3 → names.contains t.name = true) := h t (by rw [Fm.rowT_eq]; exact List.mem_cons_self ..)
theorem right_kids {t : Tree} (h : Fm.rightB t = true) : (t.op = 4 → t.kids.length = 1) ∧ (t.op = 8 ∨ t.op = 9 → t.kids.length = 2) ∧ (t.op = 10 → t.kids.length = 3) ∧ (t.op = 5 ∨ t.op = 6 ∨ t.op = 7 → 2 ≤ t.kids.length) ∧ (1 ≤ t.op ∧ t.op ≤ 10) := by
 unfold Fm.rightB Fm.kidsBad Fm.kidsOf at h
 simp only [Bool.and_eq_true, Bool.not_eq_true', Bool.or_eq_false_iff] at h
 obtain ⟨⟨⟨h1, h2⟩, h3⟩, _⟩ := h
 refine ⟨fun e => ?_, fun e => ?_, fun e => ?_, fun e => ?_, ?_⟩
 ·rw [e] at h3; simp at h3; omega
 ·rcases e with e | e <;> (rw [e] at h3; simp at h3; omega)
 ·rw [e] at h3; simp at h3; omega
 ·rcases e with e | e | e <;> (rw [e] at h2; simp at h2; omega)
 ·split at h1
  ·omega
  ·split at h1
   ·omega
   ·split at h1
    ·omega
    ·split at h1
     ·omega
     ·split at h1
      ·omega
      ·simp at h1
end Dg

namespace Go.Proofs.YtkgllhkhdjodeaaGreat
open Go Go.Eng Go.Proofs Dg
structure SetG where
  i : Nat
  out : List DV
  sa : Option Addr
  sc : Nat
  Fb : List Nat
def SetC (names : List (List UInt8)) (na : Option Addr) (nc : Nat) (n : Nat) : Prop := ∀ (t : Tree) (wb : World) (G : List Nat) (a : Option Addr) (c : Nat) (w : World), (Fm.rowT t).length ≤ n → okT names t → rdT wb t G (tv t a c) → Ext wb w → RdS w names na →
  Calls Tryz.prog 46 [tv t a c, .slice na names.length nc].toArray w (DPost (evT names t) w)
set_option maxRecDepth 100000 in
theorem Set_step (names : List (List UInt8)) (na : Option Addr) (nc : Nat) (hnl24 : names.length ≤ 24) (n : Nat) (hn : n ≤ 1099511627776) (hrec : SetC names na nc n) : SetC names na nc (n + 1) := by
  intro t wb G a c w hsz hok hr hE hnr
  refine enter Tryz.func46 rfl Tryz.ntmps46 rfl (St.init _) ?_
  refine WC.seq ?_
  refine WC.region ?_
  refine WL.step ?_
  refine WL.boxN rfl rfl (fun b2 => ?_)
  refine WL.step ?_
  refine WL.alloc F.zero35 rfl (fun b4 => ?_)
  refine WL.nil ?_
  refine WQ.then_normal ?_
  refine WC.seq ?_
  refine WC.region ?_
  refine WL.step ?_
  refine WL.assign rfl rfl ?_
  refine WL.nil ?_
  refine WQ.then_normal ?_
  refine WC.seq ?_
  refine WC.seq ?_
  refine WC.region ?_
  refine WL.step ?_
  refine WL.fieldAddr0 F.fld24_2 rfl rfl ?_
  refine WL.step ?_
  refine WL.loadP F.one22 rfl rfl (by repeat (first | exact List.Mem.head _ | apply List.Mem.tail)) rfl ?_
  refine WL.step ?_
  refine WL.lenSl F.und22 rfl rfl ?_
  refine WL.step ?_
  refine WL.move rfl rfl ?_
  refine WL.nil ?_
  refine WQ.then_normal ?_
  refine WC.block ?_
  refine WC.chunks (C' := [pt b2 [Value.int .u8 t.op, .string (str t.name), .slice a t.kids.length c] 24, pt b4 [.slice none 0 0, .int .i64 0] 35, rowc (.slice none 0 0) 0 35 2 (dcs []), dsC [] []]) (fun w hS => ((St.pick (St.pick (St.pick (St.pick (St.dsNil (hS.rowNil 35 2)) (c := dsC [] []) (by repeat (first | exact Rem.here | apply Rem.there))) (c := rowc (.slice none 0 0) 0 35 2 []) (by repeat (first | exact Rem.here | apply Rem.there))) (c := pt b4 [.slice none 0 0, .int .i64 0] 35) (by repeat (first | exact Rem.here | apply Rem.there))) (c := pt b2 [Value.int .u8 t.op, .string (str t.name), .slice a t.kids.length c] 24) (by repeat (first | exact Rem.here | apply Rem.there)))).sublist (List.Sublist.cons_cons _ (List.Sublist.cons_cons _ (List.Sublist.cons_cons _ (List.Sublist.cons_cons _ (List.nil_sublist _)))))) ?_
  refine WC.loop (α := SetG) (fun g => g.i ≤ t.kids.length ∧ ∀ cf, g.out.map (fun x => x.1.ev cf) = evL names (t.kids.take g.i) cf) (fun g => [(1, .slice na names.length nc), (2, pp b2), (4, pp b4), (5, .slice g.sa g.out.length g.sc), (14, .slice a t.kids.length c), (15, .int .i64 (t.kids.length : Int)), (16, .int .i64 (g.i : Int))]) (fun g => [pt b2 [Value.int .u8 t.op, .string (str t.name), .slice a t.kids.length c] 24, pt b4 [.slice none 0 0, .int .i64 0] 35, rowc (.slice g.sa g.out.length g.sc) g.out.length 35 2 (dcs g.out), dsC g.Fb g.out]) (fun g => t.kids.length - g.i) (⟨0, [], none, 0, []⟩) ?_ ?_ ?_ ?_
  · exact ⟨Nat.zero_le _, fun cf => by simp [evL]⟩
  · exact ⟨rfl, rfl, rfl, rfl, rfl, rfl, rfl, trivial⟩
  · rfl
  rintro ⟨i, out, sa, sc, Fb⟩ ⟨hi, hbs⟩
  dsimp only at hi hbs
  show WC _ _ _ _ _ _ _ [(1, .slice na names.length nc), (2, pp b2), (4, pp b4), (5, .slice sa out.length sc), (14, .slice a t.kids.length c), (15, .int .i64 (t.kids.length : Int)), (16, .int .i64 (i : Int))] [pt b2 [Value.int .u8 t.op, .string (str t.name), .slice a t.kids.length c] 24, pt b4 [.slice none 0 0, .int .i64 0] 35, rowc (.slice sa out.length sc) out.length 35 2 (dcs out), dsC Fb out]
  have hol : out.length = i := by (have := congrArg List.length (hbs (fun _ => false)); rw [evL_eq] at this; simp at this; omega)
  refine WC.seq ?_
  refine WC.region ?_
  refine WL.step ?_
  refine WL.ltI rfl rfl rfl ?_
  refine WL.nil ?_
  refine WQ.then_normal ?_
  refine WC.seq ?_
  refine WC.cond rfl (fun h17 => ?_) (fun h17 => ?_)
  · skip
    have hlt : i < t.kids.length := by simpa using h17
    obtain ⟨k, hk⟩ : ∃ k, t.kids[i]? = some k := ⟨_, List.getElem?_eq_getElem hlt⟩
    obtain ⟨b, off, F1, a1, c1, rfl, hb, hF1, hrk, hck⟩ := rdT_at hr hk
    have hks := Fm.rowT_kid hk
    have hkl := Fm.kids_le t
    refine WC.skip ?_
    refine WQ.then_normal ?_
    refine WC.seq ?_
    refine WC.block ?_
    refine WC.seq ?_
    refine WC.region ?_
    refine WL.step ?_
    refine WL.indexAddr F.sl22 rfl rfl rfl hlt ?_
    refine WL.step ?_
    refine WL.loadN F.agg24 rfl rfl (vs := [Value.int .u8 k.op, .string (str k.name), .slice a1 k.kids.length c1]) rfl (fun w hS j v hv => (hE.st hS).cell (hck j v hv)) ?_
    refine WL.step ?_
    refine WL.alloc F.zero24 rfl (fun b7 => ?_)
    refine WL.step ?_
    refine WL.storeN F.agg24 rfl rfl rfl (by simp [Value.oneCell']) (by repeat (first | exact Upd.here | apply Upd.there)) (by repeat constructor) ?_
    refine WL.nil ?_
    refine WQ.then_normal ?_
    refine WC.region ?_
    refine WL.step ?_
    refine WL.move rfl rfl ?_
    refine WL.step ?_
    refine WL.loadW F.agg24 rfl rfl (by repeat (first | exact List.Mem.head _ | apply List.Mem.tail)) rfl ?_
    refine WL.step ?_
    refine WL.move rfl rfl ?_
    refine WL.step ?_
    refine WL.call0 (β := DRes (evT names k)) (res := fun z => .returned z.v) (cs := fun z => [z.ch]) (ψ := fun _ => True) F.fun46 (fun d h => by cases h; rfl) rfl (fun w hS => (hrec k wb F1 a1 c1 w (by omega) (okT_kid hok hk) hrk (hE.st hS) (hnr.next hS)).mono (fun e w2 ⟨x, h1, h2⟩ => ⟨x, trivial, h1, h2⟩)) (fun z23 _ => ?_)
    refine WL.step ?_
    refine WL.buildSlice F.sl48 F.ez48 rfl rfl rfl rfl (by repeat (first | exact Built.nil | apply Built.one rfl rfl (by repeat constructor) | apply Built.agg rfl rfl (by repeat constructor))) rfl (fun b24 => ?_)
    refine WL.step ?_
    refine WL.appendE (news := dvl (z23.1.1, z23.1.2.1, z23.1.2.2)) F.el48 rfl rfl rfl (by repeat (first | exact Rem.here | apply Rem.there)) (fun w hS jj u hu => by rw [Nat.zero_add]; exact hS.cell (cs := dvl (z23.1.1, z23.1.2.1, z23.1.2.2)) (by repeat (first | exact List.Mem.head _ | apply List.Mem.tail)) hu) rfl (by simp [Value.oneCell']) (Nat.le_trans (m := 1099511627777) (by omega) (by decide)) (by omega) (fun a2 c2 => ?_)
    refine WL.step ?_
    refine WL.assign rfl rfl ?_
    refine WL.nil ?_
    refine WQ.block_normal ?_
    refine WQ.then_normal ?_
    refine WC.region ?_
    refine WL.step ?_
    refine WL.add rfl rfl rfl ⟨by omega, by omega⟩ ?_
    refine WL.step ?_
    refine WL.move rfl rfl ?_
    refine WL.nil ?_
    refine WQ.chunksE (C' := fun F9 => [pt b2 [Value.int .u8 t.op, .string (str t.name), .slice (some ⟨b, off, none⟩) t.kids.length c] 24, pt b4 [.slice none 0 0, .int .i64 0] 35, rowc (.slice a2 (out.length + 1) c2) (out.length + 1) 35 2 (dcs out ++ dvl (z23.1.1, z23.1.2.1, z23.1.2.2)), dsC F9 (out ++ [(z23.1.1, z23.1.2.1, z23.1.2.2)])]) (fun w hS => ?_) (fun F9 => ?_)
    · obtain ⟨F9, hF9⟩ := St.dsSnoc z23.2.1 ((St.pick (St.pick hS (c := z23.ch) (by repeat (first | exact Rem.here | apply Rem.there))) (c := dsC Fb out) (by repeat (first | exact Rem.here | apply Rem.there))))
      exact ⟨F9, ((St.pick (St.pick (St.pick (St.pick hF9 (c := dsC F9 (out ++ [(z23.1.1, z23.1.2.1, z23.1.2.2)])) (by repeat (first | exact Rem.here | apply Rem.there))) (c := rowc (.slice a2 (out.length + 1) c2) (out.length + 1) 35 2 (dcs out ++ dvl (z23.1.1, z23.1.2.1, z23.1.2.2))) (by repeat (first | exact Rem.here | apply Rem.there))) (c := pt b4 [.slice none 0 0, .int .i64 0] 35) (by repeat (first | exact Rem.here | apply Rem.there))) (c := pt b2 [Value.int .u8 t.op, .string (str t.name), .slice (some ⟨b, off, none⟩) t.kids.length c] 24) (by repeat (first | exact Rem.here | apply Rem.there)))).sublist (List.Sublist.cons_cons _ (List.Sublist.cons_cons _ (List.Sublist.cons_cons _ (List.Sublist.cons_cons _ (List.nil_sublist _)))))⟩
    refine WQ.back ⟨i + 1, out ++ [(z23.1.1, z23.1.2.1, z23.1.2.2)], a2, c2, F9⟩ ⟨by show i + 1 ≤ t.kids.length; omega, fun cf => ?_⟩ (by show t.kids.length - (i + 1) < t.kids.length - i; omega) ?_ ?_
    · show (out ++ [(z23.1.1, z23.1.2.1, z23.1.2.2)]).map (fun x => x.1.ev cf) = evL names (t.kids.take (i + 1)) cf
      rw [List.map_append, hbs, List.take_add_one, hk, evL_eq, evL_eq, List.map_append]
      simp [z23.2.2]
    · have e : (out ++ [(z23.1.1, z23.1.2.1, z23.1.2.2)]).length = out.length + 1 := by simp
      simp only [e]
      exact ⟨rfl, rfl, rfl, rfl, rfl, rfl, rfl, trivial⟩
    · have e : (out ++ [(z23.1.1, z23.1.2.1, z23.1.2.2)]).length = out.length + 1 := by simp
      simp only [e, dcs_append]
      rfl
  · skip
    have hie : i = t.kids.length := by simp at h17; omega
    subst hie
    rw [List.take_length] at hbs
    have hrt := (okT_self hok).1
    obtain ⟨hk4, hk89, hk10, hk567, hop1⟩ := right_kids hrt
    have hkl := Fm.kids_le t
    refine WC.exit ?_
    refine WQ.then_exit ?_
    refine WQ.then_exit ?_
    refine WQ.block_exit ?_
    refine WQ.then_normal ?_
    refine WC.seq ?_
    refine WC.seq ?_
    refine WC.region ?_
    refine WL.step ?_
    refine WL.fieldAddr0 F.fld24_0 rfl rfl ?_
    refine WL.step ?_
    refine WL.loadP F.one5 rfl rfl (by repeat (first | exact List.Mem.head _ | apply List.Mem.tail)) rfl ?_
    refine WL.nil ?_
    refine WQ.then_normal ?_
    refine WC.block ?_
    refine WC.seq ?_
    refine WC.region ?_
    refine WL.step ?_
    refine WL.eqI rfl rfl rfl ?_
    refine WL.step ?_
    refine WL.assign rfl rfl ?_
    refine WL.nil ?_
    refine WQ.then_normal ?_
    refine WC.cond rfl (fun h29 => ?_) (fun h29 => ?_)
    · skip
      have hop : t.op = 2 := by simpa using h29
      refine WC.seq ?_
      refine WC.region ?_
      refine WL.step ?_
      refine WL.call0 (β := DRes (fun _ => true)) (res := fun z => .returned z.v) (cs := fun z => [z.ch]) (ψ := fun _ => True) F.fun74 (fun d h => by cases h; rfl) rfl (fun w hS => (True_c w).mono (fun e w2 ⟨x, h1, h2⟩ => ⟨x, trivial, h1, h2⟩)) (fun z31 _ => ?_)
      refine WL.step ?_
      refine WL.storeN F.agg35 rfl rfl rfl (by simp [Value.oneCell']) (by repeat (first | exact Upd.here | apply Upd.there)) (by repeat constructor) ?_
      refine WL.nil ?_
      refine WQ.then_normal ?_
      refine WC.ret ?_
      refine WQ.block_ret ?_
      refine WQ.then_ret ?_
      exact WQ.ret (rs := [.cell 4 35]) rfl (.cellN F.agg35 rfl (by repeat (first | exact List.Mem.head _ | apply List.Mem.tail)) rfl .nil) (fun w hS => ⟨⟨z31.1, z31.2.1, fun cf => by rw [z31.2.2, evT_eq, ← hbs]; unfold opV; simp [hop]⟩, rfl, ((St.pick hS (c := z31.ch) (by repeat (first | exact Rem.here | apply Rem.there)))).sublist (List.Sublist.cons_cons _ (List.nil_sublist _))⟩)
    · skip
      have hn2 : ¬ t.op = 2 := by simpa using h29
      refine WC.seq ?_
      refine WC.region ?_
      refine WL.step ?_
      refine WL.eqI rfl rfl rfl ?_
      refine WL.step ?_
      refine WL.assign rfl rfl ?_
      refine WL.nil ?_
      refine WQ.then_normal ?_
      refine WC.cond rfl (fun h32 => ?_) (fun h32 => ?_)
      · skip
        have hop : t.op = 3 := by simpa using h32
        obtain ⟨m, hm, hml, _⟩ := idxS_lt ((okT_self hok).2 hop)
        refine WC.seq ?_
        refine WC.region ?_
        refine WL.step ?_
        refine WL.move rfl rfl ?_
        refine WL.step ?_
        refine WL.fieldAddr0 F.fld24_1 rfl rfl ?_
        refine WL.step ?_
        refine WL.loadP F.one9 rfl rfl (by repeat (first | exact List.Mem.head _ | apply List.Mem.tail)) rfl ?_
        refine WL.step ?_
        refine WL.callV F.fun98 rfl rfl (fun w hS => sidx_c names t.name na nc (by omega) w (hnr.next hS)) ?_
        rw [hm]
        refine WL.step ?_
        refine WL.call0 (β := DRes (fun c => c m)) (res := fun z => .returned (.tuple #[z.v, .int .i64 0])) (cs := fun z => [z.ch]) (ψ := fun _ => True) F.fun99 (fun d h => by cases h; rfl) rfl (fun w hS => (Var_in m (by omega) w).mono (fun e w2 ⟨x, h1, h2⟩ => ⟨x, trivial, h1, h2⟩)) (fun z39 _ => ?_)
        refine WL.step ?_
        refine WL.move rfl rfl ?_
        refine WL.step ?_
        refine WL.extract rfl rfl rfl ?_
        refine WL.step ?_
        refine WL.extract rfl rfl rfl ?_
        refine WL.step ?_
        refine WL.alloc F.zero35 rfl (fun b8 => ?_)
        refine WL.step ?_
        refine WL.storeN F.agg35 rfl rfl rfl (by simp [Value.oneCell']) (by repeat (first | exact Upd.here | apply Upd.there)) (by repeat constructor) ?_
        refine WL.step ?_
        refine WL.assign rfl rfl ?_
        refine WL.nil ?_
        refine WQ.then_normal ?_
        refine WC.seq ?_
        refine WC.region ?_
        refine WL.step ?_
        refine WL.loadW F.agg35 rfl rfl (by repeat (first | exact List.Mem.head _ | apply List.Mem.tail)) rfl ?_
        refine WL.step ?_
        refine WL.storeN F.agg35 rfl rfl rfl (by simp [Value.oneCell']) (by repeat (first | exact Upd.here | apply Upd.there)) (by repeat constructor) ?_
        refine WL.nil ?_
        refine WQ.then_normal ?_
        refine WC.ret ?_
        refine WQ.block_ret ?_
        refine WQ.then_ret ?_
        exact WQ.ret (rs := [.cell 4 35]) rfl (.cellN F.agg35 rfl (by repeat (first | exact List.Mem.head _ | apply List.Mem.tail)) rfl .nil) (fun w hS => ⟨⟨z39.1, z39.2.1, fun cf => by rw [z39.2.2, evT_eq]; unfold opV; rw [if_neg (by omega), if_pos hop, hm]; rfl⟩, rfl, ((St.pick hS (c := z39.ch) (by repeat (first | exact Rem.here | apply Rem.there)))).sublist (List.Sublist.cons_cons _ (List.nil_sublist _))⟩)
      · skip
        have hn3 : ¬ t.op = 3 := by simpa using h32
        refine WC.seq ?_
        refine WC.region ?_
        refine WL.step ?_
        refine WL.eqI rfl rfl rfl ?_
        refine WL.step ?_
        refine WL.assign rfl rfl ?_
        refine WL.nil ?_
        refine WQ.then_normal ?_
        refine WC.cond rfl (fun h43 => ?_) (fun h43 => ?_)
        · skip
          have hop : t.op = 4 := by simpa using h43
          have := hk4 hop
          have hol0 : 0 < out.length := by omega
          obtain ⟨x0, hx0⟩ : ∃ x, out[0]? = some x := ⟨_, List.getElem?_eq_getElem hol0⟩
          have hxm0 : x0 ∈ out := List.mem_of_getElem? hx0
          refine WC.know (φ := ∃ g, sa = some ⟨g, 0, none⟩ ∧ out.length = out.length ∧ out.length ≤ sc) (fun w hS => rowc_addr (hS.ok (rowc (.slice sa out.length sc) out.length 35 2 (dcs out)) (by repeat (first | exact List.Mem.head _ | apply List.Mem.tail))) (by omega)) (fun ⟨g8, hg8, _, _⟩ => ?_)
          subst hg8
          refine WC.seq ?_
          refine WC.region ?_
          refine WL.step ?_
          refine WL.move rfl rfl ?_
          refine WL.step ?_
          refine WL.indexAddr (i := 0) F.sl48 rfl rfl rfl hol0 ?_
          refine WL.step ?_
          refine WL.loadN F.agg35 rfl rfl (vs := dvl x0) rfl (fun w hS j v hv => by (have h9 := rowc_cells (hS.ok (rowc (.slice (some ⟨g8, 0, none⟩) out.length sc) out.length 35 2 (dcs out)) (by repeat (first | exact List.Mem.head _ | apply List.Mem.tail))) (dcs_at hx0 j v hv)); simpa using h9) ?_
          refine WL.step ?_
          refine WL.call0 (β := DRes (fun cf => !x0.1.ev cf)) (res := fun z => .returned z.v) (cs := fun z => [z.ch]) (ψ := fun _ => True) F.fun100 (fun d h => by cases h; rfl) rfl (fun w hS => (Not_c x0.1 x0.2.1 x0.2.2 w (dsC_rd (hS.ok (dsC Fb out) (by repeat (first | exact List.Mem.head _ | apply List.Mem.tail))) hxm0)).mono (fun e w2 ⟨x, h1, h2⟩ => ⟨x, trivial, h1, h2⟩)) (fun z47 _ => ?_)
          refine WL.step ?_
          refine WL.storeN F.agg35 rfl rfl rfl (by simp [Value.oneCell']) (by repeat (first | exact Upd.here | apply Upd.there)) (by repeat constructor) ?_
          refine WL.nil ?_
          refine WQ.then_normal ?_
          refine WC.ret ?_
          refine WQ.block_ret ?_
          refine WQ.then_ret ?_
          exact WQ.ret (rs := [.cell 4 35]) rfl (.cellN F.agg35 rfl (by repeat (first | exact List.Mem.head _ | apply List.Mem.tail)) rfl .nil) (fun w hS => ⟨⟨z47.1, z47.2.1, fun cf => by rw [z47.2.2, evT_eq, ← hbs]; unfold opV; simp [hop, hx0]⟩, rfl, ((St.pick hS (c := z47.ch) (by repeat (first | exact Rem.here | apply Rem.there)))).sublist (List.Sublist.cons_cons _ (List.nil_sublist _))⟩)
        · skip
          have hn4 : ¬ t.op = 4 := by simpa using h43
          refine WC.seq ?_
          refine WC.region ?_
          refine WL.step ?_
          refine WL.eqI rfl rfl rfl ?_
          refine WL.step ?_
          refine WL.assign rfl rfl ?_
          refine WL.nil ?_
          refine WQ.then_normal ?_
          refine WC.cond rfl (fun h49 => ?_) (fun h49 => ?_)
          · skip
            have hop : t.op = 5 := by simpa using h49
            refine WC.seq ?_
            refine WC.region ?_
            refine WL.step ?_
            refine WL.move rfl rfl ?_
            refine WL.step ?_
            refine WL.call0 (β := DRes (fun cf => out.all (fun x => x.1.ev cf))) (res := fun z => .returned z.v) (cs := fun z => [z.ch]) (ψ := fun _ => True) F.fun101 (fun d h => by cases h; rfl) rfl (fun w hS => (AndAll_c out sa sc (by omega) w (RdDL.of_row rfl (hS.ok (rowc (.slice sa out.length sc) out.length 35 2 (dcs out)) (by repeat (first | exact List.Mem.head _ | apply List.Mem.tail))) (hS.ok (dsC Fb out) (by repeat (first | exact List.Mem.head _ | apply List.Mem.tail))))).mono (fun e w2 ⟨x, h1, h2⟩ => ⟨x, trivial, h1, h2⟩)) (fun z52 _ => ?_)
            refine WL.step ?_
            refine WL.storeN F.agg35 rfl rfl rfl (by simp [Value.oneCell']) (by repeat (first | exact Upd.here | apply Upd.there)) (by repeat constructor) ?_
            refine WL.nil ?_
            refine WQ.then_normal ?_
            refine WC.ret ?_
            refine WQ.block_ret ?_
            refine WQ.then_ret ?_
            exact WQ.ret (rs := [.cell 4 35]) rfl (.cellN F.agg35 rfl (by repeat (first | exact List.Mem.head _ | apply List.Mem.tail)) rfl .nil) (fun w hS => ⟨⟨z52.1, z52.2.1, fun cf => by rw [z52.2.2, evT_eq, ← hbs]; unfold opV; simp [hop, List.all_map] <;> rfl⟩, rfl, ((St.pick hS (c := z52.ch) (by repeat (first | exact Rem.here | apply Rem.there)))).sublist (List.Sublist.cons_cons _ (List.nil_sublist _))⟩)
          · skip
            have hn5 : ¬ t.op = 5 := by simpa using h49
            refine WC.seq ?_
            refine WC.region ?_
            refine WL.step ?_
            refine WL.eqI rfl rfl rfl ?_
            refine WL.step ?_
            refine WL.assign rfl rfl ?_
            refine WL.nil ?_
            refine WQ.then_normal ?_
            refine WC.cond rfl (fun h53 => ?_) (fun h53 => ?_)
            · skip
              have hop : t.op = 6 := by simpa using h53
              refine WC.seq ?_
              refine WC.region ?_
              refine WL.step ?_
              refine WL.move rfl rfl ?_
              refine WL.step ?_
              refine WL.call0 (β := DRes (fun cf => out.any (fun x => x.1.ev cf))) (res := fun z => .returned z.v) (cs := fun z => [z.ch]) (ψ := fun _ => True) F.fun102 (fun d h => by cases h; rfl) rfl (fun w hS => (OrAll_c out sa sc (by omega) w (RdDL.of_row rfl (hS.ok (rowc (.slice sa out.length sc) out.length 35 2 (dcs out)) (by repeat (first | exact List.Mem.head _ | apply List.Mem.tail))) (hS.ok (dsC Fb out) (by repeat (first | exact List.Mem.head _ | apply List.Mem.tail))))).mono (fun e w2 ⟨x, h1, h2⟩ => ⟨x, trivial, h1, h2⟩)) (fun z56 _ => ?_)
              refine WL.step ?_
              refine WL.storeN F.agg35 rfl rfl rfl (by simp [Value.oneCell']) (by repeat (first | exact Upd.here | apply Upd.there)) (by repeat constructor) ?_
              refine WL.nil ?_
              refine WQ.then_normal ?_
              refine WC.ret ?_
              refine WQ.block_ret ?_
              refine WQ.then_ret ?_
              exact WQ.ret (rs := [.cell 4 35]) rfl (.cellN F.agg35 rfl (by repeat (first | exact List.Mem.head _ | apply List.Mem.tail)) rfl .nil) (fun w hS => ⟨⟨z56.1, z56.2.1, fun cf => by rw [z56.2.2, evT_eq, ← hbs]; unfold opV; simp [hop, List.any_map] <;> rfl⟩, rfl, ((St.pick hS (c := z56.ch) (by repeat (first | exact Rem.here | apply Rem.there)))).sublist (List.Sublist.cons_cons _ (List.nil_sublist _))⟩)
            · skip
              have hn6 : ¬ t.op = 6 := by simpa using h53
              refine WC.seq ?_
              refine WC.region ?_
              refine WL.step ?_
              refine WL.eqI rfl rfl rfl ?_
              refine WL.step ?_
              refine WL.assign rfl rfl ?_
              refine WL.nil ?_
              refine WQ.then_normal ?_
              refine WC.cond rfl (fun h57 => ?_) (fun h57 => ?_)
              · skip
                have hop : t.op = 7 := by simpa using h57
                refine WC.seq ?_
                refine WC.region ?_
                refine WL.step ?_
                refine WL.call0 (β := DRes (fun _ => false)) (res := fun z => .returned z.v) (cs := fun z => [z.ch]) (ψ := fun _ => True) F.fun103 (fun d h => by cases h; rfl) rfl (fun w hS => (False_c w).mono (fun e w2 ⟨x, h1, h2⟩ => ⟨x, trivial, h1, h2⟩)) (fun z59 _ => ?_)
                refine WL.step ?_
                refine WL.alloc F.zero35 rfl (fun b10 => ?_)
                refine WL.step ?_
                refine WL.storeN F.agg35 rfl rfl rfl (by simp [Value.oneCell']) (by repeat (first | exact Upd.here | apply Upd.there)) (by repeat constructor) ?_
                refine WL.nil ?_
                refine WQ.then_normal ?_
                refine WC.seq ?_
                refine WC.seq ?_
                refine WC.region ?_
                refine WL.step ?_
                refine WL.move rfl rfl ?_
                refine WL.step ?_
                refine WL.lenSl F.und48 rfl rfl ?_
                refine WL.step ?_
                refine WL.move rfl rfl ?_
                refine WL.nil ?_
                refine WQ.then_normal ?_
                refine WC.block ?_
                refine WC.chunks (C' := [pt b10 [.slice z59.1.2.1 (canon z59.1.1).1.length z59.1.2.2, .int .i64 ((canon z59.1.1).2 : Int)] 35, z59.ch, pt b4 [.slice none 0 0, .int .i64 0] 35, rowc (.slice sa out.length sc) out.length 35 2 (dcs out), dsC Fb out]) (fun w hS => ((St.pick (St.pick (St.pick (St.pick (St.pick hS (c := dsC Fb out) (by repeat (first | exact Rem.here | apply Rem.there))) (c := rowc (.slice sa out.length sc) out.length 35 2 (dcs out)) (by repeat (first | exact Rem.here | apply Rem.there))) (c := pt b4 [.slice none 0 0, .int .i64 0] 35) (by repeat (first | exact Rem.here | apply Rem.there))) (c := z59.ch) (by repeat (first | exact Rem.here | apply Rem.there))) (c := pt b10 [.slice z59.1.2.1 (canon z59.1.1).1.length z59.1.2.2, .int .i64 ((canon z59.1.1).2 : Int)] 35) (by repeat (first | exact Rem.here | apply Rem.there)))).sublist (List.Sublist.cons_cons _ (List.Sublist.cons_cons _ (List.Sublist.cons_cons _ (List.Sublist.cons_cons _ (List.Sublist.cons_cons _ (List.nil_sublist _))))))) ?_
                refine WC.loop (α := ManyG) (fun g => g.i ≤ out.length ∧ g.t.ok 0 ∧ ∀ cf, g.t.ev cf = ((out.map (fun x => x.1.ev cf)).take g.i).foldl (fun x y => x != y) false) (fun g => [(4, pp b4), (10, pp b10), (60, .slice sa out.length sc), (61, .int .i64 (out.length : Int)), (62, .int .i64 (g.i : Int))]) (fun g => [pt b10 [.slice g.ad (canon g.t).1.length g.ac, .int .i64 ((canon g.t).2 : Int)] 35, dC g.ad g.ac g.t, pt b4 [.slice none 0 0, .int .i64 0] 35, rowc (.slice sa out.length sc) out.length 35 2 (dcs out), dsC Fb out]) (fun g => out.length - g.i) (⟨0, z59.1.1, z59.1.2.1, z59.1.2.2⟩) ?_ ?_ ?_ ?_
                · exact ⟨Nat.zero_le _, z59.2.1, fun cf => by rw [z59.2.2]; rfl⟩
                · exact ⟨rfl, rfl, rfl, rfl, rfl, trivial⟩
                · rfl
                rintro ⟨i, t1, ad, ac⟩ ⟨hi, hok1, hev⟩
                dsimp only at hi hok1 hev
                show WC _ _ _ _ _ _ _ [(4, pp b4), (10, pp b10), (60, .slice sa out.length sc), (61, .int .i64 (out.length : Int)), (62, .int .i64 (i : Int))] [pt b10 [.slice ad (canon t1).1.length ac, .int .i64 ((canon t1).2 : Int)] 35, dC ad ac t1, pt b4 [.slice none 0 0, .int .i64 0] 35, rowc (.slice sa out.length sc) out.length 35 2 (dcs out), dsC Fb out]
                refine WC.seq ?_
                refine WC.region ?_
                refine WL.step ?_
                refine WL.ltI rfl rfl rfl ?_
                refine WL.nil ?_
                refine WQ.then_normal ?_
                refine WC.seq ?_
                refine WC.cond rfl (fun h63 => ?_) (fun h63 => ?_)
                · skip
                  have hlt : i < out.length := by simpa using h63
                  obtain ⟨x, hx⟩ : ∃ x, out[i]? = some x := ⟨_, List.getElem?_eq_getElem hlt⟩
                  have hxm : x ∈ out := List.mem_of_getElem? hx
                  refine WC.know (φ := ∃ g, sa = some ⟨g, 0, none⟩ ∧ out.length = out.length ∧ out.length ≤ sc) (fun w hS => rowc_addr (hS.ok (rowc (.slice sa out.length sc) out.length 35 2 (dcs out)) (by repeat (first | exact List.Mem.head _ | apply List.Mem.tail))) (by omega)) (fun ⟨g8, hg8, _, _⟩ => ?_)
                  subst hg8
                  refine WC.skip ?_
                  refine WQ.then_normal ?_
                  refine WC.seq ?_
                  refine WC.block ?_
                  refine WC.seq ?_
                  refine WC.region ?_
                  refine WL.step ?_
                  refine WL.indexAddr F.sl48 rfl rfl rfl hlt ?_
                  refine WL.step ?_
                  refine WL.loadN F.agg35 rfl rfl (vs := dvl x) rfl (fun w hS j v hv => by rw [Nat.zero_add]; exact rowc_cells (hS.ok (rowc (.slice (some ⟨g8, 0, none⟩) out.length sc) out.length 35 2 (dcs out)) (by repeat (first | exact List.Mem.head _ | apply List.Mem.tail))) (dcs_at hx j v hv)) ?_
                  refine WL.step ?_
                  refine WL.alloc F.zero35 rfl (fun b12 => ?_)
                  refine WL.step ?_
                  refine WL.storeN F.agg35 rfl rfl rfl (by simp [Value.oneCell']) (by repeat (first | exact Upd.here | apply Upd.there)) (by repeat constructor) ?_
                  refine WL.nil ?_
                  refine WQ.then_normal ?_
                  refine WC.region ?_
                  refine WL.step ?_
                  refine WL.loadW F.agg35 rfl rfl (by repeat (first | exact List.Mem.head _ | apply List.Mem.tail)) rfl ?_
                  refine WL.step ?_
                  refine WL.loadW F.agg35 rfl rfl (by repeat (first | exact List.Mem.head _ | apply List.Mem.tail)) rfl ?_
                  refine WL.step ?_
                  refine WL.call0 (β := DRes (fun cf => t1.ev cf != x.1.ev cf)) (res := fun z => .returned z.v) (cs := fun z => [z.ch]) (ψ := fun _ => True) F.fun104 (fun d h => by cases h; rfl) rfl (fun w hS => (Xor_c t1 x.1 ad x.2.1 ac x.2.2 w (RdD.of_row hok1 (hS.ok (dC ad ac t1) (by repeat (first | exact List.Mem.head _ | apply List.Mem.tail)))) (dsC_rd (hS.ok (dsC Fb out) (by repeat (first | exact List.Mem.head _ | apply List.Mem.tail))) hxm)).mono (fun e w2 ⟨x, h1, h2⟩ => ⟨x, trivial, h1, h2⟩)) (fun z68 _ => ?_)
                  refine WL.step ?_
                  refine WL.storeN F.agg35 rfl rfl rfl (by simp [Value.oneCell']) (by repeat (first | exact Upd.here | apply Upd.there)) (by repeat constructor) ?_
                  refine WL.nil ?_
                  refine WQ.block_normal ?_
                  refine WQ.then_normal ?_
                  refine WC.region ?_
                  refine WL.step ?_
                  refine WL.add rfl rfl rfl ⟨by omega, by omega⟩ ?_
                  refine WL.step ?_
                  refine WL.move rfl rfl ?_
                  refine WL.nil ?_
                  refine WQ.chunks (C' := [pt b10 [.slice z68.1.2.1 (canon z68.1.1).1.length z68.1.2.2, .int .i64 ((canon z68.1.1).2 : Int)] 35, z68.ch, pt b4 [.slice none 0 0, .int .i64 0] 35, rowc (.slice (some ⟨g8, 0, none⟩) out.length sc) out.length 35 2 (dcs out), dsC Fb out]) (fun w hS => ((St.pick (St.pick (St.pick (St.pick (St.pick hS (c := dsC Fb out) (by repeat (first | exact Rem.here | apply Rem.there))) (c := rowc (.slice (some ⟨g8, 0, none⟩) out.length sc) out.length 35 2 (dcs out)) (by repeat (first | exact Rem.here | apply Rem.there))) (c := pt b4 [.slice none 0 0, .int .i64 0] 35) (by repeat (first | exact Rem.here | apply Rem.there))) (c := z68.ch) (by repeat (first | exact Rem.here | apply Rem.there))) (c := pt b10 [.slice z68.1.2.1 (canon z68.1.1).1.length z68.1.2.2, .int .i64 ((canon z68.1.1).2 : Int)] 35) (by repeat (first | exact Rem.here | apply Rem.there)))).sublist (List.Sublist.cons_cons _ (List.Sublist.cons_cons _ (List.Sublist.cons_cons _ (List.Sublist.cons_cons _ (List.Sublist.cons_cons _ (List.nil_sublist _))))))) ?_
                  refine WQ.back (⟨i + 1, z68.1.1, z68.1.2.1, z68.1.2.2⟩) ?_ ?_ ?_ ?_
                  · exact ⟨by show i + 1 ≤ out.length; omega, z68.2.1, fun cf => by (show z68.1.1.ev cf = _; rw [z68.2.2]; dsimp only; rw [hev, List.take_add_one, List.getElem?_map, hx]; simp)⟩
                  · (show out.length - (i + 1) < out.length - i; omega)
                  · exact ⟨rfl, rfl, rfl, rfl, rfl, trivial⟩
                  · rfl
                · skip
                  have hie : i = out.length := by simp at h63; omega
                  subst hie
                  have hml : ∀ cf : Cf, (out.map (fun x => x.1.ev cf)).length = out.length := fun cf => by simp
                  have hev2 : ∀ cf, t1.ev cf = (out.map (fun x => x.1.ev cf)).foldl (fun x y => x != y) false := fun cf => by (rw [hev, ← hml cf, List.take_length])
                  refine WC.exit ?_
                  refine WQ.then_exit ?_
                  refine WQ.then_exit ?_
                  refine WQ.block_exit ?_
                  refine WQ.then_normal ?_
                  refine WC.seq ?_
                  refine WC.region ?_
                  refine WL.step ?_
                  refine WL.loadW F.agg35 rfl rfl (by repeat (first | exact List.Mem.head _ | apply List.Mem.tail)) rfl ?_
                  refine WL.step ?_
                  refine WL.storeN F.agg35 rfl rfl rfl (by simp [Value.oneCell']) (by repeat (first | exact Upd.here | apply Upd.there)) (by repeat constructor) ?_
                  refine WL.nil ?_
                  refine WQ.then_normal ?_
                  refine WC.ret ?_
                  refine WQ.block_ret ?_
                  refine WQ.then_ret ?_
                  exact WQ.ret (rs := [.cell 4 35]) rfl (.cellN F.agg35 rfl (by repeat (first | exact List.Mem.head _ | apply List.Mem.tail)) rfl .nil) (fun w hS => ⟨⟨(t1, ad, ac), hok1, fun cf => by (show t1.ev cf = _; rw [hev2, evT_eq, ← hbs]; unfold opV; simp [hop])⟩, rfl, ((St.pick hS (c := dC ad ac t1) (by repeat (first | exact Rem.here | apply Rem.there)))).sublist (List.Sublist.cons_cons _ (List.nil_sublist _))⟩)
              · skip
                have hn7 : ¬ t.op = 7 := by simpa using h57
                refine WC.seq ?_
                refine WC.region ?_
                refine WL.step ?_
                refine WL.eqI rfl rfl rfl ?_
                refine WL.step ?_
                refine WL.assign rfl rfl ?_
                refine WL.nil ?_
                refine WQ.then_normal ?_
                refine WC.cond rfl (fun h71 => ?_) (fun h71 => ?_)
                · skip
                  have hop : t.op = 8 := by simpa using h71
                  have := hk89 (.inl hop)
                  have hol0 : 0 < out.length := by omega
                  obtain ⟨x0, hx0⟩ : ∃ x, out[0]? = some x := ⟨_, List.getElem?_eq_getElem hol0⟩
                  have hxm0 : x0 ∈ out := List.mem_of_getElem? hx0
                  have hol1 : 1 < out.length := by omega
                  obtain ⟨x1, hx1⟩ : ∃ x, out[1]? = some x := ⟨_, List.getElem?_eq_getElem hol1⟩
                  have hxm1 : x1 ∈ out := List.mem_of_getElem? hx1
                  refine WC.know (φ := ∃ g, sa = some ⟨g, 0, none⟩ ∧ out.length = out.length ∧ out.length ≤ sc) (fun w hS => rowc_addr (hS.ok (rowc (.slice sa out.length sc) out.length 35 2 (dcs out)) (by repeat (first | exact List.Mem.head _ | apply List.Mem.tail))) (by omega)) (fun ⟨g8, hg8, _, _⟩ => ?_)
                  subst hg8
                  refine WC.seq ?_
                  refine WC.drawsL (by kernel_rfl) (FactsOk.cons (ds := [3, 7, 8]) (LoadOk.by (Y := (fun w => ∀ j v, (dvl x0)[j]? = some v → w.cell? ⟨g8, 0 + 0 * 2 + j, none⟩ = some v)) (fun w hS => fun j v hv => by (have h9 := rowc_cells (hS.ok (rowc (.slice (some ⟨g8, 0, none⟩) out.length sc) out.length 35 2 (dcs out)) (by repeat (first | exact List.Mem.head _ | apply List.Mem.tail))) (dcs_at hx0 j v hv)); simpa using h9)) (FactsOk.cons (ds := [7, 8]) (LoadOk.by (Y := (fun w => ∀ j v, (dvl x1)[j]? = some v → w.cell? ⟨g8, 0 + 1 * 2 + j, none⟩ = some v)) (fun w hS => fun j v hv => by (have h9 := rowc_cells (hS.ok (rowc (.slice (some ⟨g8, 0, none⟩) out.length sc) out.length 35 2 (dcs out)) (by repeat (first | exact List.Mem.head _ | apply List.Mem.tail))) (dcs_at hx1 j v hv)); simpa using h9)) (FactsOk.nil))) ?_
                  refine WD.take (i := 0) rfl rfl rfl rfl (by kernel_rfl) (by kernel_rfl) (by kernel_rfl) (fun _ _ _ h => h) (by kernel_rfl) need_none (Yl.move rfl) ?_
                  refine WD.take (i := 1) rfl rfl rfl rfl (by kernel_rfl) (by kernel_rfl) (by kernel_rfl) (fun _ _ _ h => h) (by kernel_rfl) need_none (Yl.indexAddr (i := 0) F.sl48 rfl rfl hol0) ?_
                  refine WD.take (i := 2) rfl rfl rfl rfl (by kernel_rfl) (by kernel_rfl) (by kernel_rfl) (fun _ _ _ h => h) (by kernel_rfl) (need_at 0 9 rfl (by kernel_rfl)) (Yl.loadN F.agg35 rfl rfl) ?_
                  refine WD.take (i := 4) rfl rfl rfl rfl (by kernel_rfl) (by kernel_rfl) (by kernel_rfl) (fun _ _ _ h => h) (by kernel_rfl) need_none (Yl.move rfl) ?_
                  refine WD.take (i := 5) rfl rfl rfl rfl (by kernel_rfl) (by kernel_rfl) (by kernel_rfl) (fun _ _ _ h => h) (by kernel_rfl) need_none (Yl.indexAddr (i := 1) F.sl48 rfl rfl hol1) ?_
                  refine WD.take (i := 6) rfl rfl rfl rfl (by kernel_rfl) (by kernel_rfl) (by kernel_rfl) (fun _ _ _ h => h) (by kernel_rfl) (need_at 1 9 rfl (by kernel_rfl)) (Yl.loadN F.agg35 rfl rfl) ?_
                  refine WD.one (i := 3) (by kernel_rfl) rfl ?_
                  refine WL.call0 (β := DRes (fun cf => !x0.1.ev cf)) (res := fun z => .returned z.v) (cs := fun z => [z.ch]) (ψ := fun _ => True) F.fun100 (fun d h => by cases h; rfl) rfl (fun w hS => (Not_c x0.1 x0.2.1 x0.2.2 w (dsC_rd (hS.ok (dsC Fb out) (by repeat (first | exact List.Mem.head _ | apply List.Mem.tail))) hxm0)).mono (fun e w2 ⟨x, h1, h2⟩ => ⟨x, trivial, h1, h2⟩)) (fun z76 _ => ?_)
                  refine WD.on (closed_of (by kernel_rfl)) (fun w hS => Sx.gone rfl (Sx.keep (fun j v hv => by (have h9 := rowc_cells (hS.ok (rowc (.slice (some ⟨g8, 0, none⟩) out.length sc) out.length 35 2 (dcs out)) (by repeat (first | exact List.Mem.head _ | apply List.Mem.tail))) (dcs_at hx1 j v hv)); simpa using h9) (Sx.none))) ?_
                  refine WD.one (i := 7) (by kernel_rfl) rfl ?_
                  refine WL.call0 (β := DRes (fun cf => z76.1.1.ev cf || x1.1.ev cf)) (res := fun z => .returned z.v) (cs := fun z => [z.ch]) (ψ := fun _ => True) F.fun105 (fun d h => by cases h; rfl) rfl (fun w hS => (Or_c z76.1.1 x1.1 z76.1.2.1 x1.2.1 z76.1.2.2 x1.2.2 w (z76.rd hS (by repeat (first | exact List.Mem.head _ | apply List.Mem.tail))) (dsC_rd (hS.ok (dsC Fb out) (by repeat (first | exact List.Mem.head _ | apply List.Mem.tail))) hxm1)).mono (fun e w2 ⟨x, h1, h2⟩ => ⟨x, trivial, h1, h2⟩)) (fun z80 _ => ?_)
                  refine WD.on (closed_of (by kernel_rfl)) (fun w hS => Sx.gone rfl (Sx.gone rfl (Sx.none))) ?_
                  refine WD.one (i := 8) (by kernel_rfl) rfl ?_
                  refine WL.storeN F.agg35 rfl rfl rfl (by simp [Value.oneCell']) (by repeat (first | exact Upd.here | apply Upd.there)) (by repeat constructor) ?_
                  refine WD.on (closed_of (by kernel_rfl)) (fun w hS => Sx.gone rfl (Sx.gone rfl (Sx.none))) ?_
                  refine WD.done (by kernel_rfl) ?_
                  refine WQ.then_normal ?_
                  refine WC.ret ?_
                  refine WQ.block_ret ?_
                  refine WQ.then_ret ?_
                  exact WQ.ret (rs := [.cell 4 35]) rfl (.cellN F.agg35 rfl (by repeat (first | exact List.Mem.head _ | apply List.Mem.tail)) rfl .nil) (fun w hS => ⟨⟨z80.1, z80.2.1, fun cf => by rw [z80.2.2]; dsimp only; rw [z76.2.2, evT_eq, ← hbs]; unfold opV; simp [hop, hx0, hx1]⟩, rfl, ((St.pick hS (c := z80.ch) (by repeat (first | exact Rem.here | apply Rem.there)))).sublist (List.Sublist.cons_cons _ (List.nil_sublist _))⟩)
                · skip
                  have hn8 : ¬ t.op = 8 := by simpa using h71
                  refine WC.seq ?_
                  refine WC.region ?_
                  refine WL.step ?_
                  refine WL.eqI rfl rfl rfl ?_
                  refine WL.step ?_
                  refine WL.assign rfl rfl ?_
                  refine WL.nil ?_
                  refine WQ.then_normal ?_
                  refine WC.cond rfl (fun h81 => ?_) (fun h81 => ?_)
                  · skip
                    have hop : t.op = 9 := by simpa using h81
                    have := hk89 (.inr hop)
                    have hol0 : 0 < out.length := by omega
                    obtain ⟨x0, hx0⟩ : ∃ x, out[0]? = some x := ⟨_, List.getElem?_eq_getElem hol0⟩
                    have hxm0 : x0 ∈ out := List.mem_of_getElem? hx0
                    have hol1 : 1 < out.length := by omega
                    obtain ⟨x1, hx1⟩ : ∃ x, out[1]? = some x := ⟨_, List.getElem?_eq_getElem hol1⟩
                    have hxm1 : x1 ∈ out := List.mem_of_getElem? hx1
                    refine WC.know (φ := ∃ g, sa = some ⟨g, 0, none⟩ ∧ out.length = out.length ∧ out.length ≤ sc) (fun w hS => rowc_addr (hS.ok (rowc (.slice sa out.length sc) out.length 35 2 (dcs out)) (by repeat (first | exact List.Mem.head _ | apply List.Mem.tail))) (by omega)) (fun ⟨g8, hg8, _, _⟩ => ?_)
                    subst hg8
                    refine WC.seq ?_
                    refine WC.drawsL (by kernel_rfl) (FactsOk.cons (ds := [6, 7, 8]) (LoadOk.by (Y := (fun w => ∀ j v, (dvl x0)[j]? = some v → w.cell? ⟨g8, 0 + 0 * 2 + j, none⟩ = some v)) (fun w hS => fun j v hv => by (have h9 := rowc_cells (hS.ok (rowc (.slice (some ⟨g8, 0, none⟩) out.length sc) out.length 35 2 (dcs out)) (by repeat (first | exact List.Mem.head _ | apply List.Mem.tail))) (dcs_at hx0 j v hv)); simpa using h9)) (FactsOk.cons (ds := [6, 7, 8]) (LoadOk.by (Y := (fun w => ∀ j v, (dvl x1)[j]? = some v → w.cell? ⟨g8, 0 + 1 * 2 + j, none⟩ = some v)) (fun w hS => fun j v hv => by (have h9 := rowc_cells (hS.ok (rowc (.slice (some ⟨g8, 0, none⟩) out.length sc) out.length 35 2 (dcs out)) (by repeat (first | exact List.Mem.head _ | apply List.Mem.tail))) (dcs_at hx1 j v hv)); simpa using h9)) (FactsOk.nil))) ?_
                    refine WD.take (i := 0) rfl rfl rfl rfl (by kernel_rfl) (by kernel_rfl) (by kernel_rfl) (fun _ _ _ h => h) (by kernel_rfl) need_none (Yl.move rfl) ?_
                    refine WD.take (i := 1) rfl rfl rfl rfl (by kernel_rfl) (by kernel_rfl) (by kernel_rfl) (fun _ _ _ h => h) (by kernel_rfl) need_none (Yl.indexAddr (i := 0) F.sl48 rfl rfl hol0) ?_
                    refine WD.take (i := 2) rfl rfl rfl rfl (by kernel_rfl) (by kernel_rfl) (by kernel_rfl) (fun _ _ _ h => h) (by kernel_rfl) (need_at 0 9 rfl (by kernel_rfl)) (Yl.loadN F.agg35 rfl rfl) ?_
                    refine WD.take (i := 3) rfl rfl rfl rfl (by kernel_rfl) (by kernel_rfl) (by kernel_rfl) (fun _ _ _ h => h) (by kernel_rfl) need_none (Yl.move rfl) ?_
                    refine WD.take (i := 4) rfl rfl rfl rfl (by kernel_rfl) (by kernel_rfl) (by kernel_rfl) (fun _ _ _ h => h) (by kernel_rfl) need_none (Yl.indexAddr (i := 1) F.sl48 rfl rfl hol1) ?_
                    refine WD.take (i := 5) rfl rfl rfl rfl (by kernel_rfl) (by kernel_rfl) (by kernel_rfl) (fun _ _ _ h => h) (by kernel_rfl) (need_at 1 9 rfl (by kernel_rfl)) (Yl.loadN F.agg35 rfl rfl) ?_
                    refine WD.one (i := 6) (by kernel_rfl) rfl ?_
                    refine WL.call0 (β := DRes (fun cf => x0.1.ev cf != x1.1.ev cf)) (res := fun z => .returned z.v) (cs := fun z => [z.ch]) (ψ := fun _ => True) F.fun104 (fun d h => by cases h; rfl) rfl (fun w hS => (Xor_c x0.1 x1.1 x0.2.1 x1.2.1 x0.2.2 x1.2.2 w (dsC_rd (hS.ok (dsC Fb out) (by repeat (first | exact List.Mem.head _ | apply List.Mem.tail))) hxm0) (dsC_rd (hS.ok (dsC Fb out) (by repeat (first | exact List.Mem.head _ | apply List.Mem.tail))) hxm1)).mono (fun e w2 ⟨x, h1, h2⟩ => ⟨x, trivial, h1, h2⟩)) (fun z89 _ => ?_)
                    refine WD.on (closed_of (by kernel_rfl)) (fun w hS => Sx.gone rfl (Sx.gone rfl (Sx.none))) ?_
                    refine WD.one (i := 7) (by kernel_rfl) rfl ?_
                    refine WL.call0 (β := DRes (fun cf => !z89.1.1.ev cf)) (res := fun z => .returned z.v) (cs := fun z => [z.ch]) (ψ := fun _ => True) F.fun100 (fun d h => by cases h; rfl) rfl (fun w hS => (Not_c z89.1.1 z89.1.2.1 z89.1.2.2 w (z89.rd hS (by repeat (first | exact List.Mem.head _ | apply List.Mem.tail)))).mono (fun e w2 ⟨x, h1, h2⟩ => ⟨x, trivial, h1, h2⟩)) (fun z90 _ => ?_)
                    refine WD.on (closed_of (by kernel_rfl)) (fun w hS => Sx.gone rfl (Sx.gone rfl (Sx.none))) ?_
                    refine WD.one (i := 8) (by kernel_rfl) rfl ?_
                    refine WL.storeN F.agg35 rfl rfl rfl (by simp [Value.oneCell']) (by repeat (first | exact Upd.here | apply Upd.there)) (by repeat constructor) ?_
                    refine WD.on (closed_of (by kernel_rfl)) (fun w hS => Sx.gone rfl (Sx.gone rfl (Sx.none))) ?_
                    refine WD.done (by kernel_rfl) ?_
                    refine WQ.then_normal ?_
                    refine WC.ret ?_
                    refine WQ.block_ret ?_
                    refine WQ.then_ret ?_
                    exact WQ.ret (rs := [.cell 4 35]) rfl (.cellN F.agg35 rfl (by repeat (first | exact List.Mem.head _ | apply List.Mem.tail)) rfl .nil) (fun w hS => ⟨⟨z90.1, z90.2.1, fun cf => by rw [z90.2.2]; dsimp only; rw [z89.2.2, evT_eq, ← hbs]; unfold opV; simp [hop, hx0, hx1]⟩, rfl, ((St.pick hS (c := z90.ch) (by repeat (first | exact Rem.here | apply Rem.there)))).sublist (List.Sublist.cons_cons _ (List.nil_sublist _))⟩)
                  · skip
                    have hn9 : ¬ t.op = 9 := by simpa using h81
                    refine WC.seq ?_
                    refine WC.region ?_
                    refine WL.step ?_
                    refine WL.eqI rfl rfl rfl ?_
                    refine WL.step ?_
                    refine WL.assign rfl rfl ?_
                    refine WL.nil ?_
                    refine WQ.then_normal ?_
                    refine WC.cond rfl (fun h91 => ?_) (fun h91 => ?_)
                    · skip
                      have hop : t.op = 10 := by simpa using h91
                      have := hk10 hop
                      have hol0 : 0 < out.length := by omega
                      obtain ⟨x0, hx0⟩ : ∃ x, out[0]? = some x := ⟨_, List.getElem?_eq_getElem hol0⟩
                      have hxm0 : x0 ∈ out := List.mem_of_getElem? hx0
                      have hol1 : 1 < out.length := by omega
                      obtain ⟨x1, hx1⟩ : ∃ x, out[1]? = some x := ⟨_, List.getElem?_eq_getElem hol1⟩
                      have hxm1 : x1 ∈ out := List.mem_of_getElem? hx1
                      have hol2 : 2 < out.length := by omega
                      obtain ⟨x2, hx2⟩ : ∃ x, out[2]? = some x := ⟨_, List.getElem?_eq_getElem hol2⟩
                      have hxm2 : x2 ∈ out := List.mem_of_getElem? hx2
                      refine WC.know (φ := ∃ g, sa = some ⟨g, 0, none⟩ ∧ out.length = out.length ∧ out.length ≤ sc) (fun w hS => rowc_addr (hS.ok (rowc (.slice sa out.length sc) out.length 35 2 (dcs out)) (by repeat (first | exact List.Mem.head _ | apply List.Mem.tail))) (by omega)) (fun ⟨g8, hg8, _, _⟩ => ?_)
                      subst hg8
                      refine WC.seq ?_
                      refine WC.drawsL (by kernel_rfl) (FactsOk.cons (ds := [9, 10]) (LoadOk.by (Y := (fun w => ∀ j v, (dvl x0)[j]? = some v → w.cell? ⟨g8, 0 + 0 * 2 + j, none⟩ = some v)) (fun w hS => fun j v hv => by (have h9 := rowc_cells (hS.ok (rowc (.slice (some ⟨g8, 0, none⟩) out.length sc) out.length 35 2 (dcs out)) (by repeat (first | exact List.Mem.head _ | apply List.Mem.tail))) (dcs_at hx0 j v hv)); simpa using h9)) (FactsOk.cons (ds := [9, 10]) (LoadOk.by (Y := (fun w => ∀ j v, (dvl x1)[j]? = some v → w.cell? ⟨g8, 0 + 1 * 2 + j, none⟩ = some v)) (fun w hS => fun j v hv => by (have h9 := rowc_cells (hS.ok (rowc (.slice (some ⟨g8, 0, none⟩) out.length sc) out.length 35 2 (dcs out)) (by repeat (first | exact List.Mem.head _ | apply List.Mem.tail))) (dcs_at hx1 j v hv)); simpa using h9)) (FactsOk.cons (ds := [9, 10]) (LoadOk.by (Y := (fun w => ∀ j v, (dvl x2)[j]? = some v → w.cell? ⟨g8, 0 + 2 * 2 + j, none⟩ = some v)) (fun w hS => fun j v hv => by (have h9 := rowc_cells (hS.ok (rowc (.slice (some ⟨g8, 0, none⟩) out.length sc) out.length 35 2 (dcs out)) (by repeat (first | exact List.Mem.head _ | apply List.Mem.tail))) (dcs_at hx2 j v hv)); simpa using h9)) (FactsOk.nil)))) ?_
                      refine WD.take (i := 0) rfl rfl rfl rfl (by kernel_rfl) (by kernel_rfl) (by kernel_rfl) (fun _ _ _ h => h) (by kernel_rfl) need_none (Yl.move rfl) ?_
                      refine WD.take (i := 1) rfl rfl rfl rfl (by kernel_rfl) (by kernel_rfl) (by kernel_rfl) (fun _ _ _ h => h) (by kernel_rfl) need_none (Yl.indexAddr (i := 0) F.sl48 rfl rfl hol0) ?_
                      refine WD.take (i := 2) rfl rfl rfl rfl (by kernel_rfl) (by kernel_rfl) (by kernel_rfl) (fun _ _ _ h => h) (by kernel_rfl) (need_at 0 11 rfl (by kernel_rfl)) (Yl.loadN F.agg35 rfl rfl) ?_
                      refine WD.take (i := 3) rfl rfl rfl rfl (by kernel_rfl) (by kernel_rfl) (by kernel_rfl) (fun _ _ _ h => h) (by kernel_rfl) need_none (Yl.move rfl) ?_
                      refine WD.take (i := 4) rfl rfl rfl rfl (by kernel_rfl) (by kernel_rfl) (by kernel_rfl) (fun _ _ _ h => h) (by kernel_rfl) need_none (Yl.indexAddr (i := 1) F.sl48 rfl rfl hol1) ?_
                      refine WD.take (i := 5) rfl rfl rfl rfl (by kernel_rfl) (by kernel_rfl) (by kernel_rfl) (fun _ _ _ h => h) (by kernel_rfl) (need_at 1 11 rfl (by kernel_rfl)) (Yl.loadN F.agg35 rfl rfl) ?_
                      refine WD.take (i := 6) rfl rfl rfl rfl (by kernel_rfl) (by kernel_rfl) (by kernel_rfl) (fun _ _ _ h => h) (by kernel_rfl) need_none (Yl.move rfl) ?_
                      refine WD.take (i := 7) rfl rfl rfl rfl (by kernel_rfl) (by kernel_rfl) (by kernel_rfl) (fun _ _ _ h => h) (by kernel_rfl) need_none (Yl.indexAddr (i := 2) F.sl48 rfl rfl hol2) ?_
                      refine WD.take (i := 8) rfl rfl rfl rfl (by kernel_rfl) (by kernel_rfl) (by kernel_rfl) (fun _ _ _ h => h) (by kernel_rfl) (need_at 2 11 rfl (by kernel_rfl)) (Yl.loadN F.agg35 rfl rfl) ?_
                      refine WD.one (i := 9) (by kernel_rfl) rfl ?_
                      refine WL.call0 (β := DRes (fun cf => bif x0.1.ev cf then x1.1.ev cf else x2.1.ev cf)) (res := fun z => .returned z.v) (cs := fun z => [z.ch]) (ψ := fun _ => True) F.fun106 (fun d h => by cases h; rfl) rfl (fun w hS => (Ite_c x0.1 x1.1 x2.1 x0.2.1 x1.2.1 x2.2.1 x0.2.2 x1.2.2 x2.2.2 w (dsC_rd (hS.ok (dsC Fb out) (by repeat (first | exact List.Mem.head _ | apply List.Mem.tail))) hxm0) (dsC_rd (hS.ok (dsC Fb out) (by repeat (first | exact List.Mem.head _ | apply List.Mem.tail))) hxm1) (dsC_rd (hS.ok (dsC Fb out) (by repeat (first | exact List.Mem.head _ | apply List.Mem.tail))) hxm2)).mono (fun e w2 ⟨x, h1, h2⟩ => ⟨x, trivial, h1, h2⟩)) (fun z102 _ => ?_)
                      refine WD.on (closed_of (by kernel_rfl)) (fun w hS => Sx.gone rfl (Sx.gone rfl (Sx.gone rfl (Sx.none)))) ?_
                      refine WD.one (i := 10) (by kernel_rfl) rfl ?_
                      refine WL.storeN F.agg35 rfl rfl rfl (by simp [Value.oneCell']) (by repeat (first | exact Upd.here | apply Upd.there)) (by repeat constructor) ?_
                      refine WD.on (closed_of (by kernel_rfl)) (fun w hS => Sx.gone rfl (Sx.gone rfl (Sx.gone rfl (Sx.none)))) ?_
                      refine WD.done (by kernel_rfl) ?_
                      refine WQ.then_normal ?_
                      refine WC.ret ?_
                      refine WQ.block_ret ?_
                      refine WQ.then_ret ?_
                      exact WQ.ret (rs := [.cell 4 35]) rfl (.cellN F.agg35 rfl (by repeat (first | exact List.Mem.head _ | apply List.Mem.tail)) rfl .nil) (fun w hS => ⟨⟨z102.1, z102.2.1, fun cf => by rw [z102.2.2, evT_eq, ← hbs]; unfold opV; simp [hop, hx0, hx1, hx2]⟩, rfl, ((St.pick hS (c := z102.ch) (by repeat (first | exact Rem.here | apply Rem.there)))).sublist (List.Sublist.cons_cons _ (List.nil_sublist _))⟩)
                    · skip
                      have hn10 : ¬ t.op = 10 := by simpa using h91
                      refine WC.skip ?_
                      refine WQ.block_normal ?_
                      refine WQ.then_normal ?_
                      refine WC.seq ?_
                      refine WC.region ?_
                      refine WL.step ?_
                      refine WL.call0 (β := DRes (fun _ => false)) (res := fun z => .returned z.v) (cs := fun z => [z.ch]) (ψ := fun _ => True) F.fun103 (fun d h => by cases h; rfl) rfl (fun w hS => (False_c w).mono (fun e w2 ⟨x, h1, h2⟩ => ⟨x, trivial, h1, h2⟩)) (fun z103 _ => ?_)
                      refine WL.step ?_
                      refine WL.storeN F.agg35 rfl rfl rfl (by simp [Value.oneCell']) (by repeat (first | exact Upd.here | apply Upd.there)) (by repeat constructor) ?_
                      refine WL.nil ?_
                      refine WQ.then_normal ?_
                      refine WC.ret ?_
                      exact WQ.ret (rs := [.cell 4 35]) rfl (.cellN F.agg35 rfl (by repeat (first | exact List.Mem.head _ | apply List.Mem.tail)) rfl .nil) (fun w hS => ⟨⟨z103.1, z103.2.1, fun cf => by rw [z103.2.2, evT_eq]; unfold opV; rw [if_neg hn2, if_neg hn3, if_neg hn4, if_neg hn5, if_neg hn6, if_neg hn7, if_neg hn8, if_neg hn9, if_neg hn10]⟩, rfl, ((St.pick hS (c := z103.ch) (by repeat (first | exact Rem.here | apply Rem.there)))).sublist (List.Sublist.cons_cons _ (List.nil_sublist _))⟩)

theorem Set_c (names : List (List UInt8)) (na : Option Addr) (nc : Nat) (hnl24 : names.length ≤ 24) : ∀ n, n ≤ 1099511627776 → SetC names na nc n
  | 0, _ => fun t wb G a c w hsz _ _ _ _ => by rw [Fm.rowT_eq] at hsz; simp at hsz
  | n + 1, h => Set_step names na nc hnl24 n (by omega) (Set_c names na nc hnl24 n (by omega))

end Go.Proofs.YtkgllhkhdjodeaaGreat

/-! Counting what is true. -/
namespace Dg
def cntB (bs : List Bool) : Nat := bs.count true
end Dg

namespace Go.Proofs.YtkgllhkhdjodeaaGreat
open Go Go.Eng Go.Proofs Dg
abbrev bls (bs : List Bool) : List Value := bs.map Value.bool
theorem bls_at {bs : List Bool} {i : Nat} {b : Bool} (h : bs[i]? = some b) : (bls bs)[i]? = some (.bool b) := by
 rw [List.getElem?_map, h]; rfl
theorem retB {b b' : Bool} (h : b = b') : Ending.returned (tup [Value.bool b]) = .returned (.bool b') := by subst h; rfl
structure TruG where
 i : Nat
 bs : List Bool
 sa : Option Addr
 sc : Nat
def TrueC (names : List (List UInt8)) (na : Option Addr) (nc M : Nat) (n : Nat) : Prop := ∀ (t : Tree) (wb : World) (G : List Nat) (a : Option Addr) (c : Nat) (w : World), (Fm.rowT t).length ≤ n → okT names t → rdT wb t G (tv t a c) → Ext wb w → RdS w names na →
 Pure Tryz.prog 15 [tv t a c, .slice na names.length nc, .int .u32 (M : Int)] w (.bool (evT names t (cfg M)))
theorem conv61 {n : Nat} (hn : n < 9223372036854775808) (w : World) : (convert 3 61 (.int .i64 (n : Int))).run Tryz.prog w = .ok (.int .u64 (n : Int)) w := conv39 hn w

end Go.Proofs.YtkgllhkhdjodeaaGreat

namespace Go.Proofs.YtkgllhkhdjodeaaGreat
open Go Go.Eng Go.Proofs
end Go.Proofs.YtkgllhkhdjodeaaGreat

namespace Go.Proofs.YtkgllhkhdjodeaaGreat
open Go Go.Eng Go.Proofs
end Go.Proofs.YtkgllhkhdjodeaaGreat

namespace Go.Proofs.YtkgllhkhdjodeaaGreat
open Go Go.Eng Go.Proofs
def usedStep (acc : List (List UInt8)) (t : Tree) : List (List UInt8) := if t.op == 3 && !acc.contains t.name then acc ++ [t.name] else acc
def usedF (ts : List Tree) : List (List UInt8) := ts.foldl usedStep []
theorem usedStep_len (acc : List (List UInt8)) (t : Tree) : (usedStep acc t).length ≤ acc.length + 1 := by
 unfold usedStep; split
 ·simp
 ·omega
theorem used_len : ∀ (ts : List Tree) (acc : List (List UInt8)), (ts.foldl usedStep acc).length ≤ acc.length + ts.length
 | [], acc => Nat.le_refl _
 | t :: ts, acc => by
  have h1 := used_len ts (usedStep acc t)
  have h2 := usedStep_len acc t
  simp only [List.foldl_cons, List.length_cons]
  omega
structure US where
 i : Nat
 out : List (List UInt8)
 ad2 : Option Addr
 ac2 : Nat

end Go.Proofs.YtkgllhkhdjodeaaGreat

/-! Whether a formula and names may be. -/
namespace Go.Proofs.YtkgllhkhdjodeaaGreat
open Go Go.Eng Go.Proofs Dg
def knownB (t : Tree) (names : List (List UInt8)) : Bool := (usedF (Fm.rowT t)).all (fun s => names.contains s)
def mayD (t : Tree) (names : List (List UInt8)) : Int := if Fm.validB t = false then 2 else if namesE names ≠ 0 then namesE names else if knownB t names then 0 else 6
theorem used_keep : ∀ (ts : List Tree) (acc : List (List UInt8)) (s : List UInt8), s ∈ acc → s ∈ ts.foldl usedStep acc
 | [], _, _, h => h
 | t :: ts, acc, s, h => used_keep ts _ s (by
  unfold usedStep; split
  ·exact List.mem_append_left _ h
  ·exact h)
theorem used_has : ∀ (ts : List Tree) (acc : List (List UInt8)) (k : Tree), k ∈ ts → k.op = 3 → k.name ∈ ts.foldl usedStep acc
 | t :: ts, acc, k, h, h3 => by
  rcases List.mem_cons.1 h with rfl | h
  ·refine used_keep ts _ _ ?_
   unfold usedStep
   cases hc : acc.contains k.name with
   | true =>
    rw [if_neg (by simp)]
    rw [List.contains_iff_exists_mem_beq] at hc
    obtain ⟨y, hy, he⟩ := hc
    have : k.name = y := by simpa using he
    rw [this]; exact hy
   | false =>
    rw [if_pos (by simp [h3])]
    exact List.mem_append_right _ (List.mem_singleton.2 rfl)
  ·exact used_has ts _ k h h3
theorem validB_all {t : Tree} (h : Fm.validB t = true) : (Fm.rowT t).all Fm.rightB = true ∧ (Fm.rowT t).length ≤ 1000 := by
 rw [← Fm.refValid_eq] at h
 unfold Fm.refValid at h
 simp only [Bool.and_eq_true, decide_eq_true_eq] at h
 obtain ⟨⟨h1, h2⟩, _⟩ := h
 refine ⟨List.all_eq_true.2 fun k hk => ?_, h2⟩
 rw [← Fm.oneB_right]
 exact List.all_eq_true.1 h1 k hk
theorem okT_of {t : Tree} {names : List (List UInt8)} (h : Fm.validB t = true) (hk : knownB t names = true) : okT names t := fun k hm =>
 ⟨List.all_eq_true.1 (validB_all h).1 k hm, fun h3 => List.all_eq_true.1 hk _ (used_has _ _ _ hm h3)⟩
theorem names24 {names : List (List UInt8)} (h : namesE names = 0) : names.length ≤ 24 := by
 unfold namesE at h
 split at h
 ·cases h
 ·omega
theorem mayD_zero {t : Tree} {names : List (List UInt8)} : mayD t names = 0 ↔ Fm.validB t = true ∧ namesE names = 0 ∧ knownB t names = true := by
 unfold mayD
 cases Fm.validB t with
 | false => simp
 | true =>
  by_cases h : namesE names = 0
  ·rw [h]; cases knownB t names <;> simp
  ·simp [h]
theorem known_take {t : Tree} {names : List (List UInt8)} {i : Nat} {s : List UInt8} (h : (usedF (Fm.rowT t))[i]? = some s) (hp : ((usedF (Fm.rowT t)).take i).all (fun s => names.contains s) = true) : ((usedF (Fm.rowT t)).take (i + 1)).all (fun s => names.contains s) = names.contains s := by
 rw [List.take_add_one, h, List.all_append, hp]; simp
theorem known_not {t : Tree} {names : List (List UInt8)} {i : Nat} {s : List UInt8} (h : (usedF (Fm.rowT t))[i]? = some s) (hn : names.contains s = false) : knownB t names = false := by
 cases hk : knownB t names with
 | false => rfl
 | true =>
  have := List.all_eq_true.1 hk s (List.mem_of_getElem? h)
  rw [hn] at this; cases this
end Go.Proofs.YtkgllhkhdjodeaaGreat

namespace Go.Proofs.YtkgllhkhdjodeaaGreat
open Go Go.Eng Go.Proofs
theorem und119 : Tryz.prog.underlying 161 = some (.map 9 4) := by kernel_rfl
theorem und9k : Tryz.prog.underlying 9 = some .string := by kernel_rfl
theorem zero4 (w : World) : (zeroValue 4).run Tryz.prog w = .ok (.bool false) w := by kernel_rfl
def NC (bx bn bm : Nat) (ks : List (List UInt8)) (ad : Option Addr) (ac : Nat) : List Chunk := [pt bx [.map (some bm)] 161, pt bn [.slice ad ks.length ac] 25, mpc bm ks, rowc (.slice ad ks.length ac) ks.length 9 1 (strs ks)]
def NO (bx bn bm n : Nat) (ad : Option Addr) (ac : Nat) : List Nat := bx :: bn :: bm :: ob (.slice ad n ac)
theorem NC_O1 {bx bn bm : Nat} {ks : List (List UInt8)} {ad : Option Addr} {ac : Nat} : ∀ c ∈ NC bx bn bm ks ad ac, ∀ k, c.fp k → k ∈ NO bx bn bm ks.length ad ac := by
 intro c hc k hk
 simp only [NC, List.mem_cons, List.not_mem_nil, or_false] at hc
 rcases hc with rfl | rfl | rfl | rfl
 ·have : k = bx := hk
  simp [NO, this]
 ·have : k = bn := hk
  simp [NO, this]
 ·have : k = bm := hk
  simp [NO, this]
 ·have : (Value.slice ad ks.length ac).ownBlock = some k := hk
  simp [NO, ob, this]
theorem NC_O2 {bx bn bm : Nat} {ks : List (List UInt8)} {ad : Option Addr} {ac : Nat} : ∀ k ∈ NO bx bn bm ks.length ad ac, ∃ c ∈ NC bx bn bm ks ad ac, c.fp k := by
 intro k hk
 simp only [NO, List.mem_cons] at hk
 rcases hk with rfl | rfl | rfl | hk
 ·exact ⟨pt k [.map (some bm)] 161, by simp [NC], rfl⟩
 ·exact ⟨pt k [.slice ad ks.length ac] 25, by simp [NC], rfl⟩
 ·exact ⟨mpc k ks, by simp [NC], rfl⟩
 ·refine ⟨rowc (.slice ad ks.length ac) ks.length 9 1 (strs ks), by simp [NC], ?_⟩
  show (Value.slice ad ks.length ac).ownBlock = some k
  unfold ob at hk
  split at hk
  ·rename_i b hb
   simp at hk; rw [hb, hk]
  ·simp at hk
theorem NC_sep {bx bn bm : Nat} {ks : List (List UInt8)} {ad : Option Addr} {ac z : Nat} {w0 w : World} {O : List Nat} {C : List Chunk} (hS : St w0 O (NC bx bn bm ks ad ac ++ C) w) (h1 : z < w0.heap.size) (h2 : z ∉ O) : z ∉ NO bx bn bm ks.length ad ac := fun hz => by
 obtain ⟨c, hc, hf⟩ := NC_O2 z hz
 exact h2 ((hS.bnd c (List.mem_append_left _ hc) z hf).2 h1)

theorem NamesF_c (t : Tree) (a : Option Addr) (c : Nat) (bx bn bm : Nat) (ks : List (List UInt8)) (ad : Option Addr) (ac : Nat) (w : World) (O : List Nat) (hks : ks.length ≤ 1099511627776) (hS0 : St w O (NC bx bn bm ks ad ac) w) :
  Calls Tryz.prog 97 [tv t a c, pp bx, pp bn].toArray w fun e w' => ∃ x : Option Addr × Nat, e = .returned (.tuple #[]) ∧ St w O (NC bx bn bm (usedStep ks t) x.1 x.2) w' := by
 refine enter Tryz.func97 rfl Tryz.ntmps97 rfl (C := [pt bx [.map (some bm)] 161, pt bn [.slice ad ks.length ac] 25, mpc bm ks, rowc (.slice ad ks.length ac) ks.length 9 1 (strs ks)]) hS0 ?_
 refine jN 3 ?_
 refine WL.boxN rfl rfl (fun b3 => ?_)
 refine jN 3 ?_
 refine WC.cutF [(13, .bool (t.op == 3 && !ks.contains t.name)), (1, pp bx), (2, pp bn), (3, pp b3)] (fun Q' hQ => ?_) ?_
 ·refine jN 9 ?_
  refine WA.splitB (i := 7) rfl (fun g7 => ?_) (fun g7 => ?_)
  ·refine jN 11 ?_
   refine WL.lookupM und119 und9k und4b zero4 rfl rfl rfl jM ?_
   refine jN 6 ?_
   refine WQ.byCut hQ (subF_bool ?_ ⟨rfl, rfl, rfl, trivial⟩ rfl)
   first | (rw [g7, Bool.true_and]) | (rw [g7, Bool.false_and])
  ·refine jN 13 ?_
   refine WQ.byCut hQ (subF_bool ?_ ⟨rfl, rfl, rfl, trivial⟩ rfl)
   first | (rw [g7, Bool.true_and]) | (rw [g7, Bool.false_and])
 refine jN 1 ?_
 refine WC.cond rfl (fun h13 => ?_) (fun h13 => ?_)
 ·have hno : ks.contains t.name = false := by (simp at h13; simpa using h13.2)
  refine jN 9 ?_
  refine WL.mapPut und119 und9k rfl rfl rfl hno jU ?_
  refine jN 10 ?_
  refine WL.buildSlice F.sl25 F.ez25 rfl rfl rfl rfl jB rfl (fun b20 => ?_)
  refine jN 1 ?_
  refine WL.appendE (news := [.string (str t.name)]) F.el25 rfl rfl rfl jR (fun w hS jj u hu => by rw [Nat.zero_add]; exact hS.cell (cs := [.string (str t.name)]) jM hu) rfl jO (Nat.le_trans (m := 1099511627777) (by omega) (by decide)) (by omega) (fun ad4 ac4 => ?_)
  refine jN 3 ?_
  refine WQ.fin (rs := []) rfl .nil (fun w hS => ?_)
  have hst : usedStep ks t = ks ++ [t.name] := by unfold usedStep; rw [if_pos h13]
  have hol : (ks ++ [t.name]).length = ks.length + 1 := by simp
  refine ⟨(ad4, ac4), rfl, ?_⟩
  rw [hst]
  unfold NC
  rw [hol, strs, List.map_append]
  exact (jK hS)
 ·refine jN 1 ?_
  refine WQ.fin (rs := []) rfl .nil (fun w hS => ?_)
  have hst : usedStep ks t = ks := by unfold usedStep; rw [if_neg (by rw [h13]; decide)]
  refine ⟨(ad, ac), rfl, ?_⟩
  rw [hst]
  exact (jK hS)

end Go.Proofs.YtkgllhkhdjodeaaGreat
