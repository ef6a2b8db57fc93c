import Derived.Test.YtkgllhkhdjodeaaGreatPaFormulaRound5
set_option linter.unusedSimpArgs false
set_option linter.unusedVariables false
namespace Go.Proofs.YtkgllhkhdjodeaaGreat
open Go Go.Eng Go.Proofs Dg
theorem arCost : ArT Tryz.prog 208 2 24 1 [.int .i64 0, .int .i64 0, .int .i64 0, .int .i64 0, .int .i64 0, .int .i64 0, .int .i64 0, .int .i64 0, .int .i64 0, .int .i64 0, .int .i64 0, .int .i64 0, .int .i64 0, .int .i64 0, .int .i64 0, .int .i64 0, .int .i64 0, .int .i64 0, .int .i64 0, .int .i64 0, .int .i64 0, .int .i64 0, .int .i64 0, .int .i64 0] := ⟨by kernel_rfl, by kernel_rfl, by kernel_rfl⟩
theorem arKnown : ArT Tryz.prog 210 209 24 1 [.slice none 0 0, .slice none 0 0, .slice none 0 0, .slice none 0 0, .slice none 0 0, .slice none 0 0, .slice none 0 0, .slice none 0 0, .slice none 0 0, .slice none 0 0, .slice none 0 0, .slice none 0 0, .slice none 0 0, .slice none 0 0, .slice none 0 0, .slice none 0 0, .slice none 0 0, .slice none 0 0, .slice none 0 0, .slice none 0 0, .slice none 0 0, .slice none 0 0, .slice none 0 0, .slice none 0 0] := ⟨by kernel_rfl, by kernel_rfl, by kernel_rfl⟩
theorem set_self {α : Type} : ∀ {l : List α} {i : Nat} {x : α}, l[i]? = some x → l.set i x = l
 | [], _, _, h => by cases h
 | y :: l, 0, x, h => by simp only [List.getElem?_cons_zero, Option.some.injEq] at h; rw [h]; rfl
 | y :: l, i + 1, x, h => by
  simp only [List.getElem?_cons_succ] at h
  rw [List.set_cons_succ, set_self h]
section
variable {w0 : World} {O : List Nat} {C : List Chunk}
theorem St.kBack {w : World} {KV : List KRow} {i : Nat} {x : KRow} (hx : KV[i]? = some x) (h : St w0 O (rowOf x :: kRows (KV.eraseIdx i) :: C) w) : St w0 O (kRows KV :: C) w := by
 have h2 := St.kClose (y := x) (List.getElem?_eq_some_iff.1 hx).1 h
 rwa [set_self hx] at h2
theorem St.kPut {w : World} {KV : List KRow} {i n c : Nat} {a : Option Addr} {ks : List SpanV} {s : SpanV} (hi : i < KV.length) (hn : n = ks.length + 1)
  (h : St w0 O (rowc (.slice a n c) n 214 3 (spans ks ++ [Value.int .i64 s.1, .int .i64 s.2.1, .int .i64 (s.2.2 : Int)]) :: kRows (KV.eraseIdx i) :: C) w) : St w0 O (kRows (KV.set i (.slice a n c, ks ++ [s])) :: C) w := by
 refine St.kClose (y := (.slice a n c, ks ++ [s])) hi ?_
 have e : rowOf (Value.slice a n c, ks ++ [s]) = rowc (.slice a n c) n 214 3 (spans ks ++ [Value.int .i64 s.1, .int .i64 s.2.1, .int .i64 (s.2.2 : Int)]) := by
  unfold rowOf
  rw [spans_append, spans_one, List.length_append, List.length_singleton, ← hn]
 rw [e]
 exact h
end
abbrev LinZ := List Nat × List Dec × List KRow × SpanV
structure LinP (C : List Int) (rel : Nat) (b : Int) (m : Nat) (l : List Dec) (i : Nat) (sum : Int) (z : LinZ) : Prop where
 lin : LinOk C rel b (m + (2 ^ (24 - i) - 1)) z.2.1 z.2.2.1
 ext : ExtL l z.2.1
 sp : SpanOk C rel b z.2.1 (24 - i) z.2.2.2
 lo : z.2.2.2.1 ≤ sum
 hi : sum ≤ z.2.2.2.2.1

set_option maxRecDepth 100000 in
theorem from_c (bx bm : Nat) (Cc : List Int) (hCl : Cc.length = 24) (hCo : Cc.all costOk = true) (rel : Nat) (b : Int) (hrel : 1 ≤ rel ∧ rel ≤ 3) (hb : -17592186044416 ≤ b ∧ b ≤ 17592186044416) (ea : Option Addr) (ec : Nat) : ∀ (n i : Nat), i ≤ 24 → 24 - i < n →
  ∀ (Fp : List Nat) (l : List Dec) (KV : List KRow) (m : Nat) (sum : Int) (w : World), LinOk Cc rel b m l KV → m + 2 ^ (24 - i) ≤ 16777216 → (-(2147483648 * (i : Int)) ≤ sum ∧ sum ≤ 2147483648 * (i : Int)) → St w Fp [linC Fp bx bm Cc (.slice ea 3 ec) (endL rel b) l KV] w →
  Calls Tryz.prog 156 [pp bx, .int .i64 (i : Int), .int .i64 sum].toArray w fun e w' => ∃ z : { z : LinZ // LinP Cc rel b m l i sum z }, e = .returned (.agg ([Value.int .i64 z.1.2.2.2.1, .int .i64 z.1.2.2.2.2.1, .int .i64 (z.1.2.2.2.2.2 : Int)]).toArray) ∧ St w Fp [linC z.1.1 bx bm Cc (.slice ea 3 ec) (endL rel b) z.1.2.1 z.1.2.2.1] w' := by
 intro n
 induction n with
 | zero => intro i; omega
 | succ n hrec =>
 intro i hi24 hin Fp l KV m sum w hL hm hsum hS0
 obtain ⟨G, _, h1, h2, hS0⟩ := hS0.bunOpen
 simp only [linCs, List.cons_append, List.nil_append] at hS0
 refine enter Tryz.func156 rfl Tryz.ntmps156 rfl (C := [pt bx (linCells bm Cc (.slice ea 3 ec) KV) 212, mkr G bm l, rowc (.slice ea 3 ec) 3 214 3 (spans (endL rel b)), kRows KV]) hS0 ?_
 refine jN 3 ?_
 refine WL.alloc F.zero214 rfl (fun b6 => ?_)
 refine jN 11 ?_
 refine WL.load1 F.one209 rfl rfl (v := (.slice ea 3 ec)) (fun w hS => hS.cell (cs := linCells bm Cc (.slice ea 3 ec) KV) jM (linCells_ends hCl)) ?_
 refine jN 13 ?_
 refine WC.cond rfl (fun h18 => ?_) (fun h18 => ?_)
 ·have hlt : i < 24 := by simp at h18; omega
  obtain ⟨⟨v, ks⟩, hx⟩ : ∃ x, KV[i]? = some x := ⟨_, List.getElem?_eq_getElem (by have := hL.kl; omega)⟩
  obtain ⟨ka, kc, hv⟩ := hL.shape _ (List.mem_of_getElem? hx)
  dsimp only at hv
  subst hv
  have hkm : ks.length ≤ m := hL.km _ (List.mem_of_getElem? hx)
  have hp2 : 2 ^ (24 - i) = 2 ^ (24 - (i + 1)) + 2 ^ (24 - (i + 1)) := by (rw [show 24 - i = (24 - (i + 1)) + 1 by omega, Nat.pow_succ]; omega)
  have hp1 : 0 < 2 ^ (24 - (i + 1)) := Nat.pow_pos (by decide)
  obtain ⟨c, hc⟩ : ∃ c, Cc[i]? = some c := ⟨_, List.getElem?_eq_getElem (by omega)⟩
  have hcg : Cc.getD i 0 = c := by rw [List.getD_eq_getElem?_getD, hc]; rfl
  have hcb : -2147483648 ≤ c ∧ c ≤ 2147483648 := by rw [← hcg]; exact costOk_bd hCo i
  refine jN 10 ?_
  refine WL.indexAddrA (i := i) arKnown rfl rfl rfl hlt ?_
  refine jN 1 ?_
  refine WL.load1 F.one209 rfl rfl (v := .slice ka ks.length kc) (fun w hS => by rw [Nat.mul_one]; exact hS.cell (cs := linCells bm Cc (.slice ea 3 ec) KV) jM (linCells_known hCl hx)) ?_
  refine jN 16 ?_
  refine WC.chunks (C' := [rowc (.slice ka ks.length kc) ks.length 214 3 (spans ks), kRows (KV.eraseIdx i), pt b6 [.int .i64 0, .int .i64 0, .int .i64 0] 214, pt bx (linCells bm Cc (.slice ea 3 ec) KV) 212, mkr G bm l, rowc (.slice ea 3 ec) 3 214 3 (spans (endL rel b))]) (fun w hS => (St.kOpen hx (St.pick (St.pick (St.pick (St.pick (St.pick hS (c := rowc (.slice ea 3 ec) 3 214 3 (spans (endL rel b))) jR) (c := mkr G bm l) jR) (c := pt bx (linCells bm Cc (.slice ea 3 ec) KV) 212) jR) (c := pt b6 [.int .i64 0, .int .i64 0, .int .i64 0] 214) jR) (c := kRows KV) jR)).sublist (List.Sublist.refl _)) ?_
  refine WC.loop (α := Nat) (fun k => k ≤ ks.length) (fun k => [(0, pp bx), (1, .int .i64 (i : Int)), (2, .int .i64 sum), (6, pp b6), (25, .slice ka ks.length kc), (26, .int .i64 (ks.length : Int)), (27, .int .i64 (k : Int))]) (fun _ => [rowc (.slice ka ks.length kc) ks.length 214 3 (spans ks), kRows (KV.eraseIdx i), pt b6 [.int .i64 0, .int .i64 0, .int .i64 0] 214, pt bx (linCells bm Cc (.slice ea 3 ec) KV) 212, mkr G bm l, rowc (.slice ea 3 ec) 3 214 3 (spans (endL rel b))]) (fun k => ks.length - k) (0) ?_ ?_ ?_ ?_
  ·exact Nat.zero_le _
  ·exact ⟨rfl, rfl, rfl, rfl, rfl, rfl, rfl, trivial⟩
  ·rfl
  rintro k hk
  show WC _ _ _ _ _ _ _ [(0, pp bx), (1, .int .i64 (i : Int)), (2, .int .i64 sum), (6, pp b6), (25, .slice ka ks.length kc), (26, .int .i64 (ks.length : Int)), (27, .int .i64 (k : Int))] [rowc (.slice ka ks.length kc) ks.length 214 3 (spans ks), kRows (KV.eraseIdx i), pt b6 [.int .i64 0, .int .i64 0, .int .i64 0] 214, pt bx (linCells bm Cc (.slice ea 3 ec) KV) 212, mkr G bm l, rowc (.slice ea 3 ec) 3 214 3 (spans (endL rel b))]
  refine jN 7 ?_
  refine WC.cond rfl (fun h28 => ?_) (fun h28 => ?_)
  ·have hlt2 : k < ks.length := by simpa using h28
   obtain ⟨s, hs⟩ : ∃ s, ks[k]? = some s := ⟨_, List.getElem?_eq_getElem hlt2⟩
   refine WC.know (φ := ∃ g, ka = some ⟨g, 0, none⟩ ∧ ks.length = ks.length ∧ ks.length ≤ kc) (fun w hS => rowc_addr (hS.ok (rowc (.slice ka ks.length kc) ks.length 214 3 (spans ks)) jM) (by omega)) (fun ⟨g, hg, _, _⟩ => ?_)
   subst hg
   have hsk := hL.sp _ _ hx s (List.mem_of_getElem? hs)
   refine jN 7 ?_
   refine WL.indexAddr F.sl209 rfl rfl rfl hlt2 ?_
   refine jN 1 ?_
   refine WL.loadN F.agg214 rfl rfl (vs := [Value.int .i64 s.1, .int .i64 s.2.1, .int .i64 (s.2.2 : Int)]) rfl (fun w hS j u hu => by rw [Nat.zero_add]; exact rowc_cells (hS.ok (rowc (.slice (some ⟨g, 0, none⟩) ks.length kc) ks.length 214 3 (spans ks)) jM) (spans_at hs j u hu)) ?_
   refine jN 1 ?_
   refine WL.alloc F.zero214 rfl (fun b9 => ?_)
   refine jN 16 ?_
   refine WA.splitB (i := 35) rfl (fun g35 => ?_) (fun g35 => ?_)
   ·have hs1 : s.1 ≤ sum := by simpa using g35
    refine jN 16 ?_
    refine WC.cond rfl (fun h40 => ?_) (fun h40 => ?_)
    ·have hs2 : sum ≤ s.2.1 := by simpa using h40
     refine jN 14 ?_
     refine WQ.ret (rs := [.cell 6 214]) rfl (.cellN F.agg214 rfl jM rfl .nil) (fun w hS => ?_)
     have hS1 := St.kBack hx (St.pick (St.pick hS (c := kRows (KV.eraseIdx i)) jR) (c := rowc (.slice (some ⟨g, 0, none⟩) ks.length kc) ks.length 214 3 (spans ks)) jR)
     exact ⟨⟨(_, l, KV, s), ⟨hL.mono (Nat.le_add_right _ _), ExtL.refl _, hsk, hs1, hs2⟩⟩, rfl, St.linClose (jK hS1)⟩
    ·have hs2 : ¬ sum ≤ s.2.1 := by simpa using h40
     refine jN 9 ?_
     refine WQ.chunks (C' := [rowc (.slice (some ⟨g, 0, none⟩) ks.length kc) ks.length 214 3 (spans ks), kRows (KV.eraseIdx i), pt b6 [.int .i64 0, .int .i64 0, .int .i64 0] 214, pt bx (linCells bm Cc (.slice ea 3 ec) KV) 212, mkr G bm l, rowc (.slice ea 3 ec) 3 214 3 (spans (endL rel b))]) (fun w hS => (jK hS)) ?_
     refine WQ.back (k + 1) ?_ ?_ ?_ ?_
     ·exact by (show k + 1 ≤ ks.length; omega)
     ·(show ks.length - (k + 1) < ks.length - k; omega)
     ·exact ⟨rfl, rfl, rfl, rfl, rfl, rfl, rfl, trivial⟩
     ·rfl
   ·have hs1 : ¬ s.1 ≤ sum := by simpa using g35
    refine jN 22 ?_
    refine WQ.chunks (C' := [rowc (.slice (some ⟨g, 0, none⟩) ks.length kc) ks.length 214 3 (spans ks), kRows (KV.eraseIdx i), pt b6 [.int .i64 0, .int .i64 0, .int .i64 0] 214, pt bx (linCells bm Cc (.slice ea 3 ec) KV) 212, mkr G bm l, rowc (.slice ea 3 ec) 3 214 3 (spans (endL rel b))]) (fun w hS => (jK hS)) ?_
    refine WQ.back (k + 1) ?_ ?_ ?_ ?_
    ·exact by (show k + 1 ≤ ks.length; omega)
    ·(show ks.length - (k + 1) < ks.length - k; omega)
    ·exact ⟨rfl, rfl, rfl, rfl, rfl, rfl, rfl, trivial⟩
    ·rfl
  ·refine jN 7 ?_
   refine WA.chunksE (C' := fun F1 => [linC F1 bx bm Cc (.slice ea 3 ec) (endL rel b) l KV, pt b6 [.int .i64 0, .int .i64 0, .int .i64 0] 214]) (fun w hS => ?_) (fun F1 => ?_)
   ·have hS1 := St.kBack hx (St.pick (St.pick hS (c := kRows (KV.eraseIdx i)) jR) (c := rowc (.slice ka ks.length kc) ks.length 214 3 (spans ks)) jR)
    exact ⟨_, St.linClose (jK hS1)⟩
   refine jN 6 ?_
   refine WA.say 45 (.int .i64 ((i + 1 : Nat) : Int)) rfl ?_
   refine jN 3 ?_
   refine WL.callC (β := { z : LinZ // LinP Cc rel b (m) l (i + 1) (sum) z }) (res := fun z => .agg ([Value.int .i64 z.1.2.2.2.1, .int .i64 z.1.2.2.2.2.1, .int .i64 (z.1.2.2.2.2.2 : Int)]).toArray) (cs := fun z => [linC z.1.1 bx bm Cc (.slice ea 3 ec) (endL rel b) z.1.2.1 z.1.2.2.1]) (Cs := [linC F1 bx bm Cc (.slice ea 3 ec) (endL rel b) l KV]) (C1 := [pt b6 [.int .i64 0, .int .i64 0, .int .i64 0] 214]) (O' := F1) F.fun156 (fun d h => by cases h; rfl) rfl (List.Perm.refl _) bun_O1 bun_O2 (fun w hS hS2 => hrec (i + 1) (by omega) (by omega) F1 l KV (m) (sum) w hL (by omega) ⟨by omega, by omega⟩ hS2) (fun ⟨z1, hz1⟩ => ?_)
   obtain ⟨F2, l2, KV2, s1⟩ := z1
   obtain ⟨j1, j2, j3, j4, j5⟩ := hz1
   dsimp only at j1 j2 j3 j4 j5 ⊢
   refine jN 1 ?_
   refine WL.alloc F.zero214 rfl (fun b10 => ?_)
   refine jN 2 ?_
   refine WA.chunks (C' := [linC F2 bx bm Cc (.slice ea 3 ec) (endL rel b) l2 KV2, pt b10 [Value.int .i64 s1.1, .int .i64 s1.2.1, .int .i64 (s1.2.2 : Int)] 214, pt b6 [.int .i64 0, .int .i64 0, .int .i64 0] 214]) (fun w hS => (jK hS)) ?_
   refine jN 4 ?_
   refine WA.openB (fun G2 _ _ _ => ?_)
   simp only [linCs, List.cons_append, List.nil_append]
   refine jN 6 ?_
   refine WA.say 50 (.int .i64 ((i + 1 : Nat) : Int)) rfl ?_
   refine jN 11 ?_
   refine WL.indexAddrA (i := i) arCost rfl rfl rfl hlt ?_
   refine jN 1 ?_
   refine WL.load1 F.one2 rfl rfl (v := .int .i64 c) (fun w hS => by rw [Nat.mul_one]; exact hS.cell (cs := linCells bm Cc (.slice ea 3 ec) KV2) jM (linCells_cost hc)) ?_
   refine jN 2 ?_
   refine WA.chunksE (C' := fun F3 => [linC F3 bx bm Cc (.slice ea 3 ec) (endL rel b) l2 KV2, pt b10 [Value.int .i64 s1.1, .int .i64 s1.2.1, .int .i64 (s1.2.2 : Int)] 214, pt b6 [.int .i64 0, .int .i64 0, .int .i64 0] 214]) (fun w hS => ?_) (fun F3 => ?_)
   ·exact ⟨_, St.linClose (jK hS)⟩
   refine jN 1 ?_
   refine WL.callC (β := { z : LinZ // LinP Cc rel b (m + (2 ^ (24 - (i + 1)) - 1)) l2 (i + 1) (sum + c) z }) (res := fun z => .agg ([Value.int .i64 z.1.2.2.2.1, .int .i64 z.1.2.2.2.2.1, .int .i64 (z.1.2.2.2.2.2 : Int)]).toArray) (cs := fun z => [linC z.1.1 bx bm Cc (.slice ea 3 ec) (endL rel b) z.1.2.1 z.1.2.2.1]) (Cs := [linC F3 bx bm Cc (.slice ea 3 ec) (endL rel b) l2 KV2]) (C1 := [pt b10 [Value.int .i64 s1.1, .int .i64 s1.2.1, .int .i64 (s1.2.2 : Int)] 214, pt b6 [.int .i64 0, .int .i64 0, .int .i64 0] 214]) (O' := F3) F.fun156 (fun d h => by cases h; rfl) rfl (List.Perm.refl _) bun_O1 bun_O2 (fun w hS hS2 => hrec (i + 1) (by omega) (by omega) F3 l2 KV2 (m + (2 ^ (24 - (i + 1)) - 1)) (sum + c) w j1 (by omega) ⟨by omega, by omega⟩ hS2) (fun ⟨z2, hz2⟩ => ?_)
   obtain ⟨F4, l3, KV3, s2⟩ := z2
   obtain ⟨k1, k2, k3, k4, k5⟩ := hz2
   dsimp only at k1 k2 k3 k4 k5 ⊢
   refine jN 1 ?_
   refine WL.alloc F.zero214 rfl (fun b11 => ?_)
   refine jN 2 ?_
   refine WA.chunks (C' := [linC F4 bx bm Cc (.slice ea 3 ec) (endL rel b) l3 KV3, pt b11 [Value.int .i64 s2.1, .int .i64 s2.2.1, .int .i64 (s2.2.2 : Int)] 214, pt b10 [Value.int .i64 s1.1, .int .i64 s1.2.1, .int .i64 (s1.2.2 : Int)] 214, pt b6 [.int .i64 0, .int .i64 0, .int .i64 0] 214]) (fun w hS => (jK hS)) ?_
   refine WA.openB (fun G4 _ _ _ => ?_)
   simp only [linCs, List.cons_append, List.nil_append]
   have j3x := j3.ext k2
   have e1 := j3.lo
   have e2 := j3.hi
   have e3 := k3.lo
   have e4 := k3.hi
   have hll3 := k1.ll
   refine jN 3 ?_
   refine WC.drawsL (by kernel_rfl) (FactsOk.cons (ds := [36]) (LoadOk.one (t := 10) (off := 0) rfl jM rfl) (FactsOk.cons (ds := [36]) (LoadOk.one (t := 11) (off := 0) rfl jM rfl) (FactsOk.cons (ds := [36]) (LoadOk.by (Y := fun w => w.cell? ⟨bx, 1 + i * 1, none⟩ = some (.int .i64 c)) (fun w hS => by rw [Nat.mul_one]; exact hS.cell (cs := linCells bm Cc (.slice ea 3 ec) KV3) jM (linCells_cost hc))) (FactsOk.cons (ds := [36]) (LoadOk.one (t := 10) (off := 1) rfl jM rfl) (FactsOk.cons (ds := [36]) (LoadOk.one (t := 11) (off := 1) rfl jM rfl) (FactsOk.cons (ds := [36]) (LoadOk.by (Y := fun w => w.cell? ⟨bx, 1 + i * 1, none⟩ = some (.int .i64 c)) (fun w hS => by rw [Nat.mul_one]; exact hS.cell (cs := linCells bm Cc (.slice ea 3 ec) KV3) jM (linCells_cost hc))) (FactsOk.cons (ds := [33, 36]) (LoadOk.one (t := 0) (off := 0) rfl jM rfl) (FactsOk.cons (ds := [33, 36]) (LoadOk.one (t := 10) (off := 2) rfl jM rfl) (FactsOk.cons (ds := [33, 36]) (LoadOk.one (t := 11) (off := 2) rfl jM rfl) (FactsOk.nil)))))))))) ?_
   refine jT 0 rfl (Yl.fieldAddr0 F.fld214_0 rfl) ?_
   refine jF 1 0 rfl rfl (Yl.load1 F.one2 rfl) ?_
   refine jT 2 rfl (Yl.fieldAddr0 F.fld214_0 rfl) ?_
   refine jF 3 1 rfl rfl (Yl.load1 F.one2 rfl) ?_
   refine jT 4 rfl (Yl.move rfl) ?_
   refine jT 5 rfl (Yl.move rfl) ?_
   refine jT 6 rfl (Yl.nilCheck rfl) ?_
   refine jT 7 rfl (Yl.fieldAddr0 F.fld212_1 rfl) ?_
   refine jT 8 rfl (Yl.indexAddrA (i := i) arCost rfl rfl hlt) ?_
   refine jF 9 2 rfl rfl (Yl.load1 F.one2 rfl) ?_
   refine jT 10 rfl (Yl.sub rfl rfl ⟨by omega, by omega⟩) ?_
   refine jT 11 rfl (Yl.maxI rfl rfl) ?_
   refine jT 12 rfl (Yl.fieldAddr0 F.fld214_1 rfl) ?_
   refine jF 13 3 rfl rfl (Yl.load1 F.one2 rfl) ?_
   refine jT 14 rfl (Yl.fieldAddr0 F.fld214_1 rfl) ?_
   refine jF 15 4 rfl rfl (Yl.load1 F.one2 rfl) ?_
   refine jT 16 rfl (Yl.move rfl) ?_
   refine jT 17 rfl (Yl.move rfl) ?_
   refine jT 18 rfl (Yl.nilCheck rfl) ?_
   refine jT 19 rfl (Yl.fieldAddr0 F.fld212_1 rfl) ?_
   refine jT 20 rfl (Yl.indexAddrA (i := i) arCost rfl rfl hlt) ?_
   refine jF 21 5 rfl rfl (Yl.load1 F.one2 rfl) ?_
   refine jT 22 rfl (Yl.sub rfl rfl ⟨by omega, by omega⟩) ?_
   refine jT 23 rfl (Yl.minI rfl rfl rfl) ?_
   refine jT 24 rfl (Yl.move rfl) ?_
   refine jT 25 rfl (Yl.nilCheck rfl) ?_
   refine jT 26 rfl (Yl.fieldAddr0 F.fld212_0 rfl) ?_
   refine jF 27 6 rfl rfl (Yl.load1 F.one200 rfl) ?_
   refine jT 28 rfl (Yl.move rfl) ?_
   refine jT 29 rfl (Yl.fieldAddr0 F.fld214_2 rfl) ?_
   refine jF 30 7 rfl rfl (Yl.load1 F.one3 rfl) ?_
   refine jT 31 rfl (Yl.fieldAddr0 F.fld214_2 rfl) ?_
   refine jF 32 8 rfl rfl (Yl.load1 F.one3 rfl) ?_
   refine WD.two (i := 33) (j := 35) (by decide +kernel) rfl rfl ?_ ?_
   ·refine WL.callC (β := { z : List Nat × List Dec × Nat // MadeN l3 z.2.1 z.2.2 (mkN i (trs l3 s1.2.2) (trs l3 s2.2.2)) ∧ z.2.1.length ≤ l3.length + 1 }) (res := fun z => .int .i64 (z.1.2.2 : Int)) (cs := fun z => [mkr z.1.1 bm z.1.2.1]) (Cs := [mkr G4 bm l3]) (C1 := [pt bx (linCells bm Cc (.slice ea 3 ec) KV3) 212, rowc (.slice ea 3 ec) 3 214 3 (spans (endL rel b)), kRows KV3, pt b11 [Value.int .i64 s2.1, .int .i64 s2.2.1, .int .i64 (s2.2.2 : Int)] 214, pt b10 [Value.int .i64 s1.1, .int .i64 s1.2.1, .int .i64 (s1.2.2 : Int)] 214, pt b6 [.int .i64 0, .int .i64 0, .int .i64 0] 214]) (O' := G4) F.fun149 (fun d h => by cases h; rfl) rfl (List.Perm.swap _ _ _) bun_O1 bun_O2 (fun w hS hS2 => mnode_c G4 bm l3 i s1.2.2 s2.2.2 w hlt k1.mks j3x.lt k3.lt (by omega) hS2) (fun ⟨⟨G5, l4, p4⟩, hm4, hl4⟩ => ?_)
    refine WD.on (closed_of (by decide +kernel)) (fun w hS => Sx.keep (hS.cell jM rfl) (Sx.keep (hS.cell jM rfl) (Sx.keep (by rw [Nat.mul_one]; exact hS.cell (cs := linCells bm Cc (.slice ea 3 ec) KV3) jM (linCells_cost hc)) (Sx.keep (hS.cell jM rfl) (Sx.keep (hS.cell jM rfl) (Sx.keep (by rw [Nat.mul_one]; exact hS.cell (cs := linCells bm Cc (.slice ea 3 ec) KV3) jM (linCells_cost hc)) (Sx.gone rfl (Sx.gone rfl (Sx.gone rfl (Sx.none)))))))))) ?_
    dsimp only at hm4 hl4 ⊢
    have hq := SpanOk.new (x := c) (sum := sum) (p := p4) j3x k3 (by omega) (by rw [show 23 - (24 - (i + 1)) = i by omega]; exact hcg) ⟨j4, j5⟩ ⟨k4, k5⟩ (by rw [show 23 - (24 - (i + 1)) = i by omega]; exact hm4) (lo := ((if s2.1 - c > s1.1 then s2.1 - c else s1.1), (if s2.2.1 - c < s1.2.1 then s2.2.1 - c else s1.2.1), p4).1) (hi := ((if s2.1 - c > s1.1 then s2.1 - c else s1.1), (if s2.2.1 - c < s1.2.1 then s2.2.1 - c else s1.2.1), p4).2.1) (by dsimp only; split <;> omega) (by dsimp only; split <;> omega)
    rw [show 24 - (i + 1) + 1 = 24 - i by omega] at hq
    refine jT 34 rfl (Yl.build F.stT214 rfl jB) ?_
    refine jA 35 rfl ?_
    refine WL.alloc F.zero214 rfl (fun b12 => ?_)
    refine WD.on (closed_of (by decide +kernel)) (fun w hS => Sx.keep (hS.cell jM rfl) (Sx.keep (hS.cell jM rfl) (Sx.keep (by rw [Nat.mul_one]; exact hS.cell (cs := linCells bm Cc (.slice ea 3 ec) KV3) jM (linCells_cost hc)) (Sx.keep (hS.cell jM rfl) (Sx.keep (hS.cell jM rfl) (Sx.keep (by rw [Nat.mul_one]; exact hS.cell (cs := linCells bm Cc (.slice ea 3 ec) KV3) jM (linCells_cost hc)) (Sx.gone rfl (Sx.gone rfl (Sx.gone rfl (Sx.none)))))))))) ?_
    refine jA 36 rfl ?_
    refine WL.storeN F.agg214 rfl rfl rfl jO jU jS ?_
    refine jG ?_
    refine jD ?_
    refine jN 2 ?_
    obtain ⟨sn, hsn⟩ : ∃ s : SpanV, s = ((if s2.1 - c > s1.1 then s2.1 - c else s1.1), (if s2.2.1 - c < s1.2.1 then s2.2.1 - c else s1.2.1), p4) := ⟨_, rfl⟩
    rw [← hsn] at hq
    obtain ⟨hq1, hq2, hq3⟩ := hq
    have q1 : ((if s2.1 - c > s1.1 then s2.1 - c else s1.1), (if s2.2.1 - c < s1.2.1 then s2.2.1 - c else s1.2.1), p4).1 = sn.1 := by rw [hsn]
    have q2 : ((if s2.1 - c > s1.1 then s2.1 - c else s1.1), (if s2.2.1 - c < s1.2.1 then s2.2.1 - c else s1.2.1), p4).2.1 = sn.2.1 := by rw [hsn]
    have q3 : p4 = sn.2.2 := by rw [hsn]
    dsimp only at q1 q2
    rw [q1, q2, q3]
    obtain ⟨⟨v3, ks3⟩, hx3⟩ : ∃ x, KV3[i]? = some x := ⟨_, List.getElem?_eq_getElem (by have := k1.kl; omega)⟩
    obtain ⟨ka3, kc3, hv3⟩ := k1.shape _ (List.mem_of_getElem? hx3)
    dsimp only at hv3
    subst hv3
    have hkm3 : ks3.length ≤ _ := k1.km _ (List.mem_of_getElem? hx3)
    refine WC.chunks (C' := [rowc (.slice ka3 ks3.length kc3) ks3.length 214 3 (spans ks3), kRows (KV3.eraseIdx i), pt b12 [Value.int .i64 sn.1, .int .i64 sn.2.1, .int .i64 (sn.2.2 : Int)] 214, pt bx (linCells bm Cc (.slice ea 3 ec) KV3) 212, mkr G5 bm l4, rowc (.slice ea 3 ec) 3 214 3 (spans (endL rel b)), pt b6 [.int .i64 0, .int .i64 0, .int .i64 0] 214]) (fun w hS => St.kOpen hx3 (jK hS)) ?_
    refine WC.drawsL (by kernel_rfl) (FactsOk.cons (ds := [10, 14]) (LoadOk.by (Y := fun w => w.cell? ⟨bx, 26 + i * 1, none⟩ = some (.slice ka3 ks3.length kc3)) (fun w hS => by rw [Nat.mul_one]; exact hS.cell (cs := linCells bm Cc (.slice ea 3 ec) KV3) jM (linCells_known hCl hx3))) (FactsOk.cons (ds := [9, 10, 14]) (LoadOk.whole (t := 12) rfl jM) (FactsOk.nil))) ?_
    refine jT 0 rfl (Yl.move rfl) ?_
    refine jT 1 rfl (Yl.move rfl) ?_
    refine jT 2 rfl (Yl.move rfl) ?_
    refine jT 3 rfl (Yl.move rfl) ?_
    refine jT 4 rfl (Yl.nilCheck rfl) ?_
    refine jT 5 rfl (Yl.fieldAddr0 F.fld212_3 rfl) ?_
    refine jT 6 rfl (Yl.indexAddrA (i := i) arKnown rfl rfl hlt) ?_
    refine jF 7 0 rfl rfl (Yl.load1 F.one209 rfl) ?_
    refine jF 8 1 rfl rfl (Yl.loadN F.agg214 rfl rfl) ?_
    refine jT 11 rfl (Yl.nilCheck rfl) ?_
    refine jT 12 rfl (Yl.fieldAddr0 F.fld212_3 rfl) ?_
    refine jA 9 rfl ?_
    refine WL.buildSlice F.sl209 F.ez209 rfl rfl rfl rfl jB rfl (fun b104 => ?_)
    refine WD.on (closed_of (by decide +kernel)) (fun w hS => Sx.keep (by rw [Nat.mul_one]; exact hS.cell (cs := linCells bm Cc (.slice ea 3 ec) KV3) jM (linCells_known hCl hx3)) (Sx.gone rfl (Sx.none))) ?_
    refine jA 10 rfl ?_
    refine WL.appendE (news := [Value.int .i64 sn.1, .int .i64 sn.2.1, .int .i64 (sn.2.2 : Int)]) F.el209 rfl rfl rfl jR (fun w hS jj u hu => by rw [Nat.zero_add]; exact hS.cell (cs := [Value.int .i64 sn.1, .int .i64 sn.2.1, .int .i64 (sn.2.2 : Int)]) jM hu) rfl jO (Nat.le_trans (m := 67108864) (by omega) (by decide)) (by omega) (fun a4 c4 => ?_)
    refine jG ?_
    refine jT 13 rfl (Yl.indexAddrA (i := i) arKnown rfl rfl hlt) ?_
    refine jA 14 rfl ?_
    have linset : SetN (linCells bm Cc (.slice ea 3 ec) KV3) (26 + i * 1) [.slice a4 (ks3.length + 1) c4] (linCells bm Cc (.slice ea 3 ec) (KV3.set i (.slice a4 (ks3.length + 1) c4, ks3 ++ [sn]))) := by
     have h7 := setN_set (linCells bm Cc (.slice ea 3 ec) KV3) (26 + i) (.slice a4 (ks3.length + 1) c4) (List.getElem?_eq_some_iff.1 (linCells_known hCl hx3)).1
     rw [linCells_set (y := (.slice a4 (ks3.length + 1) c4, ks3 ++ [sn])) hCl] at h7
     rw [Nat.mul_one]; exact h7
    refine WL.store1 (cs := linCells bm Cc (.slice ea 3 ec) KV3) (cs' := linCells bm Cc (.slice ea 3 ec) (KV3.set i (.slice a4 (ks3.length + 1) c4, ks3 ++ [sn]))) F.one209 rfl rfl rfl jU linset ?_
    refine jG ?_
    refine jD ?_
    refine jN 10 ?_
    refine WQ.ret (rs := [.cell 6 214]) rfl (.cellN F.agg214 rfl jM rfl .nil) (fun w hS => ?_)
    have hS1 := St.kPut (KV := KV3) (i := i) (ks := ks3) (a := a4) (c := c4) (s := sn) (n := ks3.length + 1) (by have := k1.kl; omega) rfl (St.pick (St.pick hS (c := kRows (KV3.eraseIdx i)) jR) (c := rowc (.slice a4 (ks3.length + 1) c4) (ks3.length + 1) 214 3 (spans ks3 ++ [Value.int .i64 sn.1, .int .i64 sn.2.1, .int .i64 (sn.2.2 : Int)])) jR)
    have hlk := (k1.node hm4 hl4).snoc (d := 24 - (i + 1)) (v2 := .slice a4 (ks3.length + 1) c4) (by omega) (by rw [show 23 - (24 - (i + 1)) = i by omega]; exact hx3) hkm3 (by rw [show 24 - (i + 1) + 1 = 24 - i by omega]; exact hq1) ⟨_, _, rfl⟩
    rw [show 23 - (24 - (i + 1)) = i by omega] at hlk
    exact ⟨⟨(_, l4, _, sn), ⟨hlk.mono (by omega), (j2.trans k2).trans (ExtL.made hm4), hq1, hq2, hq3⟩⟩, rfl, St.linClose (jK hS1)⟩
   ·refine WL.alloc F.zero214 rfl (fun b12 => ?_)
    refine WD.on (closed_of (by decide +kernel)) (fun w hS => Sx.keep (hS.cell jM rfl) (Sx.keep (hS.cell jM rfl) (Sx.keep (by rw [Nat.mul_one]; exact hS.cell (cs := linCells bm Cc (.slice ea 3 ec) KV3) jM (linCells_cost hc)) (Sx.keep (hS.cell jM rfl) (Sx.keep (hS.cell jM rfl) (Sx.keep (by rw [Nat.mul_one]; exact hS.cell (cs := linCells bm Cc (.slice ea 3 ec) KV3) jM (linCells_cost hc)) (Sx.keep (hS.cell jM rfl) (Sx.keep (hS.cell jM rfl) (Sx.keep (hS.cell jM rfl) (Sx.none)))))))))) ?_
    refine jA 33 rfl ?_
    refine WL.callC (β := { z : List Nat × List Dec × Nat // MadeN l3 z.2.1 z.2.2 (mkN i (trs l3 s1.2.2) (trs l3 s2.2.2)) ∧ z.2.1.length ≤ l3.length + 1 }) (res := fun z => .int .i64 (z.1.2.2 : Int)) (cs := fun z => [mkr z.1.1 bm z.1.2.1]) (Cs := [mkr G4 bm l3]) (C1 := [pt b12 [.int .i64 0, .int .i64 0, .int .i64 0] 214, pt bx (linCells bm Cc (.slice ea 3 ec) KV3) 212, rowc (.slice ea 3 ec) 3 214 3 (spans (endL rel b)), kRows KV3, pt b11 [Value.int .i64 s2.1, .int .i64 s2.2.1, .int .i64 (s2.2.2 : Int)] 214, pt b10 [Value.int .i64 s1.1, .int .i64 s1.2.1, .int .i64 (s1.2.2 : Int)] 214, pt b6 [.int .i64 0, .int .i64 0, .int .i64 0] 214]) (O' := G4) F.fun149 (fun d h => by cases h; rfl) rfl (((List.Perm.swap _ _ _).cons _).trans (List.Perm.swap _ _ _)) bun_O1 bun_O2 (fun w hS hS2 => mnode_c G4 bm l3 i s1.2.2 s2.2.2 w hlt k1.mks j3x.lt k3.lt (by omega) hS2) (fun ⟨⟨G5, l4, p4⟩, hm4, hl4⟩ => ?_)
    refine WD.on (closed_of (by decide +kernel)) (fun w hS => Sx.keep (hS.cell jM rfl) (Sx.keep (hS.cell jM rfl) (Sx.keep (by rw [Nat.mul_one]; exact hS.cell (cs := linCells bm Cc (.slice ea 3 ec) KV3) jM (linCells_cost hc)) (Sx.keep (hS.cell jM rfl) (Sx.keep (hS.cell jM rfl) (Sx.keep (by rw [Nat.mul_one]; exact hS.cell (cs := linCells bm Cc (.slice ea 3 ec) KV3) jM (linCells_cost hc)) (Sx.gone rfl (Sx.gone rfl (Sx.gone rfl (Sx.none)))))))))) ?_
    dsimp only at hm4 hl4 ⊢
    have hq := SpanOk.new (x := c) (sum := sum) (p := p4) j3x k3 (by omega) (by rw [show 23 - (24 - (i + 1)) = i by omega]; exact hcg) ⟨j4, j5⟩ ⟨k4, k5⟩ (by rw [show 23 - (24 - (i + 1)) = i by omega]; exact hm4) (lo := ((if s2.1 - c > s1.1 then s2.1 - c else s1.1), (if s2.2.1 - c < s1.2.1 then s2.2.1 - c else s1.2.1), p4).1) (hi := ((if s2.1 - c > s1.1 then s2.1 - c else s1.1), (if s2.2.1 - c < s1.2.1 then s2.2.1 - c else s1.2.1), p4).2.1) (by dsimp only; split <;> omega) (by dsimp only; split <;> omega)
    rw [show 24 - (i + 1) + 1 = 24 - i by omega] at hq
    refine jT 34 rfl (Yl.build F.stT214 rfl jB) ?_
    refine jA 36 rfl ?_
    refine WL.storeN F.agg214 rfl rfl rfl jO jU jS ?_
    refine jG ?_
    refine jD ?_
    refine jN 2 ?_
    obtain ⟨sn, hsn⟩ : ∃ s : SpanV, s = ((if s2.1 - c > s1.1 then s2.1 - c else s1.1), (if s2.2.1 - c < s1.2.1 then s2.2.1 - c else s1.2.1), p4) := ⟨_, rfl⟩
    rw [← hsn] at hq
    obtain ⟨hq1, hq2, hq3⟩ := hq
    have q1 : ((if s2.1 - c > s1.1 then s2.1 - c else s1.1), (if s2.2.1 - c < s1.2.1 then s2.2.1 - c else s1.2.1), p4).1 = sn.1 := by rw [hsn]
    have q2 : ((if s2.1 - c > s1.1 then s2.1 - c else s1.1), (if s2.2.1 - c < s1.2.1 then s2.2.1 - c else s1.2.1), p4).2.1 = sn.2.1 := by rw [hsn]
    have q3 : p4 = sn.2.2 := by rw [hsn]
    dsimp only at q1 q2
    rw [q1, q2, q3]
    obtain ⟨⟨v3, ks3⟩, hx3⟩ : ∃ x, KV3[i]? = some x := ⟨_, List.getElem?_eq_getElem (by have := k1.kl; omega)⟩
    obtain ⟨ka3, kc3, hv3⟩ := k1.shape _ (List.mem_of_getElem? hx3)
    dsimp only at hv3
    subst hv3
    have hkm3 : ks3.length ≤ _ := k1.km _ (List.mem_of_getElem? hx3)
    refine WC.chunks (C' := [rowc (.slice ka3 ks3.length kc3) ks3.length 214 3 (spans ks3), kRows (KV3.eraseIdx i), pt b12 [Value.int .i64 sn.1, .int .i64 sn.2.1, .int .i64 (sn.2.2 : Int)] 214, pt bx (linCells bm Cc (.slice ea 3 ec) KV3) 212, mkr G5 bm l4, rowc (.slice ea 3 ec) 3 214 3 (spans (endL rel b)), pt b6 [.int .i64 0, .int .i64 0, .int .i64 0] 214]) (fun w hS => St.kOpen hx3 (jK hS)) ?_
    refine WC.drawsL (by kernel_rfl) (FactsOk.cons (ds := [10, 14]) (LoadOk.by (Y := fun w => w.cell? ⟨bx, 26 + i * 1, none⟩ = some (.slice ka3 ks3.length kc3)) (fun w hS => by rw [Nat.mul_one]; exact hS.cell (cs := linCells bm Cc (.slice ea 3 ec) KV3) jM (linCells_known hCl hx3))) (FactsOk.cons (ds := [9, 10, 14]) (LoadOk.whole (t := 12) rfl jM) (FactsOk.nil))) ?_
    refine jT 0 rfl (Yl.move rfl) ?_
    refine jT 1 rfl (Yl.move rfl) ?_
    refine jT 2 rfl (Yl.move rfl) ?_
    refine jT 3 rfl (Yl.move rfl) ?_
    refine jT 4 rfl (Yl.nilCheck rfl) ?_
    refine jT 5 rfl (Yl.fieldAddr0 F.fld212_3 rfl) ?_
    refine jT 6 rfl (Yl.indexAddrA (i := i) arKnown rfl rfl hlt) ?_
    refine jF 7 0 rfl rfl (Yl.load1 F.one209 rfl) ?_
    refine jF 8 1 rfl rfl (Yl.loadN F.agg214 rfl rfl) ?_
    refine jT 11 rfl (Yl.nilCheck rfl) ?_
    refine jT 12 rfl (Yl.fieldAddr0 F.fld212_3 rfl) ?_
    refine jA 9 rfl ?_
    refine WL.buildSlice F.sl209 F.ez209 rfl rfl rfl rfl jB rfl (fun b104 => ?_)
    refine WD.on (closed_of (by decide +kernel)) (fun w hS => Sx.keep (by rw [Nat.mul_one]; exact hS.cell (cs := linCells bm Cc (.slice ea 3 ec) KV3) jM (linCells_known hCl hx3)) (Sx.gone rfl (Sx.none))) ?_
    refine jA 10 rfl ?_
    refine WL.appendE (news := [Value.int .i64 sn.1, .int .i64 sn.2.1, .int .i64 (sn.2.2 : Int)]) F.el209 rfl rfl rfl jR (fun w hS jj u hu => by rw [Nat.zero_add]; exact hS.cell (cs := [Value.int .i64 sn.1, .int .i64 sn.2.1, .int .i64 (sn.2.2 : Int)]) jM hu) rfl jO (Nat.le_trans (m := 67108864) (by omega) (by decide)) (by omega) (fun a4 c4 => ?_)
    refine jG ?_
    refine jT 13 rfl (Yl.indexAddrA (i := i) arKnown rfl rfl hlt) ?_
    refine jA 14 rfl ?_
    have linset : SetN (linCells bm Cc (.slice ea 3 ec) KV3) (26 + i * 1) [.slice a4 (ks3.length + 1) c4] (linCells bm Cc (.slice ea 3 ec) (KV3.set i (.slice a4 (ks3.length + 1) c4, ks3 ++ [sn]))) := by
     have h7 := setN_set (linCells bm Cc (.slice ea 3 ec) KV3) (26 + i) (.slice a4 (ks3.length + 1) c4) (List.getElem?_eq_some_iff.1 (linCells_known hCl hx3)).1
     rw [linCells_set (y := (.slice a4 (ks3.length + 1) c4, ks3 ++ [sn])) hCl] at h7
     rw [Nat.mul_one]; exact h7
    refine WL.store1 (cs := linCells bm Cc (.slice ea 3 ec) KV3) (cs' := linCells bm Cc (.slice ea 3 ec) (KV3.set i (.slice a4 (ks3.length + 1) c4, ks3 ++ [sn]))) F.one209 rfl rfl rfl jU linset ?_
    refine jG ?_
    refine jD ?_
    refine jN 10 ?_
    refine WQ.ret (rs := [.cell 6 214]) rfl (.cellN F.agg214 rfl jM rfl .nil) (fun w hS => ?_)
    have hS1 := St.kPut (KV := KV3) (i := i) (ks := ks3) (a := a4) (c := c4) (s := sn) (n := ks3.length + 1) (by have := k1.kl; omega) rfl (St.pick (St.pick hS (c := kRows (KV3.eraseIdx i)) jR) (c := rowc (.slice a4 (ks3.length + 1) c4) (ks3.length + 1) 214 3 (spans ks3 ++ [Value.int .i64 sn.1, .int .i64 sn.2.1, .int .i64 (sn.2.2 : Int)])) jR)
    have hlk := (k1.node hm4 hl4).snoc (d := 24 - (i + 1)) (v2 := .slice a4 (ks3.length + 1) c4) (by omega) (by rw [show 23 - (24 - (i + 1)) = i by omega]; exact hx3) hkm3 (by rw [show 24 - (i + 1) + 1 = 24 - i by omega]; exact hq1) ⟨_, _, rfl⟩
    rw [show 23 - (24 - (i + 1)) = i by omega] at hlk
    exact ⟨⟨(_, l4, _, sn), ⟨hlk.mono (by omega), (j2.trans k2).trans (ExtL.made hm4), hq1, hq2, hq3⟩⟩, rfl, St.linClose (jK hS1)⟩
 ·have hie : i = 24 := by simp at h18; omega
  subst hie
  refine jN 14 ?_
  refine WC.chunks (C' := [pt b6 [.int .i64 0, .int .i64 0, .int .i64 0] 214, pt bx (linCells bm Cc (.slice ea 3 ec) KV) 212, mkr G bm l, rowc (.slice ea 3 ec) 3 214 3 (spans (endL rel b)), kRows KV]) (fun w hS => (jK hS)) ?_
  refine WC.loop (α := Nat) (fun k => k ≤ 3 ∧ ∀ j s, j < k → (endL rel b)[j]? = some s → ¬ (s.1 ≤ sum ∧ sum ≤ s.2.1)) (fun k => [(0, pp bx), (2, .int .i64 sum), (6, pp b6), (25, (.slice ea 3 ec)), (26, .int .i64 3), (27, .int .i64 (k : Int))]) (fun _ => [pt b6 [.int .i64 0, .int .i64 0, .int .i64 0] 214, pt bx (linCells bm Cc (.slice ea 3 ec) KV) 212, mkr G bm l, rowc (.slice ea 3 ec) 3 214 3 (spans (endL rel b)), kRows KV]) (fun k => 3 - k) (0) ?_ ?_ ?_ ?_
  ·exact ⟨Nat.zero_le _, fun j s hj => by omega⟩
  ·exact ⟨rfl, rfl, rfl, rfl, rfl, rfl, trivial⟩
  ·rfl
  rintro k ⟨hk, hno⟩
  show WC _ _ _ _ _ _ _ [(0, pp bx), (2, .int .i64 sum), (6, pp b6), (25, (.slice ea 3 ec)), (26, .int .i64 3), (27, .int .i64 (k : Int))] [pt b6 [.int .i64 0, .int .i64 0, .int .i64 0] 214, pt bx (linCells bm Cc (.slice ea 3 ec) KV) 212, mkr G bm l, rowc (.slice ea 3 ec) 3 214 3 (spans (endL rel b)), kRows KV]
  refine jN 7 ?_
  refine WC.cond rfl (fun h28 => ?_) (fun h28 => ?_)
  ·have hlt2 : k < 3 := by (simp at h28; omega)
   obtain ⟨s, hs⟩ : ∃ s, (endL rel b)[k]? = some s := ⟨_, List.getElem?_eq_getElem hlt2⟩
   refine WC.know (φ := ∃ g, ea = some ⟨g, 0, none⟩ ∧ 3 = 3 ∧ 3 ≤ ec) (fun w hS => rowc_addr (hS.ok (rowc (.slice ea 3 ec) 3 214 3 (spans (endL rel b))) jM) (by omega)) (fun ⟨g, hg, _, _⟩ => ?_)
   subst hg
   refine jN 7 ?_
   refine WL.indexAddr F.sl209 rfl rfl rfl hlt2 ?_
   refine jN 1 ?_
   refine WL.loadN F.agg214 rfl rfl (vs := [Value.int .i64 s.1, .int .i64 s.2.1, .int .i64 (s.2.2 : Int)]) rfl (fun w hS j u hu => by rw [Nat.zero_add]; exact rowc_cells (hS.ok (rowc (.slice (some ⟨g, 0, none⟩) 3 ec) 3 214 3 (spans (endL rel b))) jM) (spans_at hs j u hu)) ?_
   refine jN 1 ?_
   refine WL.alloc F.zero214 rfl (fun b9 => ?_)
   refine jN 16 ?_
   refine WA.splitB (i := 35) rfl (fun g35 => ?_) (fun g35 => ?_)
   ·have hs1 : s.1 ≤ sum := by simpa using g35
    refine jN 16 ?_
    refine WC.cond rfl (fun h40 => ?_) (fun h40 => ?_)
    ·have hs2 : sum ≤ s.2.1 := by simpa using h40
     refine jN 14 ?_
     refine WQ.ret (rs := [.cell 6 214]) rfl (.cellN F.agg214 rfl jM rfl .nil) (fun w hS => ?_)
     exact ⟨⟨(_, l, KV, s), ⟨hL.mono (Nat.le_add_right _ _), ExtL.refl _, endL_ok hrel hb s (List.mem_of_getElem? hs), hs1, hs2⟩⟩, rfl, St.linClose (jK hS)⟩
    ·have hs2 : ¬ sum ≤ s.2.1 := by simpa using h40
     refine jN 9 ?_
     refine WQ.chunks (C' := [pt b6 [.int .i64 0, .int .i64 0, .int .i64 0] 214, pt bx (linCells bm Cc (.slice (some ⟨g, 0, none⟩) 3 ec) KV) 212, mkr G bm l, rowc (.slice (some ⟨g, 0, none⟩) 3 ec) 3 214 3 (spans (endL rel b)), kRows KV]) (fun w hS => (jK hS)) ?_
     have hno2 : ∀ j s, j < k + 1 → (endL rel b)[j]? = some s → ¬ (s.1 ≤ sum ∧ sum ≤ s.2.1) := fun j s2 hj hj2 => by
      rcases Nat.lt_or_ge j k with h | h
      ·exact hno j s2 h hj2
      ·have e : j = k := by omega
       subst e
       rw [hs] at hj2
       cases hj2
       exact fun h => hs2 h.2
     refine WQ.back (k + 1) ?_ ?_ ?_ ?_
     ·exact ⟨by omega, hno2⟩
     ·(show 3 - (k + 1) < 3 - k; omega)
     ·exact ⟨rfl, rfl, rfl, rfl, rfl, rfl, trivial⟩
     ·rfl
   ·have hs1 : ¬ s.1 ≤ sum := by simpa using g35
    refine jN 22 ?_
    refine WQ.chunks (C' := [pt b6 [.int .i64 0, .int .i64 0, .int .i64 0] 214, pt bx (linCells bm Cc (.slice (some ⟨g, 0, none⟩) 3 ec) KV) 212, mkr G bm l, rowc (.slice (some ⟨g, 0, none⟩) 3 ec) 3 214 3 (spans (endL rel b)), kRows KV]) (fun w hS => (jK hS)) ?_
    have hno2 : ∀ j s, j < k + 1 → (endL rel b)[j]? = some s → ¬ (s.1 ≤ sum ∧ sum ≤ s.2.1) := fun j s2 hj hj2 => by
     rcases Nat.lt_or_ge j k with h | h
     ·exact hno j s2 h hj2
     ·have e : j = k := by omega
      subst e
      rw [hs] at hj2
      cases hj2
      exact fun h => hs1 h.1
    refine WQ.back (k + 1) ?_ ?_ ?_ ?_
    ·exact ⟨by omega, hno2⟩
    ·(show 3 - (k + 1) < 3 - k; omega)
    ·exact ⟨rfl, rfl, rfl, rfl, rfl, rfl, trivial⟩
    ·rfl
  ·exfalso
   have hke : k = 3 := by (simp at h28; omega)
   subst hke
   obtain ⟨s, hs, hs2⟩ := endL_hit (rel := rel) (b := b) (sum := sum) ⟨by omega, by omega⟩
   obtain ⟨j, hj⟩ := List.getElem?_of_mem hs
   exact hno j s (List.getElem?_eq_some_iff.1 hj).1 hj hs2

end Go.Proofs.YtkgllhkhdjodeaaGreat

namespace Go.Proofs.YtkgllhkhdjodeaaGreat
open Go Go.Eng Go.Proofs Dg
def padI (l : List Int) : List Int := l ++ List.replicate (24 - l.length) 0
theorem padI_len {l : List Int} (h : l.length ≤ 24) : (padI l).length = 24 := by
 unfold padI; rw [List.length_append, List.length_replicate]; omega
theorem padI_get (l : List Int) (j : Nat) : (padI l).getD j 0 = l.getD j 0 := by
 unfold padI
 rw [List.getD_eq_getElem?_getD, List.getD_eq_getElem?_getD]
 by_cases h : j < l.length
 ·rw [List.getElem?_append_left h]
 ·rw [List.getElem?_append_right (by omega), List.getElem?_replicate, List.getElem?_eq_none (show l.length ≤ j by omega)]
  split <;> rfl
theorem padI_ok {l : List Int} (h : l.all costOk = true) : (padI l).all costOk = true := by
 unfold padI
 rw [List.all_append, h, Bool.true_and, List.all_eq_true]
 intro x hx
 rw [List.eq_of_mem_replicate hx]
 decide
theorem tailN_pad (l : List Int) (cf : Cf) : ∀ d : Nat, tailN (padI l) cf d = tailN l cf d
 | 0 => rfl
 | d + 1 => by rw [tailN, tailN, tailN_pad l cf d, padI_get]
abbrev KV0 : List KRow := List.replicate 24 (.slice none 0 0, [])
theorem lin_copy {l : List Int} (h : l.length ≤ 24) (bm : Nat) (KV : List KRow) : (linCells bm (List.replicate 24 0) (.slice none 0 0) KV).take 1 ++ l.map (Value.int .i64) ++ (linCells bm (List.replicate 24 0) (.slice none 0 0) KV).drop (1 + l.length) = linCells bm (padI l) (.slice none 0 0) KV := by
 unfold linCells padI
 rw [List.take_succ_cons, List.take_zero, Nat.add_comm, List.drop_succ_cons, List.drop_append_of_le_length (by simpa using h), List.map_append, List.map_replicate, List.map_replicate, List.drop_replicate]
 simp
theorem lin_ends {C : List Int} (h : C.length = 24) (bm : Nat) (v v' : Value) (KV : List KRow) : SetN (linCells bm C v KV) 25 [v'] (linCells bm C v' KV) := by
 have h7 := setN_set (linCells bm C v KV) 25 v' (by unfold linCells; simp [h]; omega)
 have e : (linCells bm C v KV).set 25 v' = linCells bm C v' KV := by
  unfold linCells
  rw [List.set_cons_succ, List.set_append_right _ _ (by simp [h]), List.length_map, h]
  rfl
 rwa [e] at h7
theorem lin_start (C : List Int) (rel : Nat) (b : Int) : LinOk C rel b 0 [] KV0 := by
 refine ⟨Mk.nil, rfl, fun x hx => ?_, fun i x hx s hs => ?_, Nat.le_refl _, fun x hx => ?_⟩
 ·rw [List.eq_of_mem_replicate hx]; exact ⟨_, _, rfl⟩
 ·rw [List.eq_of_mem_replicate (List.mem_of_getElem? hx)] at hs; cases hs
 ·rw [List.eq_of_mem_replicate hx]; exact Nat.zero_le _
theorem St.kNils {w0 w : World} {O : List Nat} {C : List Chunk} : ∀ n : Nat, St w0 O C w → St w0 O ((List.replicate n ((.slice none 0 0, []) : KRow)).map rowOf ++ C) w
 | 0, h => h
 | n + 1, h => (St.kNils n h).rowNil 214 3
theorem St.kStart {w0 w : World} {O : List Nat} {C : List Chunk} (h : St w0 O C w) : St w0 O (kRows KV0 :: C) w :=
 St.bunClose' (φ := fun _ => True) (Cs := fun _ : Unit => KV0.map rowOf) () trivial (fpl_rows _) (St.kNils 24 h)
theorem linC_mk {F : List Nat} {bx bm : Nat} {Cc : List Int} {ve : Value} {E : List SpanV} {l : List Dec} {KV : List KRow} {w : World} (h : (linC F bx bm Cc ve E l KV).ok w) : w.cell? ⟨bx, 0, none⟩ = some (pp bm) := by
 obtain ⟨G, _, h3, _⟩ := h
 have h5 : w.heap[bx]? = some (.cells (linCells bm Cc ve KV).toArray 212 (0, 0)) := h3 (pt bx (linCells bm Cc ve KV) 212) (by simp [linCs])
 simp [World.cell?, h5, linCells]
theorem linear_ev {l : List Int} {rel : Nat} {bound : Int} (hok : l.all costOk = true) (hrel : 1 ≤ rel ∧ rel ≤ 3) (cf : Cf) : relB rel (0 + tailN (padI l) cf 24) (clampB bound) = relB rel (tailN l cf 24) bound := by
 have h1 := tailN_bd hok cf 24
 rw [Int.zero_add, tailN_pad, relB_clamp hrel ⟨by omega, by omega⟩]

set_option maxRecDepth 100000 in
theorem Linear_1 (l : List Int) (bound : Int) (hv : costsB l = true) (hll : l.length ≤ 1099511627776) (hbd : -9223372036854775808 ≤ bound ∧ bound < 9223372036854775808) (a : Option Addr) (c : Nat) (w : World) (hr : RdC w l a) :
  Calls Tryz.prog 112 [.slice a l.length c, .int .u8 1, .int .i64 bound].toArray w fun e w' => ∃ z : DRes (fun cf => relB 1 (tailN l cf 24) bound), e = .returned (.tuple #[z.v, .int .i64 0]) ∧ St w [] [z.ch] w' := by
 have hv9 := hv
 unfold costsB at hv9
 rw [Bool.and_eq_true, decide_eq_true_eq] at hv9
 obtain ⟨hok, hl24⟩ := hv9
 refine enter Tryz.func112 rfl Tryz.ntmps112 rfl (St.init _) ?_
 refine jN 3 ?_
 refine WL.alloc F.zero35 rfl (fun b6 => ?_)
 refine jN 10 ?_
 refine WL.callV F.fun155 rfl rfl (fun w hS => lvalid_c l a c hll w (hr.next hS)) ?_
 rw [hv]
 refine jN 4 ?_
 refine WA.splitB (i := 13) rfl (fun g13 => ?_) (fun g13 => ?_)
 ·cases g13
 ·refine jN 9 ?_
  refine WA.splitB (i := 16) rfl (fun g16 => ?_) (fun g16 => ?_)
  ·cases g16
  ·refine jN 29 ?_
   refine WL.maxI (r := max bound (-17592186044416)) rfl rfl rfl (by split <;> omega) ?_
   refine jN 1 ?_
   refine WL.minI (r := clampB bound) rfl rfl rfl (by unfold clampB; split <;> omega) ?_
   refine jN 2 ?_
   have hcb := clampB_bd bound
   refine jN 5 ?_
   refine WL.buildA F.arT206 rfl jB rfl ?_
   refine jN 1 ?_
   refine WL.alloc F.zero206 rfl (fun b8 => ?_)
   refine jN 23 ?_
   refine WL.buildA F.arT206 rfl jB rfl ?_
   refine jN 8 ?_
   refine jC (β := List Nat × Nat) (res := fun x => pp x.2) (cs := fun x => [mkr x.1 x.2 []]) F.fun147 rfl (fun w hS _ => newMaker_c w) (fun ⟨G0, bm⟩ => ?_)
   refine jN 3 ?_
   refine WL.boxN rfl rfl (fun b40 => ?_)
   refine jN 6 ?_
   refine WA.chunks (C' := [pt b40 (linCells bm (List.replicate 24 0) (.slice none 0 0) KV0) 212, mkr G0 bm [], pt b8 [.int .i64 1, .int .i64 1, .int .i64 0] 206, pt b6 [.slice none 0 0, .int .i64 0] 35]) (fun w hS => (jK hS)) ?_
   refine jN 7 ?_
   refine WL.sliceArr arCost rfl rfl ?_
   refine jN 3 ?_
   refine WL.copyPt (o := 1) (cs := linCells bm (List.replicate 24 0) (.slice none 0 0) KV0) (vs := l.map (Value.int .i64)) F.und90 (by kernel_rfl) rfl rfl rfl (by rw [List.length_map]; exact (Nat.min_eq_left hl24).symm) (fun w hS j v hj => ?_) (by rw [List.length_map]; unfold linCells; simp; omega) (fun v hv => ?_) jU ?_
   ·rw [List.getElem?_map] at hj
    cases hq : l[j]? with
    | none => rw [hq] at hj; cases hj
    | some x =>
     rw [hq] at hj
     cases hj
     obtain ⟨b9, off9, e1, e2⟩ := hr j x hq
     exact ⟨b9, off9, e1, hS.oldc e2 (by simp)⟩
   ·obtain ⟨x, _, rfl⟩ := List.mem_map.1 hv
    rfl
   rw [List.length_map, lin_copy hl24]
   refine jN 11 ?_
   refine WL.indexAddrA (i := 0) F.arT206 rfl rfl rfl (by decide) ?_
   refine jN 9 ?_
   refine WL.indexAddrA (i := 1) F.arT206 rfl rfl rfl (by decide) ?_
   refine jN 9 ?_
   refine WL.indexAddrA (i := 2) F.arT206 rfl rfl rfl (by decide) ?_
   refine jN 5 ?_
   refine WL.buildSlice F.sl209 F.ez209 rfl rfl rfl rfl jB rfl (fun b63 => ?_)
   refine jN 5 ?_
   refine WL.store1 (cs := linCells bm (padI l) (.slice none 0 0) KV0) (cs' := linCells bm (padI l) (.slice (some ⟨b63, 0, none⟩) 3 3) KV0) F.one209 rfl rfl rfl jU (lin_ends (padI_len hl24) bm _ _ KV0) ?_
   refine jN 3 ?_
   refine WC.chunks (C' := [pt b40 (linCells bm (padI l) (.slice (some ⟨b63, 0, none⟩) 3 3) KV0) 212, mkr G0 bm [], rowc (.slice (some ⟨b63, 0, none⟩) 3 3) 3 214 3 (spans (endL 1 (clampB bound))), kRows KV0, pt b6 [.slice none 0 0, .int .i64 0] 35]) (fun w hS => ?_) ?_
   ·have hS1 := St.kStart (St.rowOf (n := 3) (sz := 3) ((St.pick hS (c := pt b63 [Value.int .i64 (-35184372088832), .int .i64 (clampB bound - 1), .int .i64 1, .int .i64 (clampB bound), .int .i64 (clampB bound), .int .i64 1, .int .i64 (clampB bound + 1), .int .i64 35184372088832, .int .i64 0] 214) jR)) rfl (by decide))
    exact (jK hS1)
   refine WC.draws [([7, 8], fun w => w.cell? ⟨b40, 0, none⟩ = some (pp bm))] (by kernel_rfl) (fun w hS => facts_cons (hS.cell (cs := linCells bm (padI l) (.slice (some ⟨b63, 0, none⟩) 3 3) KV0) jM rfl) (facts_nil)) ?_
   refine jT 0 rfl (Yl.move rfl) ?_
   refine jT 1 rfl (Yl.nilCheck rfl) ?_
   refine jT 2 rfl (Yl.fieldAddr0 F.fld212_0 rfl) ?_
   refine jF 3 0 rfl rfl (Yl.load1 F.one200 rfl) ?_
   refine jT 4 rfl (Yl.move rfl) ?_
   refine jA 5 rfl ?_
   refine WA.chunksE (C' := fun F1 => [linC F1 b40 bm (padI l) (.slice (some ⟨b63, 0, none⟩) 3 3) (endL 1 (clampB bound)) [] KV0, pt b6 [.slice none 0 0, .int .i64 0] 35]) (fun w hS => ?_) (fun F1 => ?_)
   ·exact ⟨_, St.linClose (jK hS)⟩
   refine WL.callC (β := { z : LinZ // LinP (padI l) 1 (clampB bound) 0 [] 0 0 z }) (res := fun z => .agg ([Value.int .i64 z.1.2.2.2.1, .int .i64 z.1.2.2.2.2.1, .int .i64 (z.1.2.2.2.2.2 : Int)]).toArray) (cs := fun z => [linC z.1.1 b40 bm (padI l) (.slice (some ⟨b63, 0, none⟩) 3 3) (endL 1 (clampB bound)) z.1.2.1 z.1.2.2.1]) (Cs := [linC F1 b40 bm (padI l) (.slice (some ⟨b63, 0, none⟩) 3 3) (endL 1 (clampB bound)) [] KV0]) (C1 := [pt b6 [.slice none 0 0, .int .i64 0] 35]) (O' := F1) F.fun156 (fun d h => by cases h; rfl) rfl (List.Perm.refl _) bun_O1 bun_O2 (fun w hS hS2 => from_c b40 bm (padI l) (padI_len hl24) (padI_ok hok) 1 (clampB bound) ⟨by decide, by decide⟩ hcb (some ⟨b63, 0, none⟩) 3 25 0 (by omega) (by omega) F1 [] KV0 0 0 w (lin_start _ _ _) (by decide) ⟨by omega, by omega⟩ hS2) (fun ⟨z1, hz1⟩ => ?_)
   obtain ⟨F2, l2, KV2, s1⟩ := z1
   obtain ⟨j1, j2, j3, j4, j5⟩ := hz1
   dsimp only at j1 j2 j3 j4 j5 ⊢
   rw [show (24 - 0 : Nat) = 24 from rfl] at j3
   refine WD.on (closed_of (by kernel_rfl)) (fun w hS => Sx.keep (linC_mk (hS.ok (linC F2 b40 bm (padI l) (.slice (some ⟨b63, 0, none⟩) 3 3) (endL 1 (clampB bound)) l2 KV2) (List.mem_cons_self ..))) (Sx.none)) ?_
   skip
   refine jT 6 rfl (Yl.field1 (ft := 3) (off := 2) (by kernel_rfl) F.one3 rfl rfl) ?_
   refine jA 7 rfl ?_
   refine WA.openB (fun G2 _ _ _ => ?_)
   simp only [linCs, List.cons_append, List.nil_append]
   refine WL.callC (β := Option Addr × Nat) (res := fun z => dval (trs l2 s1.2.2) z.1 z.2) (cs := fun z => [dC z.1 z.2 (trs l2 s1.2.2)]) (Cs := [mkr G2 bm l2]) (C1 := [pt b40 (linCells bm (padI l) (.slice (some ⟨b63, 0, none⟩) 3 3) KV2) 212, rowc (.slice (some ⟨b63, 0, none⟩) 3 3) 3 214 3 (spans (endL 1 (clampB bound))), kRows KV2, pt b6 [.slice none 0 0, .int .i64 0] 35]) (O' := G2) F.fun148 (fun d h => by cases h; rfl) rfl (List.Perm.swap _ _ _) bun_O1 bun_O2 (fun w hS hS2 => done_c G2 bm l2 s1.2.2 w j1.mks j3.lt j3.ok (by have := j1.ll; omega) hS2) (fun z3 => ?_)
   refine jG ?_
   refine jA 8 rfl ?_
   refine WL.storeN F.agg35 rfl rfl rfl jO jU jS ?_
   refine jG ?_
   refine jT 9 rfl (Yl.assign rfl) ?_
   refine jD ?_
   refine jN 2 ?_
   refine WQ.ret (rs := [.cell 6 35, .tmp 7]) rfl (.cellN F.agg35 rfl jM rfl (.tmp rfl .nil)) (fun w hS => ⟨⟨(trs l2 s1.2.2, z3), j3.ok, fun cf => ?_⟩, rfl, (jK hS)⟩)
   rw [j3.ev 0 j4 j5]
   exact linear_ev hok ⟨by decide, by decide⟩ cf

set_option maxRecDepth 100000 in
theorem Linear_2 (l : List Int) (bound : Int) (hv : costsB l = true) (hll : l.length ≤ 1099511627776) (hbd : -9223372036854775808 ≤ bound ∧ bound < 9223372036854775808) (a : Option Addr) (c : Nat) (w : World) (hr : RdC w l a) :
  Calls Tryz.prog 112 [.slice a l.length c, .int .u8 2, .int .i64 bound].toArray w fun e w' => ∃ z : DRes (fun cf => relB 2 (tailN l cf 24) bound), e = .returned (.tuple #[z.v, .int .i64 0]) ∧ St w [] [z.ch] w' := by
 have hv9 := hv
 unfold costsB at hv9
 rw [Bool.and_eq_true, decide_eq_true_eq] at hv9
 obtain ⟨hok, hl24⟩ := hv9
 refine enter Tryz.func112 rfl Tryz.ntmps112 rfl (St.init _) ?_
 refine jN 3 ?_
 refine WL.alloc F.zero35 rfl (fun b6 => ?_)
 refine jN 10 ?_
 refine WL.callV F.fun155 rfl rfl (fun w hS => lvalid_c l a c hll w (hr.next hS)) ?_
 rw [hv]
 refine jN 4 ?_
 refine WA.splitB (i := 13) rfl (fun g13 => ?_) (fun g13 => ?_)
 ·cases g13
 ·refine jN 9 ?_
  refine WA.splitB (i := 16) rfl (fun g16 => ?_) (fun g16 => ?_)
  ·refine jN 12 ?_
   refine WA.splitB (i := 20) rfl (fun g20 => ?_) (fun g20 => ?_)
   ·cases g20
   ·refine jN 19 ?_
    refine WL.maxI (r := max bound (-17592186044416)) rfl rfl rfl (by split <;> omega) ?_
    refine jN 1 ?_
    refine WL.minI (r := clampB bound) rfl rfl rfl (by unfold clampB; split <;> omega) ?_
    refine jN 2 ?_
    have hcb := clampB_bd bound
    refine jN 5 ?_
    refine WL.buildA F.arT206 rfl jB rfl ?_
    refine jN 1 ?_
    refine WL.alloc F.zero206 rfl (fun b8 => ?_)
    refine jN 32 ?_
    refine WL.buildA F.arT206 rfl jB rfl ?_
    refine jN 8 ?_
    refine jC (β := List Nat × Nat) (res := fun x => pp x.2) (cs := fun x => [mkr x.1 x.2 []]) F.fun147 rfl (fun w hS _ => newMaker_c w) (fun ⟨G0, bm⟩ => ?_)
    refine jN 3 ?_
    refine WL.boxN rfl rfl (fun b40 => ?_)
    refine jN 6 ?_
    refine WA.chunks (C' := [pt b40 (linCells bm (List.replicate 24 0) (.slice none 0 0) KV0) 212, mkr G0 bm [], pt b8 [.int .i64 0, .int .i64 1, .int .i64 1] 206, pt b6 [.slice none 0 0, .int .i64 0] 35]) (fun w hS => (jK hS)) ?_
    refine jN 7 ?_
    refine WL.sliceArr arCost rfl rfl ?_
    refine jN 3 ?_
    refine WL.copyPt (o := 1) (cs := linCells bm (List.replicate 24 0) (.slice none 0 0) KV0) (vs := l.map (Value.int .i64)) F.und90 (by kernel_rfl) rfl rfl rfl (by rw [List.length_map]; exact (Nat.min_eq_left hl24).symm) (fun w hS j v hj => ?_) (by rw [List.length_map]; unfold linCells; simp; omega) (fun v hv => ?_) jU ?_
    ·rw [List.getElem?_map] at hj
     cases hq : l[j]? with
     | none => rw [hq] at hj; cases hj
     | some x =>
      rw [hq] at hj
      cases hj
      obtain ⟨b9, off9, e1, e2⟩ := hr j x hq
      exact ⟨b9, off9, e1, hS.oldc e2 (by simp)⟩
    ·obtain ⟨x, _, rfl⟩ := List.mem_map.1 hv
     rfl
    rw [List.length_map, lin_copy hl24]
    refine jN 11 ?_
    refine WL.indexAddrA (i := 0) F.arT206 rfl rfl rfl (by decide) ?_
    refine jN 9 ?_
    refine WL.indexAddrA (i := 1) F.arT206 rfl rfl rfl (by decide) ?_
    refine jN 9 ?_
    refine WL.indexAddrA (i := 2) F.arT206 rfl rfl rfl (by decide) ?_
    refine jN 5 ?_
    refine WL.buildSlice F.sl209 F.ez209 rfl rfl rfl rfl jB rfl (fun b63 => ?_)
    refine jN 5 ?_
    refine WL.store1 (cs := linCells bm (padI l) (.slice none 0 0) KV0) (cs' := linCells bm (padI l) (.slice (some ⟨b63, 0, none⟩) 3 3) KV0) F.one209 rfl rfl rfl jU (lin_ends (padI_len hl24) bm _ _ KV0) ?_
    refine jN 3 ?_
    refine WC.chunks (C' := [pt b40 (linCells bm (padI l) (.slice (some ⟨b63, 0, none⟩) 3 3) KV0) 212, mkr G0 bm [], rowc (.slice (some ⟨b63, 0, none⟩) 3 3) 3 214 3 (spans (endL 2 (clampB bound))), kRows KV0, pt b6 [.slice none 0 0, .int .i64 0] 35]) (fun w hS => ?_) ?_
    ·have hS1 := St.kStart (St.rowOf (n := 3) (sz := 3) ((St.pick hS (c := pt b63 [Value.int .i64 (-35184372088832), .int .i64 (clampB bound - 1), .int .i64 0, .int .i64 (clampB bound), .int .i64 (clampB bound), .int .i64 1, .int .i64 (clampB bound + 1), .int .i64 35184372088832, .int .i64 1] 214) jR)) rfl (by decide))
     exact (jK hS1)
    refine WC.draws [([7, 8], fun w => w.cell? ⟨b40, 0, none⟩ = some (pp bm))] (by kernel_rfl) (fun w hS => facts_cons (hS.cell (cs := linCells bm (padI l) (.slice (some ⟨b63, 0, none⟩) 3 3) KV0) jM rfl) (facts_nil)) ?_
    refine jT 0 rfl (Yl.move rfl) ?_
    refine jT 1 rfl (Yl.nilCheck rfl) ?_
    refine jT 2 rfl (Yl.fieldAddr0 F.fld212_0 rfl) ?_
    refine jF 3 0 rfl rfl (Yl.load1 F.one200 rfl) ?_
    refine jT 4 rfl (Yl.move rfl) ?_
    refine jA 5 rfl ?_
    refine WA.chunksE (C' := fun F1 => [linC F1 b40 bm (padI l) (.slice (some ⟨b63, 0, none⟩) 3 3) (endL 2 (clampB bound)) [] KV0, pt b6 [.slice none 0 0, .int .i64 0] 35]) (fun w hS => ?_) (fun F1 => ?_)
    ·exact ⟨_, St.linClose (jK hS)⟩
    refine WL.callC (β := { z : LinZ // LinP (padI l) 2 (clampB bound) 0 [] 0 0 z }) (res := fun z => .agg ([Value.int .i64 z.1.2.2.2.1, .int .i64 z.1.2.2.2.2.1, .int .i64 (z.1.2.2.2.2.2 : Int)]).toArray) (cs := fun z => [linC z.1.1 b40 bm (padI l) (.slice (some ⟨b63, 0, none⟩) 3 3) (endL 2 (clampB bound)) z.1.2.1 z.1.2.2.1]) (Cs := [linC F1 b40 bm (padI l) (.slice (some ⟨b63, 0, none⟩) 3 3) (endL 2 (clampB bound)) [] KV0]) (C1 := [pt b6 [.slice none 0 0, .int .i64 0] 35]) (O' := F1) F.fun156 (fun d h => by cases h; rfl) rfl (List.Perm.refl _) bun_O1 bun_O2 (fun w hS hS2 => from_c b40 bm (padI l) (padI_len hl24) (padI_ok hok) 2 (clampB bound) ⟨by decide, by decide⟩ hcb (some ⟨b63, 0, none⟩) 3 25 0 (by omega) (by omega) F1 [] KV0 0 0 w (lin_start _ _ _) (by decide) ⟨by omega, by omega⟩ hS2) (fun ⟨z1, hz1⟩ => ?_)
    obtain ⟨F2, l2, KV2, s1⟩ := z1
    obtain ⟨j1, j2, j3, j4, j5⟩ := hz1
    dsimp only at j1 j2 j3 j4 j5 ⊢
    rw [show (24 - 0 : Nat) = 24 from rfl] at j3
    refine WD.on (closed_of (by kernel_rfl)) (fun w hS => Sx.keep (linC_mk (hS.ok (linC F2 b40 bm (padI l) (.slice (some ⟨b63, 0, none⟩) 3 3) (endL 2 (clampB bound)) l2 KV2) (List.mem_cons_self ..))) (Sx.none)) ?_
    skip
    refine jT 6 rfl (Yl.field1 (ft := 3) (off := 2) (by kernel_rfl) F.one3 rfl rfl) ?_
    refine jA 7 rfl ?_
    refine WA.openB (fun G2 _ _ _ => ?_)
    simp only [linCs, List.cons_append, List.nil_append]
    refine WL.callC (β := Option Addr × Nat) (res := fun z => dval (trs l2 s1.2.2) z.1 z.2) (cs := fun z => [dC z.1 z.2 (trs l2 s1.2.2)]) (Cs := [mkr G2 bm l2]) (C1 := [pt b40 (linCells bm (padI l) (.slice (some ⟨b63, 0, none⟩) 3 3) KV2) 212, rowc (.slice (some ⟨b63, 0, none⟩) 3 3) 3 214 3 (spans (endL 2 (clampB bound))), kRows KV2, pt b6 [.slice none 0 0, .int .i64 0] 35]) (O' := G2) F.fun148 (fun d h => by cases h; rfl) rfl (List.Perm.swap _ _ _) bun_O1 bun_O2 (fun w hS hS2 => done_c G2 bm l2 s1.2.2 w j1.mks j3.lt j3.ok (by have := j1.ll; omega) hS2) (fun z3 => ?_)
    refine jG ?_
    refine jA 8 rfl ?_
    refine WL.storeN F.agg35 rfl rfl rfl jO jU jS ?_
    refine jG ?_
    refine jT 9 rfl (Yl.assign rfl) ?_
    refine jD ?_
    refine jN 2 ?_
    refine WQ.ret (rs := [.cell 6 35, .tmp 7]) rfl (.cellN F.agg35 rfl jM rfl (.tmp rfl .nil)) (fun w hS => ⟨⟨(trs l2 s1.2.2, z3), j3.ok, fun cf => ?_⟩, rfl, (jK hS)⟩)
    rw [j3.ev 0 j4 j5]
    exact linear_ev hok ⟨by decide, by decide⟩ cf
  ·cases g16

set_option maxRecDepth 100000 in
theorem Linear_3 (l : List Int) (bound : Int) (hv : costsB l = true) (hll : l.length ≤ 1099511627776) (hbd : -9223372036854775808 ≤ bound ∧ bound < 9223372036854775808) (a : Option Addr) (c : Nat) (w : World) (hr : RdC w l a) :
  Calls Tryz.prog 112 [.slice a l.length c, .int .u8 3, .int .i64 bound].toArray w fun e w' => ∃ z : DRes (fun cf => relB 3 (tailN l cf 24) bound), e = .returned (.tuple #[z.v, .int .i64 0]) ∧ St w [] [z.ch] w' := by
 have hv9 := hv
 unfold costsB at hv9
 rw [Bool.and_eq_true, decide_eq_true_eq] at hv9
 obtain ⟨hok, hl24⟩ := hv9
 refine enter Tryz.func112 rfl Tryz.ntmps112 rfl (St.init _) ?_
 refine jN 3 ?_
 refine WL.alloc F.zero35 rfl (fun b6 => ?_)
 refine jN 10 ?_
 refine WL.callV F.fun155 rfl rfl (fun w hS => lvalid_c l a c hll w (hr.next hS)) ?_
 rw [hv]
 refine jN 4 ?_
 refine WA.splitB (i := 13) rfl (fun g13 => ?_) (fun g13 => ?_)
 ·cases g13
 ·refine jN 9 ?_
  refine WA.splitB (i := 16) rfl (fun g16 => ?_) (fun g16 => ?_)
  ·refine jN 12 ?_
   refine WA.splitB (i := 20) rfl (fun g20 => ?_) (fun g20 => ?_)
   ·refine jN 13 ?_
    refine WC.cond rfl (fun h24 => ?_) (fun h24 => ?_)
    ·cases h24
    ·refine jN 7 ?_
     refine WL.maxI (r := max bound (-17592186044416)) rfl rfl rfl (by split <;> omega) ?_
     refine jN 1 ?_
     refine WL.minI (r := clampB bound) rfl rfl rfl (by unfold clampB; split <;> omega) ?_
     refine jN 2 ?_
     have hcb := clampB_bd bound
     refine jN 5 ?_
     refine WL.buildA F.arT206 rfl jB rfl ?_
     refine jN 1 ?_
     refine WL.alloc F.zero206 rfl (fun b8 => ?_)
     refine jN 32 ?_
     refine WL.buildA F.arT206 rfl jB rfl ?_
     refine jN 8 ?_
     refine jC (β := List Nat × Nat) (res := fun x => pp x.2) (cs := fun x => [mkr x.1 x.2 []]) F.fun147 rfl (fun w hS _ => newMaker_c w) (fun ⟨G0, bm⟩ => ?_)
     refine jN 3 ?_
     refine WL.boxN rfl rfl (fun b40 => ?_)
     refine jN 6 ?_
     refine WA.chunks (C' := [pt b40 (linCells bm (List.replicate 24 0) (.slice none 0 0) KV0) 212, mkr G0 bm [], pt b8 [.int .i64 0, .int .i64 1, .int .i64 0] 206, pt b6 [.slice none 0 0, .int .i64 0] 35]) (fun w hS => (jK hS)) ?_
     refine jN 7 ?_
     refine WL.sliceArr arCost rfl rfl ?_
     refine jN 3 ?_
     refine WL.copyPt (o := 1) (cs := linCells bm (List.replicate 24 0) (.slice none 0 0) KV0) (vs := l.map (Value.int .i64)) F.und90 (by kernel_rfl) rfl rfl rfl (by rw [List.length_map]; exact (Nat.min_eq_left hl24).symm) (fun w hS j v hj => ?_) (by rw [List.length_map]; unfold linCells; simp; omega) (fun v hv => ?_) jU ?_
     ·rw [List.getElem?_map] at hj
      cases hq : l[j]? with
      | none => rw [hq] at hj; cases hj
      | some x =>
       rw [hq] at hj
       cases hj
       obtain ⟨b9, off9, e1, e2⟩ := hr j x hq
       exact ⟨b9, off9, e1, hS.oldc e2 (by simp)⟩
     ·obtain ⟨x, _, rfl⟩ := List.mem_map.1 hv
      rfl
     rw [List.length_map, lin_copy hl24]
     refine jN 11 ?_
     refine WL.indexAddrA (i := 0) F.arT206 rfl rfl rfl (by decide) ?_
     refine jN 9 ?_
     refine WL.indexAddrA (i := 1) F.arT206 rfl rfl rfl (by decide) ?_
     refine jN 9 ?_
     refine WL.indexAddrA (i := 2) F.arT206 rfl rfl rfl (by decide) ?_
     refine jN 5 ?_
     refine WL.buildSlice F.sl209 F.ez209 rfl rfl rfl rfl jB rfl (fun b63 => ?_)
     refine jN 5 ?_
     refine WL.store1 (cs := linCells bm (padI l) (.slice none 0 0) KV0) (cs' := linCells bm (padI l) (.slice (some ⟨b63, 0, none⟩) 3 3) KV0) F.one209 rfl rfl rfl jU (lin_ends (padI_len hl24) bm _ _ KV0) ?_
     refine jN 3 ?_
     refine WC.chunks (C' := [pt b40 (linCells bm (padI l) (.slice (some ⟨b63, 0, none⟩) 3 3) KV0) 212, mkr G0 bm [], rowc (.slice (some ⟨b63, 0, none⟩) 3 3) 3 214 3 (spans (endL 3 (clampB bound))), kRows KV0, pt b6 [.slice none 0 0, .int .i64 0] 35]) (fun w hS => ?_) ?_
     ·have hS1 := St.kStart (St.rowOf (n := 3) (sz := 3) ((St.pick hS (c := pt b63 [Value.int .i64 (-35184372088832), .int .i64 (clampB bound - 1), .int .i64 0, .int .i64 (clampB bound), .int .i64 (clampB bound), .int .i64 1, .int .i64 (clampB bound + 1), .int .i64 35184372088832, .int .i64 0] 214) jR)) rfl (by decide))
      exact (jK hS1)
     refine WC.draws [([7, 8], fun w => w.cell? ⟨b40, 0, none⟩ = some (pp bm))] (by kernel_rfl) (fun w hS => facts_cons (hS.cell (cs := linCells bm (padI l) (.slice (some ⟨b63, 0, none⟩) 3 3) KV0) jM rfl) (facts_nil)) ?_
     refine jT 0 rfl (Yl.move rfl) ?_
     refine jT 1 rfl (Yl.nilCheck rfl) ?_
     refine jT 2 rfl (Yl.fieldAddr0 F.fld212_0 rfl) ?_
     refine jF 3 0 rfl rfl (Yl.load1 F.one200 rfl) ?_
     refine jT 4 rfl (Yl.move rfl) ?_
     refine jA 5 rfl ?_
     refine WA.chunksE (C' := fun F1 => [linC F1 b40 bm (padI l) (.slice (some ⟨b63, 0, none⟩) 3 3) (endL 3 (clampB bound)) [] KV0, pt b6 [.slice none 0 0, .int .i64 0] 35]) (fun w hS => ?_) (fun F1 => ?_)
     ·exact ⟨_, St.linClose (jK hS)⟩
     refine WL.callC (β := { z : LinZ // LinP (padI l) 3 (clampB bound) 0 [] 0 0 z }) (res := fun z => .agg ([Value.int .i64 z.1.2.2.2.1, .int .i64 z.1.2.2.2.2.1, .int .i64 (z.1.2.2.2.2.2 : Int)]).toArray) (cs := fun z => [linC z.1.1 b40 bm (padI l) (.slice (some ⟨b63, 0, none⟩) 3 3) (endL 3 (clampB bound)) z.1.2.1 z.1.2.2.1]) (Cs := [linC F1 b40 bm (padI l) (.slice (some ⟨b63, 0, none⟩) 3 3) (endL 3 (clampB bound)) [] KV0]) (C1 := [pt b6 [.slice none 0 0, .int .i64 0] 35]) (O' := F1) F.fun156 (fun d h => by cases h; rfl) rfl (List.Perm.refl _) bun_O1 bun_O2 (fun w hS hS2 => from_c b40 bm (padI l) (padI_len hl24) (padI_ok hok) 3 (clampB bound) ⟨by decide, by decide⟩ hcb (some ⟨b63, 0, none⟩) 3 25 0 (by omega) (by omega) F1 [] KV0 0 0 w (lin_start _ _ _) (by decide) ⟨by omega, by omega⟩ hS2) (fun ⟨z1, hz1⟩ => ?_)
     obtain ⟨F2, l2, KV2, s1⟩ := z1
     obtain ⟨j1, j2, j3, j4, j5⟩ := hz1
     dsimp only at j1 j2 j3 j4 j5 ⊢
     rw [show (24 - 0 : Nat) = 24 from rfl] at j3
     refine WD.on (closed_of (by kernel_rfl)) (fun w hS => Sx.keep (linC_mk (hS.ok (linC F2 b40 bm (padI l) (.slice (some ⟨b63, 0, none⟩) 3 3) (endL 3 (clampB bound)) l2 KV2) (List.mem_cons_self ..))) (Sx.none)) ?_
     skip
     refine jT 6 rfl (Yl.field1 (ft := 3) (off := 2) (by kernel_rfl) F.one3 rfl rfl) ?_
     refine jA 7 rfl ?_
     refine WA.openB (fun G2 _ _ _ => ?_)
     simp only [linCs, List.cons_append, List.nil_append]
     refine WL.callC (β := Option Addr × Nat) (res := fun z => dval (trs l2 s1.2.2) z.1 z.2) (cs := fun z => [dC z.1 z.2 (trs l2 s1.2.2)]) (Cs := [mkr G2 bm l2]) (C1 := [pt b40 (linCells bm (padI l) (.slice (some ⟨b63, 0, none⟩) 3 3) KV2) 212, rowc (.slice (some ⟨b63, 0, none⟩) 3 3) 3 214 3 (spans (endL 3 (clampB bound))), kRows KV2, pt b6 [.slice none 0 0, .int .i64 0] 35]) (O' := G2) F.fun148 (fun d h => by cases h; rfl) rfl (List.Perm.swap _ _ _) bun_O1 bun_O2 (fun w hS hS2 => done_c G2 bm l2 s1.2.2 w j1.mks j3.lt j3.ok (by have := j1.ll; omega) hS2) (fun z3 => ?_)
     refine jG ?_
     refine jA 8 rfl ?_
     refine WL.storeN F.agg35 rfl rfl rfl jO jU jS ?_
     refine jG ?_
     refine jT 9 rfl (Yl.assign rfl) ?_
     refine jD ?_
     refine jN 2 ?_
     refine WQ.ret (rs := [.cell 6 35, .tmp 7]) rfl (.cellN F.agg35 rfl jM rfl (.tmp rfl .nil)) (fun w hS => ⟨⟨(trs l2 s1.2.2, z3), j3.ok, fun cf => ?_⟩, rfl, (jK hS)⟩)
     rw [j3.ev 0 j4 j5]
     exact linear_ev hok ⟨by decide, by decide⟩ cf
   ·cases g20
  ·cases g16

theorem Linear_bad (l : List Int) (rel : Nat) (bound : Int) (hbad : costsB l = false ∨ rel < 1 ∨ 3 < rel) (hll : l.length ≤ 1099511627776) (a : Option Addr) (c : Nat) (w : World) (hr : RdC w l a) :
  Calls Tryz.prog 112 [.slice a l.length c, .int .u8 (rel : Int), .int .i64 bound].toArray w fun e w' => ∃ z : DRes (fun _ => false), e = .returned (.tuple #[z.v, .int .i64 2]) ∧ St w [] [z.ch] w' := by
 refine enter Tryz.func112 rfl Tryz.ntmps112 rfl (St.init _) ?_
 refine jN 3 ?_
 refine WL.alloc F.zero35 rfl (fun b6 => ?_)
 refine jN 10 ?_
 refine WL.callV F.fun155 rfl rfl (fun w hS => lvalid_c l a c hll w (hr.next hS)) ?_
 refine jN 4 ?_
 refine WA.splitB (i := 13) rfl (fun g13 => ?_) (fun g13 => ?_)
 ·refine jN 37 ?_
  exact WQ.ret (rs := [.cell 6 35, .tmp 7]) rfl (.cellN F.agg35 rfl jM rfl (.tmp rfl .nil)) (fun w hS => ⟨⟨(.lf false, none, 0), trivial, fun _ => rfl⟩, rfl, hS.drop.rowNil _ _⟩)
 ·refine jN 9 ?_
  refine WA.splitB (i := 16) rfl (fun g16 => ?_) (fun g16 => ?_)
  ·refine jN 12 ?_
   refine WA.splitB (i := 20) rfl (fun g20 => ?_) (fun g20 => ?_)
   ·refine jN 13 ?_
    refine WC.cond rfl (fun h24 => ?_) (fun h24 => ?_)
    ·refine jN 12 ?_
     exact WQ.ret (rs := [.cell 6 35, .tmp 7]) rfl (.cellN F.agg35 rfl jM rfl (.tmp rfl .nil)) (fun w hS => ⟨⟨(.lf false, none, 0), trivial, fun _ => rfl⟩, rfl, hS.drop.rowNil _ _⟩)
    ·exfalso; simp at g13 g16 g20 h24; rw [g13] at hbad; simp at hbad; omega
   ·exfalso; simp at g13 g16 g20; rw [g13] at hbad; simp at hbad; omega
  ·exfalso; simp at g13 g16; rw [g13] at hbad; simp at hbad; omega

/-- A linear relation, or its error. -/
def linB (l : List Int) (rel : Nat) : Bool := costsB l && decide (1 ≤ rel ∧ rel ≤ 3)
theorem Linear_c (l : List Int) (rel : Nat) (bound : Int) (hll : l.length ≤ 1099511627776) (hbd : -9223372036854775808 ≤ bound ∧ bound < 9223372036854775808) (a : Option Addr) (c : Nat) (w : World) (hr : RdC w l a) :
  Calls Tryz.prog 112 [.slice a l.length c, .int .u8 (rel : Int), .int .i64 bound].toArray w fun e w' => ∃ z : DRes (fun cf => costsB l && (decide (1 ≤ rel ∧ rel ≤ 3) && relB rel (tailN l cf 24) bound)), e = .returned (.tuple #[z.v, .int .i64 (if linB l rel then 0 else 2)]) ∧ St w [] [z.ch] w' := by
 by_cases h : costsB l = true ∧ 1 ≤ rel ∧ rel ≤ 3
 ·obtain ⟨h1, h2⟩ := h
  have hb : linB l rel = true := by unfold linB; rw [h1, decide_eq_true h2]; rfl
  rw [hb, h1, decide_eq_true h2]
  have hr3 : rel = 1 ∨ rel = 2 ∨ rel = 3 := by omega
  rcases hr3 with rfl | rfl | rfl
  ·exact Linear_1 l bound h1 hll hbd a c w hr
  ·exact Linear_2 l bound h1 hll hbd a c w hr
  ·exact Linear_3 l bound h1 hll hbd a c w hr
 ·have hbad : costsB l = false ∨ rel < 1 ∨ 3 < rel := by
   cases hq : costsB l with
   | false => exact .inl rfl
   | true =>
    rw [hq] at h
    simp at h
    omega
  have hb : linB l rel = false := by
   unfold linB
   rcases hbad with h1 | h1
   ·rw [h1]; rfl
   ·rw [decide_eq_false (by omega), Bool.and_false]
  have hf : (fun cf => costsB l && (decide (1 ≤ rel ∧ rel ≤ 3) && relB rel (tailN l cf 24) bound)) = fun _ => false := by
   funext cf
   rcases hbad with h1 | h1
   ·rw [h1]; rfl
   ·rw [decide_eq_false (by omega), Bool.false_and, Bool.and_false]
  rw [hb, hf]
  exact Linear_bad l rel bound hbad hll a c w hr

end Go.Proofs.YtkgllhkhdjodeaaGreat

namespace Go.Proofs.YtkgllhkhdjodeaaGreat
open Go Go.Eng Go.Proofs Dg
def menB (x : OpV) : Bool := decide (x.doo = 2) && (decide (0 ≤ x.i) && decide (x.i < 24))
def men1 (x : OpV) (f : Nat) : Nat := if menB x then f ||| 2 ^ x.i.toNat else f
def men2 (x : OpV) (f : Nat) : Nat := if x.doo = 3 then f ||| x.f ||| x.g else f
def men3 (x : OpV) (f : Nat) : Nat := if x.doo = 12 then f ||| x.f else f
theorem men_up (x : OpV) (f : Nat) {k : Nat} (h : f.testBit k = true) : (men3 x (men2 x (men1 x f))).testBit k = true := by
 have h1 : (men1 x f).testBit k = true := by unfold men1; split <;> simp [h]
 have h2 : (men2 x (men1 x f)).testBit k = true := by unfold men2; split <;> simp [h1]
 unfold men3; split <;> simp [h2]
theorem men_lt {x : OpV} (hx : x.wf) {f : Nat} (h : f < 4294967296) : men3 x (men2 x (men1 x f)) < 4294967296 := by
 have h1 : men1 x f < 4294967296 := by
  unfold men1
  split
  ·rename_i hb
   unfold menB at hb
   simp at hb
   exact Nat.or_lt_two_pow (n := 32) h (Nat.pow_lt_pow_right (by decide) (by omega))
  ·exact h
 have h2 : men2 x (men1 x f) < 4294967296 := by
  unfold men2
  split
  ·exact or_lt32 (or_lt32 h1 hx.f) hx.g
  ·exact h1
 unfold men3
 split
 ·exact or_lt32 h2 hx.f
 ·exact h2
theorem men_in (x : OpV) (f g : Nat) (hg : ∀ k, (men3 x (men2 x (men1 x f))).testBit k = true → g.testBit k = true) (h13 : x.doo = 13 → ∀ k, k < 24 → x.l.getD k 0 ≠ 0 → g.testBit k = true) : OpIn x g := by
 refine ⟨fun h h0 h24 => hg _ ?_, fun h k _ hk => hg _ ?_, fun h k _ hk => hg _ ?_, h13⟩
 ·have hb : menB x = true := by unfold menB; simp [h, h0, h24]
  unfold men3 men2 men1
  rw [if_neg (by omega), if_neg (by omega), if_pos hb]
  rw [Nat.testBit_or, Nat.testBit_two_pow_self, Bool.or_true]
 ·unfold men3 men2
  rw [if_neg (by omega), if_pos h]
  rw [Nat.testBit_or, Nat.testBit_or]
  rcases hk with hk | hk <;> simp [hk]
 ·unfold men3
  rw [if_pos h, Nat.testBit_or, hk, Bool.or_true]
/-- What is known of a script that mentions few features. -/
def MentP (l : List OpV) : Prop := l.length ≤ 12 ∧ ∃ f, f < 4294967296 ∧ (featL f).length ≤ 7 ∧ ∀ x ∈ l, OpIn x f ∧ x.l.length ≤ 40

set_option maxRecDepth 100000 in
theorem Mentioned_c (l : List OpV) (a : Option Addr) (c : Nat) (hwf : ∀ x ∈ l, x.wf) (w : World) (hr : RdOps w l a) :
  Calls Tryz.prog 18 [.slice a l.length c].toArray w fun e w' => ∃ z : { b : Bool // b = true → MentP l }, e = .returned (.bool z.1) ∧ St w [] [] w' := by
 refine enter Tryz.func18 rfl Tryz.ntmps18 rfl (St.init _) ?_
 refine jN 17 ?_
 refine WC.cond rfl (fun h9 => ?_) (fun h9 => ?_)
 ·refine jN 8 ?_
  exact WQ.ret (rs := [.tmp 2]) rfl (.tmp rfl .nil) (fun w hS => ⟨⟨false, fun h => by cases h⟩, rfl, hS.sublist (List.nil_sublist _)⟩)
 ·have hl12 : l.length ≤ 12 := by simp at h9; omega
  refine jN 16 ?_
  refine WC.loop (α := Nat × Nat) (fun g => g.1 ≤ l.length ∧ g.2 < 4294967296 ∧ ∀ x ∈ l.take g.1, OpIn x g.2 ∧ x.l.length ≤ 40) (fun g => [(0, .slice a l.length c), (3, .int .u32 (g.2 : Int)), (4, .int .i64 (g.1 : Int))]) (fun _ => []) (fun g => l.length - g.1) ((0, 0)) ?_ ?_ ?_ ?_
  ·exact ⟨Nat.zero_le _, (by decide), by simp⟩
  ·exact ⟨rfl, rfl, rfl, trivial⟩
  ·rfl
  rintro ⟨i, f⟩ ⟨hi, hf, hin⟩
  dsimp only at hi hf hin
  show WC _ _ _ _ _ _ _ [(0, .slice a l.length c), (3, .int .u32 (f : Int)), (4, .int .i64 (i : Int))] []
  refine jN 13 ?_
  refine WC.cond rfl (fun h13 => ?_) (fun h13 => ?_)
  ·have hlt : i < l.length := by simpa using h13
   obtain ⟨x, hx⟩ : ∃ x, l[i]? = some x := ⟨_, List.getElem?_eq_getElem hlt⟩
   obtain ⟨⟨b, off, ha, hcell⟩, hrc⟩ := hr i x hx
   subst ha
   have hw := hwf x (List.mem_of_getElem? hx)
   have hwd := hw.doo
   refine jN 11 ?_
   refine WL.indexAddr F.sl46 rfl rfl rfl hlt ?_
   refine jN 1 ?_
   refine WL.loadN F.agg92 rfl rfl (vs := x.cells) rfl (fun w hS j u hu => hS.oldc (hcell j u hu) (by simp)) ?_
   refine jN 1 ?_
   refine WL.alloc F.zero92 rfl (fun b5 => ?_)
   refine jN 6 ?_
   refine WC.cutF [(0, .slice (some ⟨b, off, none⟩) l.length c), (3, .int .u32 (f : Int)), (4, .int .i64 (i : Int)), (5, pp b5), (32, .bool (menB x))] (fun Q' hQ => ?_) ?_
   ·refine jN 9 ?_
    refine WA.splitB (i := 23) rfl (fun g23 => ?_) (fun g23 => ?_)
    ·refine jN 13 ?_
     refine WA.splitB (i := 28) rfl (fun g28 => ?_) (fun g28 => ?_)
     ·have hB : menB x = decide (x.i < 24) := by (unfold menB; rw [decide_eq_true (show x.doo = 2 by simp at g23; omega), decide_eq_true (show 0 ≤ x.i by simpa using g28), Bool.true_and, Bool.true_and])
      refine jN 12 ?_
      refine WQ.say 32 (.bool (menB x)) (by rw [hB]; rfl) ?_
      exact WQ.byCut hQ ⟨rfl, rfl, rfl, rfl, rfl, trivial⟩
     ·have hB : menB x = false := by (unfold menB; rw [decide_eq_false (show ¬ 0 ≤ x.i by simp at g28; omega), Bool.false_and, Bool.and_false])
      refine jN 9 ?_
      refine WQ.say 32 (.bool (menB x)) (by rw [hB]; rfl) ?_
      exact WQ.byCut hQ ⟨rfl, rfl, rfl, rfl, rfl, trivial⟩
    ·have hB : menB x = false := by (unfold menB; rw [decide_eq_false (by simp at g23; omega), Bool.false_and])
     refine jN 19 ?_
     refine WQ.say 32 (.bool (menB x)) (by rw [hB]; rfl) ?_
     exact WQ.byCut hQ ⟨rfl, rfl, rfl, rfl, rfl, trivial⟩
   refine jN 1 ?_
   refine WC.cutF [(0, .slice (some ⟨b, off, none⟩) l.length c), (3, .int .u32 ((men1 x f) : Int)), (4, .int .i64 (i : Int)), (5, pp b5)] (fun Q' hQ => ?_) ?_
   ·refine WC.cond rfl (fun h32 => ?_) (fun h32 => ?_)
    ·have hb9 := h32
     unfold menB at hb9
     simp at hb9
     obtain ⟨k, hk⟩ := Int.eq_ofNat_of_zero_le hb9.2.1
     have hk24 : k < 24 := by omega
     have e1 : (men1 x f) = f ||| 2 ^ k := by (unfold men1; rw [if_pos h32, hk]; rfl)
     have hp32 : 2 ^ k < 4294967296 := Nat.lt_of_lt_of_le (Nat.pow_lt_pow_right (by decide) (show k < 32 by omega)) (by decide)
     refine jN 7 ?_
     refine WA.say 35 (.int .i64 (k : Int)) (by rw [show (k : Int) = x.i from hk.symm]; rfl) ?_
     refine jN 1 ?_
     refine WL.convert rfl rfl (v := .int .u64 (k : Int)) (fun w hS => conv61 (by omega) w) ?_
     refine jN 1 ?_
     refine WL.bin rfl rfl rfl (fun w => run_shl1U (by omega) _ _ _ w) ?_
     refine jN 1 ?_
     refine WL.bin rfl rfl rfl (fun w => run_or hf hp32 _ _ _ w) ?_
     refine jN 3 ?_
     refine WQ.say 3 (.int .u32 ((men1 x f) : Int)) (by rw [e1]; rfl) ?_
     exact WQ.byCut hQ ⟨rfl, rfl, rfl, rfl, trivial⟩
    ·have e1 : (men1 x f) = f := by (unfold men1; rw [if_neg (by rw [h32]; decide)])
     refine jN 1 ?_
     refine WQ.say 3 (.int .u32 ((men1 x f) : Int)) (by rw [e1]; rfl) ?_
     exact WQ.byCut hQ ⟨rfl, rfl, rfl, rfl, trivial⟩
   refine jN 4 ?_
   have hf1 : (men1 x f) < 4294967296 := by (have h9 := men_lt hw hf; refine Nat.lt_of_le_of_lt ?_ h9; unfold men3 men2; split <;> split <;> first | exact Nat.le_refl _ | (exact Nat.left_le_or) | (exact Nat.le_trans Nat.left_le_or Nat.left_le_or) | (exact Nat.le_trans (Nat.le_trans Nat.left_le_or Nat.left_le_or) Nat.left_le_or))
   refine jN 8 ?_
   refine WC.cutF [(0, .slice (some ⟨b, off, none⟩) l.length c), (3, .int .u32 ((men2 x (men1 x f)) : Int)), (4, .int .i64 (i : Int)), (5, pp b5)] (fun Q' hQ => ?_) ?_
   ·refine WC.cond rfl (fun h41 => ?_) (fun h41 => ?_)
    ·have hd3 : x.doo = 3 := by simp at h41; omega
     have e2 : (men2 x (men1 x f)) = (men1 x f) ||| x.f ||| x.g := by (unfold men2; rw [if_pos hd3])
     refine jN 8 ?_
     refine WL.bin rfl rfl rfl (fun w => run_or hf1 hw.f _ _ _ w) ?_
     refine jN 5 ?_
     refine WL.bin rfl rfl rfl (fun w => run_or (or_lt32 hf1 hw.f) hw.g _ _ _ w) ?_
     refine jN 3 ?_
     refine WQ.say 3 (.int .u32 ((men2 x (men1 x f)) : Int)) (by rw [e2]; rfl) ?_
     exact WQ.byCut hQ ⟨rfl, rfl, rfl, rfl, trivial⟩
    ·have hd3 : x.doo ≠ 3 := by simp at h41; omega
     have e2 : (men2 x (men1 x f)) = (men1 x f) := by (unfold men2; rw [if_neg hd3])
     refine jN 1 ?_
     refine WQ.say 3 (.int .u32 ((men2 x (men1 x f)) : Int)) (by rw [e2]; rfl) ?_
     exact WQ.byCut hQ ⟨rfl, rfl, rfl, rfl, trivial⟩
   refine jN 4 ?_
   have hf2 : (men2 x (men1 x f)) < 4294967296 := by (have h9 := men_lt hw hf; refine Nat.lt_of_le_of_lt ?_ h9; unfold men3; split <;> first | exact Nat.le_refl _ | exact Nat.left_le_or)
   refine jN 8 ?_
   refine WC.cutF [(0, .slice (some ⟨b, off, none⟩) l.length c), (3, .int .u32 ((men3 x (men2 x (men1 x f))) : Int)), (4, .int .i64 (i : Int)), (5, pp b5)] (fun Q' hQ => ?_) ?_
   ·refine WC.cond rfl (fun h51 => ?_) (fun h51 => ?_)
    ·have hd12 : x.doo = 12 := by simp at h51; omega
     have e3 : (men3 x (men2 x (men1 x f))) = (men2 x (men1 x f)) ||| x.f := by (unfold men3; rw [if_pos hd12])
     refine jN 8 ?_
     refine WL.bin rfl rfl rfl (fun w => run_or hf2 hw.f _ _ _ w) ?_
     refine jN 3 ?_
     refine WQ.say 3 (.int .u32 ((men3 x (men2 x (men1 x f))) : Int)) (by rw [e3]; rfl) ?_
     exact WQ.byCut hQ ⟨rfl, rfl, rfl, rfl, trivial⟩
    ·have hd12 : x.doo ≠ 12 := by simp at h51; omega
     have e3 : (men3 x (men2 x (men1 x f))) = (men2 x (men1 x f)) := by (unfold men3; rw [if_neg hd12])
     refine jN 1 ?_
     refine WQ.say 3 (.int .u32 ((men3 x (men2 x (men1 x f))) : Int)) (by rw [e3]; rfl) ?_
     exact WQ.byCut hQ ⟨rfl, rfl, rfl, rfl, trivial⟩
   refine jN 14 ?_
   refine WC.cond rfl (fun h59 => ?_) (fun h59 => ?_)
   ·refine jN 13 ?_
    exact WQ.ret (rs := [.tmp 2]) rfl (.tmp rfl .nil) (fun w hS => ⟨⟨false, fun h => by cases h⟩, rfl, hS.sublist (List.nil_sublist _)⟩)
   ·have hl40 : x.l.length ≤ 40 := by simp at h59; omega
    have hf3 := men_lt hw hf
    refine jN 9 ?_
    refine WC.chunks (C' := [pt b5 x.cells 92]) (fun w hS => (jK hS)) ?_
    refine WC.loop (α := Nat × Nat) (fun g => g.1 ≤ 24 ∧ g.2 < 4294967296 ∧ (∀ k, (men3 x (men2 x (men1 x f))).testBit k = true → g.2.testBit k = true) ∧ ∀ j, j < g.1 → x.l.getD j 0 ≠ 0 → g.2.testBit j = true) (fun g => [(0, .slice (some ⟨b, off, none⟩) l.length c), (3, .int .u32 (g.2 : Int)), (4, .int .i64 (i : Int)), (5, pp b5), (6, .int .i64 (g.1 : Int))]) (fun _ => [pt b5 x.cells 92]) (fun g => 24 - g.1) ((0, (men3 x (men2 x (men1 x f))))) ?_ ?_ ?_ ?_
    ·exact ⟨Nat.zero_le _, hf3, fun _ h => h, fun j hj => by omega⟩
    ·exact ⟨rfl, rfl, rfl, rfl, rfl, trivial⟩
    ·rfl
    rintro ⟨k, f2⟩ ⟨hk, hf4, hup, hz⟩
    dsimp only at hk hf4 hup hz
    show WC _ _ _ _ _ _ _ [(0, .slice (some ⟨b, off, none⟩) l.length c), (3, .int .u32 (f2 : Int)), (4, .int .i64 (i : Int)), (5, pp b5), (6, .int .i64 (k : Int))] [pt b5 x.cells 92]
    refine jN 15 ?_
    refine WA.splitB (i := 65) rfl (fun g65 => ?_) (fun g65 => ?_)
    ·have hkl : k < x.l.length := by simpa using g65
     refine jN 10 ?_
     refine WA.splitB (i := 69) rfl (fun g69 => ?_) (fun g69 => ?_)
     ·have hk24 : k < 24 := by (simp at g69; omega)
      refine jN 13 ?_
      refine WC.cond rfl (fun h73 => ?_) (fun h73 => ?_)
      ·obtain ⟨y, hy⟩ : ∃ y, x.l[k]? = some y := ⟨_, List.getElem?_eq_getElem hkl⟩
       obtain ⟨b2, off2, hla, hc2⟩ := hrc k y hy
       have hgy : x.l.getD k 0 = y := by rw [List.getD_eq_getElem?_getD, hy]; rfl
       refine jN 10 ?_
       refine WA.say 77 (.slice (some ⟨b2, off2, none⟩) x.l.length x.lc) (by rw [← hla]; rfl) ?_
       refine jN 3 ?_
       refine WL.indexAddr F.sl90 rfl rfl rfl hkl ?_
       refine jN 1 ?_
       refine WL.load1 F.one2 rfl rfl (v := .int .i64 y) (fun w hS => hS.oldc (by rw [Nat.mul_one]; exact hc2) (by simp)) ?_
       refine jN 4 ?_
       refine WC.cond rfl (fun h81 => ?_) (fun h81 => ?_)
       ·have hp32 : 2 ^ k < 4294967296 := Nat.lt_of_lt_of_le (Nat.pow_lt_pow_right (by decide) (show k < 32 by omega)) (by decide)
        refine jN 6 ?_
        refine WL.convert rfl rfl (v := .int .u64 (k : Int)) (fun w hS => conv61 (by omega) w) ?_
        refine jN 1 ?_
        refine WL.bin rfl rfl rfl (fun w => run_shl1U (by omega) _ _ _ w) ?_
        refine jN 1 ?_
        refine WL.bin rfl rfl rfl (fun w => run_or hf4 hp32 _ _ _ w) ?_
        refine jN 13 ?_
        have hz2 : ∀ j, j < k + 1 → x.l.getD j 0 ≠ 0 → (f2 ||| 2 ^ k).testBit j = true := fun j hj hne => by
         rw [Nat.testBit_or]
         rcases Nat.lt_or_ge j k with h | h
         ·rw [hz j h hne, Bool.true_or]
         ·have e : j = k := by omega
          rw [e, Nat.testBit_two_pow_self, Bool.or_true]
        refine WQ.chunks (C' := [pt b5 x.cells 92]) (fun w hS => (jK hS)) ?_
        refine WQ.back ((k + 1, f2 ||| 2 ^ k)) ?_ ?_ ?_ ?_
        ·exact ⟨by (show k + 1 ≤ 24; omega), or_lt32 hf4 hp32, fun j hj => by (rw [Nat.testBit_or, hup j hj, Bool.true_or]), hz2⟩
        ·(show 24 - (k + 1) < 24 - k; omega)
        ·exact ⟨rfl, rfl, rfl, rfl, rfl, trivial⟩
        ·rfl
       ·have hy0 : y = 0 := by (simp at h81; exact h81)
        refine jN 11 ?_
        have hz2 : ∀ j, j < k + 1 → x.l.getD j 0 ≠ 0 → f2.testBit j = true := fun j hj hne => by
         rcases Nat.lt_or_ge j k with h | h
         ·exact hz j h hne
         ·have e : j = k := by omega
          rw [e, hgy] at hne
          exact absurd hy0 hne
        refine WQ.chunks (C' := [pt b5 x.cells 92]) (fun w hS => (jK hS)) ?_
        refine WQ.back ((k + 1, f2)) ?_ ?_ ?_ ?_
        ·exact ⟨by (show k + 1 ≤ 24; omega), hf4, hup, hz2⟩
        ·(show 24 - (k + 1) < 24 - k; omega)
        ·exact ⟨rfl, rfl, rfl, rfl, rfl, trivial⟩
        ·rfl
      ·have hdn : x.doo = 13 → x.l.length ≤ k ∨ 24 ≤ k := fun h => by (rw [h] at h73; simp at h73)
       refine jN 14 ?_
       have hop : OpIn x f2 := men_in x f f2 hup fun h13 j hj hne => by
        rcases hdn h13 with h | h
        ·rcases Nat.lt_or_ge j k with h2 | h2
         ·exact hz j h2 hne
         ·exact absurd (by rw [List.getD_eq_getElem?_getD, List.getElem?_eq_none (by omega)]; rfl) hne
        ·exact hz j (by omega) hne
       have hin2 : ∀ y ∈ l.take (i + 1), OpIn y f2 ∧ y.l.length ≤ 40 := fun y hy => by
        rw [List.take_add_one, hx] at hy
        rcases List.mem_append.1 hy with hy | hy
        ·exact ⟨(hin y hy).1.mono fun k hk => hup k (men_up x f hk), (hin y hy).2⟩
        ·simp at hy
         subst hy
         exact ⟨hop, hl40⟩
       refine WQ.chunks (C' := []) (fun w hS => hS.sublist (List.nil_sublist _)) ?_
       refine WQ.back ((i + 1, f2)) ?_ ?_ ?_ ?_
       ·exact ⟨by (show i + 1 ≤ l.length; omega), hf4, hin2⟩
       ·(show l.length - (i + 1) < l.length - i; omega)
       ·exact ⟨rfl, rfl, rfl, trivial⟩
       ·rfl
     ·have hdn : x.doo = 13 → x.l.length ≤ k ∨ 24 ≤ k := fun _ => .inr (by simp at g69; omega)
      refine jN 25 ?_
      have hop : OpIn x f2 := men_in x f f2 hup fun h13 j hj hne => by
       rcases hdn h13 with h | h
       ·rcases Nat.lt_or_ge j k with h2 | h2
        ·exact hz j h2 hne
        ·exact absurd (by rw [List.getD_eq_getElem?_getD, List.getElem?_eq_none (by omega)]; rfl) hne
       ·exact hz j (by omega) hne
      have hin2 : ∀ y ∈ l.take (i + 1), OpIn y f2 ∧ y.l.length ≤ 40 := fun y hy => by
       rw [List.take_add_one, hx] at hy
       rcases List.mem_append.1 hy with hy | hy
       ·exact ⟨(hin y hy).1.mono fun k hk => hup k (men_up x f hk), (hin y hy).2⟩
       ·simp at hy
        subst hy
        exact ⟨hop, hl40⟩
      refine WQ.chunks (C' := []) (fun w hS => hS.sublist (List.nil_sublist _)) ?_
      refine WQ.back ((i + 1, f2)) ?_ ?_ ?_ ?_
      ·exact ⟨by (show i + 1 ≤ l.length; omega), hf4, hin2⟩
      ·(show l.length - (i + 1) < l.length - i; omega)
      ·exact ⟨rfl, rfl, rfl, trivial⟩
      ·rfl
    ·have hdn : x.doo = 13 → x.l.length ≤ k ∨ 24 ≤ k := fun _ => .inl (by simp at g65; omega)
     refine jN 33 ?_
     have hop : OpIn x f2 := men_in x f f2 hup fun h13 j hj hne => by
      rcases hdn h13 with h | h
      ·rcases Nat.lt_or_ge j k with h2 | h2
       ·exact hz j h2 hne
       ·exact absurd (by rw [List.getD_eq_getElem?_getD, List.getElem?_eq_none (by omega)]; rfl) hne
      ·exact hz j (by omega) hne
     have hin2 : ∀ y ∈ l.take (i + 1), OpIn y f2 ∧ y.l.length ≤ 40 := fun y hy => by
      rw [List.take_add_one, hx] at hy
      rcases List.mem_append.1 hy with hy | hy
      ·exact ⟨(hin y hy).1.mono fun k hk => hup k (men_up x f hk), (hin y hy).2⟩
      ·simp at hy
       subst hy
       exact ⟨hop, hl40⟩
     refine WQ.chunks (C' := []) (fun w hS => hS.sublist (List.nil_sublist _)) ?_
     refine WQ.back ((i + 1, f2)) ?_ ?_ ?_ ?_
     ·exact ⟨by (show i + 1 ≤ l.length; omega), hf4, hin2⟩
     ·(show l.length - (i + 1) < l.length - i; omega)
     ·exact ⟨rfl, rfl, rfl, trivial⟩
     ·rfl
  ·have hie : i = l.length := by simp at h13; omega
   subst hie
   rw [List.take_length] at hin
   refine jN 10 ?_
   refine jC (β := Option Addr × Nat) (res := fun y => .slice y.1 (featL f).length y.2) (cs := fun y => [rowc (.slice y.1 (featL f).length y.2) (featL f).length 3 1 (nums (featL f))]) F.fun34 rfl (fun w hS _ => Features_c f hf w) (fun ⟨va, vc⟩ => ?_)
   refine jN 9 ?_
   refine WQ.ret (rs := [.tmp 2]) rfl (.tmp rfl .nil) (fun w hS => ⟨⟨_, fun h => ⟨hl12, f, hf, ?_, hin⟩⟩, rfl, hS.sublist (List.nil_sublist _)⟩)
   have h9 : ((featL f).length : Int) ≤ 7 := of_decide_eq_true h
   omega

end Go.Proofs.YtkgllhkhdjodeaaGreat

namespace Go.Proofs.YtkgllhkhdjodeaaGreat
open Go Go.Eng Go.Proofs Dg
structure CubeG where
 m : Nat
 G : List Nat
 l : List Dec
 r : Nat

theorem Cube_c (on off : Nat) (hon : on < 4294967296) (hoff : off < 4294967296) (w : World) : Calls Tryz.prog 107 [.int .u32 (on : Int), .int .u32 (off : Int)].toArray w (DPost (fun c => cubeB on off 0 c) w) := by
 have hon1 : (on &&& 16777215) < 4294967296 := Nat.lt_of_le_of_lt Nat.and_le_left hon
 have hoff1 : (off &&& 16777215) < 4294967296 := Nat.lt_of_le_of_lt Nat.and_le_left hoff
 refine enter Tryz.func107 rfl Tryz.ntmps107 rfl (St.init _) ?_
 refine jN 3 ?_
 refine WL.alloc F.zero35 rfl (fun b4 => ?_)
 refine jN 7 ?_
 refine WL.bin rfl rfl rfl (fun w => run_and (b := 16777215) hon (by decide) _ _ _ w) ?_
 refine jN 3 ?_
 refine WL.bin rfl rfl rfl (fun w => run_and (b := 16777215) hoff (by decide) _ _ _ w) ?_
 refine jN 14 ?_
 refine WL.bin rfl rfl rfl (fun w => run_and hon1 hoff1 _ _ _ w) ?_
 refine jN 4 ?_
 refine WC.cond rfl (fun h15 => ?_) (fun h15 => ?_)
 ·have hcl : (on &&& 16777215) &&& (off &&& 16777215) ≠ 0 := by (intro e; rw [e] at h15; simp at h15)
  refine jN 10 ?_
  refine WQ.ret (rs := [.cell 4 35]) rfl (.cellN F.agg35 rfl jM rfl .nil) (fun w hS => ⟨⟨(.lf false, none, 0), trivial, fun c => (cubeB_clash hcl c).symm⟩, rfl, hS.drop.rowNil _ _⟩)
 ·have hcl : (on &&& 16777215) &&& (off &&& 16777215) = 0 := by (simp at h15; omega)
  refine jN 5 ?_
  refine WL.call0 (β := List Nat × Nat) (res := fun x => .returned (pp x.2)) (cs := fun x => [mkr x.1 x.2 []]) (ψ := fun _ => True) F.fun147 (fun d h => by cases h; rfl) rfl (fun w hS => (newMaker_c w).mono (fun e w2 ⟨x, h1, h2⟩ => ⟨x, trivial, h1, h2⟩)) (fun ⟨G0, bm⟩ _ => ?_)
  refine WL.step ?_
  refine WL.assign rfl rfl ?_
  refine WL.nil ?_
  refine WQ.then_normal ?_
  refine WC.seq ?_
  refine WC.region ?_
  refine WL.step ?_
  refine WL.assign rfl rfl ?_
  refine WL.nil ?_
  refine WQ.then_normal ?_
  refine WC.seq ?_
  refine WC.seq ?_
  refine WC.region ?_
  refine WL.step ?_
  refine WL.assign rfl rfl ?_
  refine WL.nil ?_
  refine WQ.then_normal ?_
  refine WC.block ?_
  refine WC.loop (α := CubeG) (fun g => g.m ≤ 24 ∧ Mk g.l ∧ g.l.length + g.m ≤ 24 ∧ g.r < g.l.length + 2 ∧ (trs g.l g.r).ok g.m ∧ ∀ c, (trs g.l g.r).ev c = cubeB (on &&& 16777215) (off &&& 16777215) g.m c) (fun g => [(0, .int .u32 (((on &&& 16777215) : Nat) : Int)), (1, .int .u32 (((off &&& 16777215) : Nat) : Int)), (4, pp b4), (5, pp bm), (6, .int .i64 (g.r : Int)), (7, .int .i64 ((g.m : Int) - 1))]) (fun g => [mkr g.G bm g.l, pt b4 [.slice none 0 0, .int .i64 0] 35]) (fun g => g.m) (⟨24, G0, [], 1⟩) ?_ ?_ ?_ ?_
  ·exact ⟨Nat.le_refl _, Mk.nil, (by show 0 + 24 ≤ 24; decide), (by show 1 < 0 + 2; decide), trivial, fun c => (cubeB_end _ _ c).symm⟩
  ·exact ⟨rfl, rfl, rfl, rfl, rfl, rfl, trivial⟩
  ·rfl
  rintro ⟨m, G, l, r⟩ ⟨hm24, hm, hlm, hr, hok, hev⟩
  dsimp only at hm24 hm hlm hr hok hev
  show WC _ _ _ _ _ _ _ [(0, .int .u32 (((on &&& 16777215) : Nat) : Int)), (1, .int .u32 (((off &&& 16777215) : Nat) : Int)), (4, pp b4), (5, pp bm), (6, .int .i64 (r : Int)), (7, .int .i64 ((m : Int) - 1))] [mkr G bm l, pt b4 [.slice none 0 0, .int .i64 0] 35]
  refine jN 9 ?_
  refine WC.cond rfl (fun h19 => ?_) (fun h19 => ?_)
  ·obtain ⟨k, rfl⟩ : ∃ k, m = k + 1 := ⟨m - 1, by (simp at h19; omega)⟩
   have hki : (((k + 1 : Nat) : Int) - 1) = (k : Int) := by omega
   refine jN 11 ?_
   refine WA.say 24 (.int .i64 (k : Int)) (by rw [← hki]; rfl) ?_
   refine jN 1 ?_
   refine WL.bin rfl rfl rfl (fun w => run_shr (by omega) _ _ _ w) ?_
   refine jN 1 ?_
   refine WL.bin rfl rfl rfl (fun w => run_and (b := 1) (Nat.lt_of_le_of_lt (by rw [Nat.shiftRight_eq_div_pow]; exact Nat.div_le_self _ _) hon1) (by decide) _ _ _ w) ?_
   refine jN 6 ?_
   refine WC.cond rfl (fun h22 => ?_) (fun h22 => ?_)
   ·rw [Fm.testBit_shift] at h22
    have hb1 : (on &&& 16777215).testBit k = true := h22
    have hb2 : (off &&& 16777215).testBit k = false := by
     have h0 : ((on &&& 16777215) &&& (off &&& 16777215)).testBit k = false := by rw [hcl]; simp
     rw [Nat.testBit_and, hb1] at h0; simpa using h0
    refine jN 5 ?_
    refine WA.say 29 (.int .i64 (k : Int)) (by rw [← hki]; rfl) ?_
    refine jN 3 ?_
    refine WL.callC (β := { z : List Nat × List Dec × Nat // MadeN l z.2.1 z.2.2 (mkN k (trs l 0) (trs l r)) ∧ z.2.1.length ≤ l.length + 1 }) (res := fun z => .int .i64 (z.1.2.2 : Int)) (cs := fun z => [mkr z.1.1 bm z.1.2.1]) (Cs := [mkr G bm l]) (C1 := [pt b4 [.slice none 0 0, .int .i64 0] 35]) (O' := G) F.fun149 (fun d h => by cases h; rfl) rfl (List.Perm.refl _) bun_O1 bun_O2 (fun w hS hS2 => mnode_c G bm l k 0 r w (by omega) hm (by omega) hr (by omega) hS2) (fun ⟨⟨G2, l2, r2⟩, hm2, hl2⟩ => ?_)
    dsimp only at hm2 hl2
    refine jN 9 ?_
    refine WA.say 20 (.int .i64 (k : Int)) (by rw [← hki]; rfl) ?_
    refine jN 5 ?_
    refine WQ.chunks (C' := [mkr G2 bm l2, pt b4 [.slice none 0 0, .int .i64 0] 35]) (fun w hS => (jK hS)) ?_
    refine WQ.back (⟨k, G2, l2, r2⟩) ?_ ?_ ?_ ?_
    ·exact ⟨by show k ≤ 24; omega, hm2.ismk, by dsimp only; omega, hm2.lt, by show (trs l2 r2).ok k; rw [hm2.tree]; exact mkN_ok (Nat.le_refl _) (by omega) (by rw [(trs_zero l).1]; trivial) hok, fun c => by (show (trs l2 r2).ev c = cubeB _ _ k c; rw [cubeB_step (m := k) (by omega) c, hm2.tree, mkN_ev, (trs_zero l).1, hev, hb1, hb2]; cases c k <;> simp [BT.ev])⟩
    ·(show k < k + 1; omega)
    ·exact ⟨rfl, rfl, rfl, rfl, rfl, rfl, trivial⟩
    ·rfl
   ·rw [Fm.testBit_shift] at h22
    have hb1 : (on &&& 16777215).testBit k = false := h22
    refine jN 6 ?_
    refine WA.say 34 (.int .i64 (k : Int)) (by rw [← hki]; rfl) ?_
    refine jN 1 ?_
    refine WL.bin rfl rfl rfl (fun w => run_shr (by omega) _ _ _ w) ?_
    refine jN 1 ?_
    refine WL.bin rfl rfl rfl (fun w => run_and (b := 1) (Nat.lt_of_le_of_lt (by rw [Nat.shiftRight_eq_div_pow]; exact Nat.div_le_self _ _) hoff1) (by decide) _ _ _ w) ?_
    refine jN 6 ?_
    refine WC.cond rfl (fun h32 => ?_) (fun h32 => ?_)
    ·rw [Fm.testBit_shift] at h32
     have hb2 : (off &&& 16777215).testBit k = true := h32
     refine jN 5 ?_
     refine WA.say 39 (.int .i64 (k : Int)) (by rw [← hki]; rfl) ?_
     refine jN 3 ?_
     refine WL.callC (β := { z : List Nat × List Dec × Nat // MadeN l z.2.1 z.2.2 (mkN k (trs l r) (trs l 0)) ∧ z.2.1.length ≤ l.length + 1 }) (res := fun z => .int .i64 (z.1.2.2 : Int)) (cs := fun z => [mkr z.1.1 bm z.1.2.1]) (Cs := [mkr G bm l]) (C1 := [pt b4 [.slice none 0 0, .int .i64 0] 35]) (O' := G) F.fun149 (fun d h => by cases h; rfl) rfl (List.Perm.refl _) bun_O1 bun_O2 (fun w hS hS2 => mnode_c G bm l k r 0 w (by omega) hm hr (by omega) (by omega) hS2) (fun ⟨⟨G2, l2, r2⟩, hm2, hl2⟩ => ?_)
     dsimp only at hm2 hl2
     refine jN 9 ?_
     refine WA.say 20 (.int .i64 (k : Int)) (by rw [← hki]; rfl) ?_
     refine jN 5 ?_
     refine WQ.chunks (C' := [mkr G2 bm l2, pt b4 [.slice none 0 0, .int .i64 0] 35]) (fun w hS => (jK hS)) ?_
     refine WQ.back (⟨k, G2, l2, r2⟩) ?_ ?_ ?_ ?_
     ·exact ⟨by show k ≤ 24; omega, hm2.ismk, by dsimp only; omega, hm2.lt, by show (trs l2 r2).ok k; rw [hm2.tree]; exact mkN_ok (Nat.le_refl _) (by omega) hok (by rw [(trs_zero l).1]; trivial), fun c => by (show (trs l2 r2).ev c = cubeB _ _ k c; rw [cubeB_step (m := k) (by omega) c, hm2.tree, mkN_ev, (trs_zero l).1, hev, hb1, hb2]; cases c k <;> simp [BT.ev])⟩
     ·(show k < k + 1; omega)
     ·exact ⟨rfl, rfl, rfl, rfl, rfl, rfl, trivial⟩
     ·rfl
    ·rw [Fm.testBit_shift] at h32
     have hb2 : (off &&& 16777215).testBit k = false := h32
     refine jN 7 ?_
     refine WA.say 20 (.int .i64 (k : Int)) (by rw [← hki]; rfl) ?_
     refine jN 5 ?_
     refine WQ.chunks (C' := [mkr G bm l, pt b4 [.slice none 0 0, .int .i64 0] 35]) (fun w hS => (jK hS)) ?_
     refine WQ.back (⟨k, G, l, r⟩) ?_ ?_ ?_ ?_
     ·exact ⟨by show k ≤ 24; omega, hm, by dsimp only; omega, hr, BT.ok_mono (n := k + 1) hok (Nat.le_succ _), fun c => by (show (trs l r).ev c = cubeB _ _ k c; rw [cubeB_step (m := k) (by omega) c, hev, hb1, hb2]; simp)⟩
     ·(show k < k + 1; omega)
     ·exact ⟨rfl, rfl, rfl, rfl, rfl, rfl, trivial⟩
     ·rfl
  ·have hm0 : m = 0 := by (simp at h19; omega)
   subst hm0
   refine jN 12 ?_
   refine WL.callC (β := Option Addr × Nat) (res := fun z => dval (trs l r) z.1 z.2) (cs := fun z => [dC z.1 z.2 (trs l r)]) (Cs := [mkr G bm l]) (C1 := [pt b4 [.slice none 0 0, .int .i64 0] 35]) (O' := G) F.fun148 (fun d h => by cases h; rfl) rfl (List.Perm.refl _) bun_O1 bun_O2 (fun w hS hS2 => done_c G bm l r w hm hr hok (by omega) hS2) (fun z3 => ?_)
   refine jN 5 ?_
   refine WQ.ret (rs := [.cell 4 35]) rfl (.cellN F.agg35 rfl jM rfl .nil) (fun w hS => ⟨⟨(trs l r, z3), hok, fun c => by rw [hev, cubeB_mask]⟩, rfl, (jK hS)⟩)

end Go.Proofs.YtkgllhkhdjodeaaGreat

namespace Go.Proofs.YtkgllhkhdjodeaaGreat
open Go Go.Eng Go.Proofs Dg
theorem run_remI {a m : Nat} (ha : a < 4294967296) (hm : 0 < m) (hm2 : m < 4294967296) (t : TypeId) (x y : Operand) (w : World) :
  (do eqGuard .rem t x y (.int .i64 (a : Int)) (.int .i64 (m : Int)); binOp .rem t (.int .i64 (a : Int)) (.int .i64 (m : Int)) : Sem Value).run Tryz.prog w = .ok (.int .i64 ((a % m : Nat) : Int)) w := by
 have h1 : (a : Int).tmod (m : Int) = ((a % m : Nat) : Int) := by
  rw [Int.tmod_eq_emod_of_nonneg (Int.natCast_nonneg _)]; simp
 have h4 : a % m < 4294967296 := Nat.lt_trans (Nat.mod_lt _ hm) hm2
 have h2 : IntKind.i64.wrap ((a % m : Nat) : Int) = ((a % m : Nat) : Int) := wrap_in (by omega) (by omega)
 have h3 : ¬ m = 0 := by omega
 simp only [Int.natCast_emod] at h1 h2
 simp [eqGuard, binOp, Op.intDiv, h1, h2, h3]
theorem RdDL.pos {w : World} {s : List DV} {a : Option Addr} (h : RdDL w s a) (hs : 0 < s.length) : ∃ b off, a = some ⟨b, off, none⟩ ∧ ∀ (i : Nat) (x : DV), s[i]? = some x → ∀ j v, (dvl x)[j]? = some v → w.cell? ⟨b, off + i * 2 + j, none⟩ = some v := by
 obtain ⟨b, off, h1, _⟩ := h.at (List.getElem?_eq_getElem hs)
 refine ⟨b, off, h1, fun i x hx j v hv => ?_⟩
 obtain ⟨b2, off2, h2, h3, _⟩ := h.at hx
 rw [h1] at h2
 simp only [Option.some.injEq, Addr.mk.injEq, and_true] at h2
 obtain ⟨rfl, rfl⟩ := h2
 exact h3 j v hv
theorem evAt_get {s : List DV} {k : Nat} {x : DV} (h : s[k % s.length]? = some x) : evAt (s.map (fun y => y.1.ev)) k = x.1.ev := by
 unfold evAt
 rw [List.length_map, List.getD_eq_getElem?_getD, List.getElem?_map, h]
 rfl
theorem OneP.weak {s : List DV} {f g : Cf → Bool} {w w' : World} {e : Ending} (h : OneP s f w e w') (hf : ∀ cf, f cf = g cf) : OneP s g w e w' := by
 obtain ⟨y, k, h1, h2, h3, h4, h5⟩ := h
 exact ⟨y, k, h1, h2, fun cf => by rw [h3, hf], h4, h5⟩

set_option maxRecDepth 100000 in
theorem opOne_c (x : OpV) (hw : x.wf) (hl40 : x.l.length ≤ 40) (s : List DV) (a : Option Addr) (c : Nat) (hsp : 0 < s.length) (hsl : s.length ≤ 1000) (w : World) (hr : RdDL w s a) (hrl : RdC w x.l x.la) :
  Calls Tryz.prog 51 [x.val, .slice a s.length c].toArray w (OneP s (opD x (s.map (fun y => y.1.ev))) w) := by
 obtain ⟨bs, os, ha, hsc⟩ := hr.pos hsp
 subst ha
 obtain ⟨xa, hxa⟩ : ∃ y, s[x.a % s.length]? = some y := ⟨_, List.getElem?_eq_getElem (Nat.mod_lt _ hsp)⟩
 obtain ⟨xb, hxb⟩ : ∃ y, s[x.b % s.length]? = some y := ⟨_, List.getElem?_eq_getElem (Nat.mod_lt _ hsp)⟩
 obtain ⟨xc, hxc⟩ : ∃ y, s[x.c % s.length]? = some y := ⟨_, List.getElem?_eq_getElem (Nat.mod_lt _ hsp)⟩
 have hea : evAt (s.map (fun y => y.1.ev)) x.a = xa.1.ev := evAt_get hxa
 have heb : evAt (s.map (fun y => y.1.ev)) x.b = xb.1.ev := evAt_get hxb
 have hec : evAt (s.map (fun y => y.1.ev)) x.c = xc.1.ev := evAt_get hxc
 refine enter Tryz.func51 rfl Tryz.ntmps51 rfl (St.init _) ?_
 refine jN 3 ?_
 refine WL.boxN rfl rfl (fun b2 => ?_)
 refine jN 1 ?_
 refine WL.alloc F.zero35 rfl (fun b4 => ?_)
 refine jN 5 ?_
 refine WC.cutPE (α := Nat × Nat × Nat) (fun z => [(2, pp b2), (1, .slice (some ⟨bs, os, none⟩) s.length c), (4, pp b4), (6, pp z.1), (7, pp z.2.1), (8, pp z.2.2)]) (fun z => [pt z.1 (dvl xa) 35, pt z.2.1 (dvl xb) 35, pt z.2.2 (dvl xc) 35, pt b2 x.cells 92, pt b4 [.slice none 0 0, .int .i64 0] 35]) (fun c a d v w h => by cases d <;> exact h) (fun Q' hP hQ => ?_) (fun xE => ?_)
 ·refine WC.drawsL (by kernel_rfl) (FactsOk.cons (ds := [30, 31, 32]) (LoadOk.one (t := 2) (off := 2) rfl jM rfl) (FactsOk.cons (ds := [30, 31, 32]) (LoadOk.by (Y := fun w => ∀ j v, (dvl xa)[j]? = some v → w.cell? ⟨bs, os + (x.a % s.length) * 2 + j, none⟩ = some v) (fun w hS => fun j v hv => hS.oldc (hsc _ _ hxa j v hv) (by simp))) (FactsOk.cons (ds := [31, 32]) (LoadOk.one (t := 2) (off := 3) rfl jM rfl) (FactsOk.cons (ds := [31, 32]) (LoadOk.by (Y := fun w => ∀ j v, (dvl xb)[j]? = some v → w.cell? ⟨bs, os + (x.b % s.length) * 2 + j, none⟩ = some v) (fun w hS => fun j v hv => hS.oldc (hsc _ _ hxb j v hv) (by simp))) (FactsOk.cons (ds := [32]) (LoadOk.one (t := 2) (off := 4) rfl jM rfl) (FactsOk.cons (ds := [32]) (LoadOk.by (Y := fun w => ∀ j v, (dvl xc)[j]? = some v → w.cell? ⟨bs, os + (x.c % s.length) * 2 + j, none⟩ = some v) (fun w hS => fun j v hv => hS.oldc (hsc _ _ hxc j v hv) (by simp))) (FactsOk.nil))))))) ?_
  refine jT 0 rfl (Yl.move rfl) ?_
  refine jT 1 rfl (Yl.fieldAddr0 F.fld92_2 rfl) ?_
  refine jF 2 0 rfl rfl (Yl.load1 F.one5 rfl) ?_
  refine jT 3 rfl (Yl.convert rfl (v := .int .i64 (x.a : Int)) (fun w => conv8 hw.a w)) ?_
  refine jT 4 rfl (Yl.move rfl) ?_
  refine jT 5 rfl (Yl.lenSl F.und48 rfl) ?_
  refine jT 6 rfl (Yl.bin rfl rfl (fun w => run_remI (a := x.a) (m := s.length) (by have := hw.a; omega) hsp (by omega) _ _ _ w)) ?_
  refine jT 7 rfl (Yl.indexAddr (i := x.a % s.length) F.sl48 rfl rfl (Nat.mod_lt _ hsp)) ?_
  refine jF 8 1 rfl rfl (Yl.loadN F.agg35 rfl rfl) ?_
  refine jT 9 rfl (Yl.move rfl) ?_
  refine jT 10 rfl (Yl.fieldAddr0 F.fld92_3 rfl) ?_
  refine jF 11 2 rfl rfl (Yl.load1 F.one5 rfl) ?_
  refine jT 12 rfl (Yl.convert rfl (v := .int .i64 (x.b : Int)) (fun w => conv8 hw.b w)) ?_
  refine jT 13 rfl (Yl.move rfl) ?_
  refine jT 14 rfl (Yl.lenSl F.und48 rfl) ?_
  refine jT 15 rfl (Yl.bin rfl rfl (fun w => run_remI (a := x.b) (m := s.length) (by have := hw.b; omega) hsp (by omega) _ _ _ w)) ?_
  refine jT 16 rfl (Yl.indexAddr (i := x.b % s.length) F.sl48 rfl rfl (Nat.mod_lt _ hsp)) ?_
  refine jF 17 3 rfl rfl (Yl.loadN F.agg35 rfl rfl) ?_
  refine jT 18 rfl (Yl.move rfl) ?_
  refine jT 19 rfl (Yl.fieldAddr0 F.fld92_4 rfl) ?_
  refine jF 20 4 rfl rfl (Yl.load1 F.one5 rfl) ?_
  refine jT 21 rfl (Yl.convert rfl (v := .int .i64 (x.c : Int)) (fun w => conv8 hw.c w)) ?_
  refine jT 22 rfl (Yl.move rfl) ?_
  refine jT 23 rfl (Yl.lenSl F.und48 rfl) ?_
  refine jT 24 rfl (Yl.bin rfl rfl (fun w => run_remI (a := x.c) (m := s.length) (by have := hw.c; omega) hsp (by omega) _ _ _ w)) ?_
  refine jT 25 rfl (Yl.indexAddr (i := x.c % s.length) F.sl48 rfl rfl (Nat.mod_lt _ hsp)) ?_
  refine jF 26 5 rfl rfl (Yl.loadN F.agg35 rfl rfl) ?_
  refine WD.three (i := 27) (j := 28) (l := 29) (by decide +kernel) rfl rfl rfl ?_ ?_ ?_
  ·refine WL.alloc F.zero35 rfl (fun b6 => ?_)
   refine WD.on (closed_of (by decide +kernel)) (fun w hS => Sx.keep (hS.cell jM rfl) (Sx.keep (fun j v hv => hS.oldc (hsc _ _ hxa j v hv) (by simp)) (Sx.keep (hS.cell jM rfl) (Sx.keep (fun j v hv => hS.oldc (hsc _ _ hxb j v hv) (by simp)) (Sx.keep (hS.cell jM rfl) (Sx.keep (fun j v hv => hS.oldc (hsc _ _ hxc j v hv) (by simp)) (Sx.none))))))) ?_
   refine WD.two (i := 28) (j := 29) (by decide +kernel) rfl rfl ?_ ?_
   ·refine WL.alloc F.zero35 rfl (fun b7 => ?_)
    refine WD.on (closed_of (by decide +kernel)) (fun w hS => Sx.keep (hS.cell jM rfl) (Sx.keep (fun j v hv => hS.oldc (hsc _ _ hxa j v hv) (by simp)) (Sx.keep (hS.cell jM rfl) (Sx.keep (fun j v hv => hS.oldc (hsc _ _ hxb j v hv) (by simp)) (Sx.keep (hS.cell jM rfl) (Sx.keep (fun j v hv => hS.oldc (hsc _ _ hxc j v hv) (by simp)) (Sx.none))))))) ?_
    refine jA 29 rfl ?_
    refine WL.alloc F.zero35 rfl (fun b8 => ?_)
    refine WD.on (closed_of (by decide +kernel)) (fun w hS => Sx.keep (hS.cell jM rfl) (Sx.keep (fun j v hv => hS.oldc (hsc _ _ hxa j v hv) (by simp)) (Sx.keep (hS.cell jM rfl) (Sx.keep (fun j v hv => hS.oldc (hsc _ _ hxb j v hv) (by simp)) (Sx.keep (hS.cell jM rfl) (Sx.keep (fun j v hv => hS.oldc (hsc _ _ hxc j v hv) (by simp)) (Sx.none))))))) ?_
    refine jA 30 rfl ?_
    refine WL.storeN F.agg35 rfl rfl rfl jO jU jS ?_
    refine WD.on (closed_of (by decide +kernel)) (fun w hS => Sx.gone rfl (Sx.gone rfl (Sx.keep (hS.cell jM rfl) (Sx.keep (fun j v hv => hS.oldc (hsc _ _ hxb j v hv) (by simp)) (Sx.keep (hS.cell jM rfl) (Sx.keep (fun j v hv => hS.oldc (hsc _ _ hxc j v hv) (by simp)) (Sx.none))))))) ?_
    refine jA 31 rfl ?_
    refine WL.storeN F.agg35 rfl rfl rfl jO jU jS ?_
    refine WD.on (closed_of (by decide +kernel)) (fun w hS => Sx.gone rfl (Sx.gone rfl (Sx.gone rfl (Sx.gone rfl (Sx.keep (hS.cell jM rfl) (Sx.keep (fun j v hv => hS.oldc (hsc _ _ hxc j v hv) (by simp)) (Sx.none))))))) ?_
    refine jA 32 rfl ?_
    refine WL.storeN F.agg35 rfl rfl rfl jO jU jS ?_
    refine jG ?_
    refine jD ?_
    refine WQ.chunks (C' := [pt (b6, b7, b8).1 (dvl xa) 35, pt (b6, b7, b8).2.1 (dvl xb) 35, pt (b6, b7, b8).2.2 (dvl xc) 35, pt b2 x.cells 92, pt b4 [.slice none 0 0, .int .i64 0] 35]) (fun w hS => (jK hS)) ?_
    exact WQ.byCut (hQ (b6, b7, b8)) ⟨rfl, rfl, rfl, rfl, rfl, rfl, trivial⟩
   ·refine WL.alloc F.zero35 rfl (fun b8 => ?_)
    refine WD.on (closed_of (by decide +kernel)) (fun w hS => Sx.keep (hS.cell jM rfl) (Sx.keep (fun j v hv => hS.oldc (hsc _ _ hxa j v hv) (by simp)) (Sx.keep (hS.cell jM rfl) (Sx.keep (fun j v hv => hS.oldc (hsc _ _ hxb j v hv) (by simp)) (Sx.keep (hS.cell jM rfl) (Sx.keep (fun j v hv => hS.oldc (hsc _ _ hxc j v hv) (by simp)) (Sx.none))))))) ?_
    refine jA 28 rfl ?_
    refine WL.alloc F.zero35 rfl (fun b7 => ?_)
    refine WD.on (closed_of (by decide +kernel)) (fun w hS => Sx.keep (hS.cell jM rfl) (Sx.keep (fun j v hv => hS.oldc (hsc _ _ hxa j v hv) (by simp)) (Sx.keep (hS.cell jM rfl) (Sx.keep (fun j v hv => hS.oldc (hsc _ _ hxb j v hv) (by simp)) (Sx.keep (hS.cell jM rfl) (Sx.keep (fun j v hv => hS.oldc (hsc _ _ hxc j v hv) (by simp)) (Sx.none))))))) ?_
    refine jA 30 rfl ?_
    refine WL.storeN F.agg35 rfl rfl rfl jO jU jS ?_
    refine WD.on (closed_of (by decide +kernel)) (fun w hS => Sx.gone rfl (Sx.gone rfl (Sx.keep (hS.cell jM rfl) (Sx.keep (fun j v hv => hS.oldc (hsc _ _ hxb j v hv) (by simp)) (Sx.keep (hS.cell jM rfl) (Sx.keep (fun j v hv => hS.oldc (hsc _ _ hxc j v hv) (by simp)) (Sx.none))))))) ?_
    refine jA 31 rfl ?_
    refine WL.storeN F.agg35 rfl rfl rfl jO jU jS ?_
    refine WD.on (closed_of (by decide +kernel)) (fun w hS => Sx.gone rfl (Sx.gone rfl (Sx.gone rfl (Sx.gone rfl (Sx.keep (hS.cell jM rfl) (Sx.keep (fun j v hv => hS.oldc (hsc _ _ hxc j v hv) (by simp)) (Sx.none))))))) ?_
    refine jA 32 rfl ?_
    refine WL.storeN F.agg35 rfl rfl rfl jO jU jS ?_
    refine jG ?_
    refine jD ?_
    refine WQ.chunks (C' := [pt (b6, b7, b8).1 (dvl xa) 35, pt (b6, b7, b8).2.1 (dvl xb) 35, pt (b6, b7, b8).2.2 (dvl xc) 35, pt b2 x.cells 92, pt b4 [.slice none 0 0, .int .i64 0] 35]) (fun w hS => (jK hS)) ?_
    exact WQ.byCut (hQ (b6, b7, b8)) ⟨rfl, rfl, rfl, rfl, rfl, rfl, trivial⟩
  ·refine WL.alloc F.zero35 rfl (fun b7 => ?_)
   refine WD.on (closed_of (by decide +kernel)) (fun w hS => Sx.keep (hS.cell jM rfl) (Sx.keep (fun j v hv => hS.oldc (hsc _ _ hxa j v hv) (by simp)) (Sx.keep (hS.cell jM rfl) (Sx.keep (fun j v hv => hS.oldc (hsc _ _ hxb j v hv) (by simp)) (Sx.keep (hS.cell jM rfl) (Sx.keep (fun j v hv => hS.oldc (hsc _ _ hxc j v hv) (by simp)) (Sx.none))))))) ?_
   refine WD.two (i := 27) (j := 29) (by decide +kernel) rfl rfl ?_ ?_
   ·refine WL.alloc F.zero35 rfl (fun b6 => ?_)
    refine WD.on (closed_of (by decide +kernel)) (fun w hS => Sx.keep (hS.cell jM rfl) (Sx.keep (fun j v hv => hS.oldc (hsc _ _ hxa j v hv) (by simp)) (Sx.keep (hS.cell jM rfl) (Sx.keep (fun j v hv => hS.oldc (hsc _ _ hxb j v hv) (by simp)) (Sx.keep (hS.cell jM rfl) (Sx.keep (fun j v hv => hS.oldc (hsc _ _ hxc j v hv) (by simp)) (Sx.none))))))) ?_
    refine jA 29 rfl ?_
    refine WL.alloc F.zero35 rfl (fun b8 => ?_)
    refine WD.on (closed_of (by decide +kernel)) (fun w hS => Sx.keep (hS.cell jM rfl) (Sx.keep (fun j v hv => hS.oldc (hsc _ _ hxa j v hv) (by simp)) (Sx.keep (hS.cell jM rfl) (Sx.keep (fun j v hv => hS.oldc (hsc _ _ hxb j v hv) (by simp)) (Sx.keep (hS.cell jM rfl) (Sx.keep (fun j v hv => hS.oldc (hsc _ _ hxc j v hv) (by simp)) (Sx.none))))))) ?_
    refine jA 30 rfl ?_
    refine WL.storeN F.agg35 rfl rfl rfl jO jU jS ?_
    refine WD.on (closed_of (by decide +kernel)) (fun w hS => Sx.gone rfl (Sx.gone rfl (Sx.keep (hS.cell jM rfl) (Sx.keep (fun j v hv => hS.oldc (hsc _ _ hxb j v hv) (by simp)) (Sx.keep (hS.cell jM rfl) (Sx.keep (fun j v hv => hS.oldc (hsc _ _ hxc j v hv) (by simp)) (Sx.none))))))) ?_
    refine jA 31 rfl ?_
    refine WL.storeN F.agg35 rfl rfl rfl jO jU jS ?_
    refine WD.on (closed_of (by decide +kernel)) (fun w hS => Sx.gone rfl (Sx.gone rfl (Sx.gone rfl (Sx.gone rfl (Sx.keep (hS.cell jM rfl) (Sx.keep (fun j v hv => hS.oldc (hsc _ _ hxc j v hv) (by simp)) (Sx.none))))))) ?_
    refine jA 32 rfl ?_
    refine WL.storeN F.agg35 rfl rfl rfl jO jU jS ?_
    refine jG ?_
    refine jD ?_
    refine WQ.chunks (C' := [pt (b6, b7, b8).1 (dvl xa) 35, pt (b6, b7, b8).2.1 (dvl xb) 35, pt (b6, b7, b8).2.2 (dvl xc) 35, pt b2 x.cells 92, pt b4 [.slice none 0 0, .int .i64 0] 35]) (fun w hS => (jK hS)) ?_
    exact WQ.byCut (hQ (b6, b7, b8)) ⟨rfl, rfl, rfl, rfl, rfl, rfl, trivial⟩
   ·refine WL.alloc F.zero35 rfl (fun b8 => ?_)
    refine WD.on (closed_of (by decide +kernel)) (fun w hS => Sx.keep (hS.cell jM rfl) (Sx.keep (fun j v hv => hS.oldc (hsc _ _ hxa j v hv) (by simp)) (Sx.keep (hS.cell jM rfl) (Sx.keep (fun j v hv => hS.oldc (hsc _ _ hxb j v hv) (by simp)) (Sx.keep (hS.cell jM rfl) (Sx.keep (fun j v hv => hS.oldc (hsc _ _ hxc j v hv) (by simp)) (Sx.none))))))) ?_
    refine jA 27 rfl ?_
    refine WL.alloc F.zero35 rfl (fun b6 => ?_)
    refine WD.on (closed_of (by decide +kernel)) (fun w hS => Sx.keep (hS.cell jM rfl) (Sx.keep (fun j v hv => hS.oldc (hsc _ _ hxa j v hv) (by simp)) (Sx.keep (hS.cell jM rfl) (Sx.keep (fun j v hv => hS.oldc (hsc _ _ hxb j v hv) (by simp)) (Sx.keep (hS.cell jM rfl) (Sx.keep (fun j v hv => hS.oldc (hsc _ _ hxc j v hv) (by simp)) (Sx.none))))))) ?_
    refine jA 30 rfl ?_
    refine WL.storeN F.agg35 rfl rfl rfl jO jU jS ?_
    refine WD.on (closed_of (by decide +kernel)) (fun w hS => Sx.gone rfl (Sx.gone rfl (Sx.keep (hS.cell jM rfl) (Sx.keep (fun j v hv => hS.oldc (hsc _ _ hxb j v hv) (by simp)) (Sx.keep (hS.cell jM rfl) (Sx.keep (fun j v hv => hS.oldc (hsc _ _ hxc j v hv) (by simp)) (Sx.none))))))) ?_
    refine jA 31 rfl ?_
    refine WL.storeN F.agg35 rfl rfl rfl jO jU jS ?_
    refine WD.on (closed_of (by decide +kernel)) (fun w hS => Sx.gone rfl (Sx.gone rfl (Sx.gone rfl (Sx.gone rfl (Sx.keep (hS.cell jM rfl) (Sx.keep (fun j v hv => hS.oldc (hsc _ _ hxc j v hv) (by simp)) (Sx.none))))))) ?_
    refine jA 32 rfl ?_
    refine WL.storeN F.agg35 rfl rfl rfl jO jU jS ?_
    refine jG ?_
    refine jD ?_
    refine WQ.chunks (C' := [pt (b6, b7, b8).1 (dvl xa) 35, pt (b6, b7, b8).2.1 (dvl xb) 35, pt (b6, b7, b8).2.2 (dvl xc) 35, pt b2 x.cells 92, pt b4 [.slice none 0 0, .int .i64 0] 35]) (fun w hS => (jK hS)) ?_
    exact WQ.byCut (hQ (b6, b7, b8)) ⟨rfl, rfl, rfl, rfl, rfl, rfl, trivial⟩
  ·refine WL.alloc F.zero35 rfl (fun b8 => ?_)
   refine WD.on (closed_of (by decide +kernel)) (fun w hS => Sx.keep (hS.cell jM rfl) (Sx.keep (fun j v hv => hS.oldc (hsc _ _ hxa j v hv) (by simp)) (Sx.keep (hS.cell jM rfl) (Sx.keep (fun j v hv => hS.oldc (hsc _ _ hxb j v hv) (by simp)) (Sx.keep (hS.cell jM rfl) (Sx.keep (fun j v hv => hS.oldc (hsc _ _ hxc j v hv) (by simp)) (Sx.none))))))) ?_
   refine WD.two (i := 27) (j := 28) (by decide +kernel) rfl rfl ?_ ?_
   ·refine WL.alloc F.zero35 rfl (fun b6 => ?_)
    refine WD.on (closed_of (by decide +kernel)) (fun w hS => Sx.keep (hS.cell jM rfl) (Sx.keep (fun j v hv => hS.oldc (hsc _ _ hxa j v hv) (by simp)) (Sx.keep (hS.cell jM rfl) (Sx.keep (fun j v hv => hS.oldc (hsc _ _ hxb j v hv) (by simp)) (Sx.keep (hS.cell jM rfl) (Sx.keep (fun j v hv => hS.oldc (hsc _ _ hxc j v hv) (by simp)) (Sx.none))))))) ?_
    refine jA 28 rfl ?_
    refine WL.alloc F.zero35 rfl (fun b7 => ?_)
    refine WD.on (closed_of (by decide +kernel)) (fun w hS => Sx.keep (hS.cell jM rfl) (Sx.keep (fun j v hv => hS.oldc (hsc _ _ hxa j v hv) (by simp)) (Sx.keep (hS.cell jM rfl) (Sx.keep (fun j v hv => hS.oldc (hsc _ _ hxb j v hv) (by simp)) (Sx.keep (hS.cell jM rfl) (Sx.keep (fun j v hv => hS.oldc (hsc _ _ hxc j v hv) (by simp)) (Sx.none))))))) ?_
    refine jA 30 rfl ?_
    refine WL.storeN F.agg35 rfl rfl rfl jO jU jS ?_
    refine WD.on (closed_of (by decide +kernel)) (fun w hS => Sx.gone rfl (Sx.gone rfl (Sx.keep (hS.cell jM rfl) (Sx.keep (fun j v hv => hS.oldc (hsc _ _ hxb j v hv) (by simp)) (Sx.keep (hS.cell jM rfl) (Sx.keep (fun j v hv => hS.oldc (hsc _ _ hxc j v hv) (by simp)) (Sx.none))))))) ?_
    refine jA 31 rfl ?_
    refine WL.storeN F.agg35 rfl rfl rfl jO jU jS ?_
    refine WD.on (closed_of (by decide +kernel)) (fun w hS => Sx.gone rfl (Sx.gone rfl (Sx.gone rfl (Sx.gone rfl (Sx.keep (hS.cell jM rfl) (Sx.keep (fun j v hv => hS.oldc (hsc _ _ hxc j v hv) (by simp)) (Sx.none))))))) ?_
    refine jA 32 rfl ?_
    refine WL.storeN F.agg35 rfl rfl rfl jO jU jS ?_
    refine jG ?_
    refine jD ?_
    refine WQ.chunks (C' := [pt (b6, b7, b8).1 (dvl xa) 35, pt (b6, b7, b8).2.1 (dvl xb) 35, pt (b6, b7, b8).2.2 (dvl xc) 35, pt b2 x.cells 92, pt b4 [.slice none 0 0, .int .i64 0] 35]) (fun w hS => (jK hS)) ?_
    exact WQ.byCut (hQ (b6, b7, b8)) ⟨rfl, rfl, rfl, rfl, rfl, rfl, trivial⟩
   ·refine WL.alloc F.zero35 rfl (fun b7 => ?_)
    refine WD.on (closed_of (by decide +kernel)) (fun w hS => Sx.keep (hS.cell jM rfl) (Sx.keep (fun j v hv => hS.oldc (hsc _ _ hxa j v hv) (by simp)) (Sx.keep (hS.cell jM rfl) (Sx.keep (fun j v hv => hS.oldc (hsc _ _ hxb j v hv) (by simp)) (Sx.keep (hS.cell jM rfl) (Sx.keep (fun j v hv => hS.oldc (hsc _ _ hxc j v hv) (by simp)) (Sx.none))))))) ?_
    refine jA 27 rfl ?_
    refine WL.alloc F.zero35 rfl (fun b6 => ?_)
    refine WD.on (closed_of (by decide +kernel)) (fun w hS => Sx.keep (hS.cell jM rfl) (Sx.keep (fun j v hv => hS.oldc (hsc _ _ hxa j v hv) (by simp)) (Sx.keep (hS.cell jM rfl) (Sx.keep (fun j v hv => hS.oldc (hsc _ _ hxb j v hv) (by simp)) (Sx.keep (hS.cell jM rfl) (Sx.keep (fun j v hv => hS.oldc (hsc _ _ hxc j v hv) (by simp)) (Sx.none))))))) ?_
    refine jA 30 rfl ?_
    refine WL.storeN F.agg35 rfl rfl rfl jO jU jS ?_
    refine WD.on (closed_of (by decide +kernel)) (fun w hS => Sx.gone rfl (Sx.gone rfl (Sx.keep (hS.cell jM rfl) (Sx.keep (fun j v hv => hS.oldc (hsc _ _ hxb j v hv) (by simp)) (Sx.keep (hS.cell jM rfl) (Sx.keep (fun j v hv => hS.oldc (hsc _ _ hxc j v hv) (by simp)) (Sx.none))))))) ?_
    refine jA 31 rfl ?_
    refine WL.storeN F.agg35 rfl rfl rfl jO jU jS ?_
    refine WD.on (closed_of (by decide +kernel)) (fun w hS => Sx.gone rfl (Sx.gone rfl (Sx.gone rfl (Sx.gone rfl (Sx.keep (hS.cell jM rfl) (Sx.keep (fun j v hv => hS.oldc (hsc _ _ hxc j v hv) (by simp)) (Sx.none))))))) ?_
    refine jA 32 rfl ?_
    refine WL.storeN F.agg35 rfl rfl rfl jO jU jS ?_
    refine jG ?_
    refine jD ?_
    refine WQ.chunks (C' := [pt (b6, b7, b8).1 (dvl xa) 35, pt (b6, b7, b8).2.1 (dvl xb) 35, pt (b6, b7, b8).2.2 (dvl xc) 35, pt b2 x.cells 92, pt b4 [.slice none 0 0, .int .i64 0] 35]) (fun w hS => (jK hS)) ?_
    exact WQ.byCut (hQ (b6, b7, b8)) ⟨rfl, rfl, rfl, rfl, rfl, rfl, trivial⟩
 obtain ⟨b6, b7, b8⟩ := xE
 show WQ _ _ _ _ _ _ [(2, pp b2), (1, .slice (some ⟨bs, os, none⟩) s.length c), (4, pp b4), (6, pp b6), (7, pp b7), (8, pp b8)] [pt b6 (dvl xa) 35, pt b7 (dvl xb) 35, pt b8 (dvl xc) 35, pt b2 x.cells 92, pt b4 [.slice none 0 0, .int .i64 0] 35]
 refine jN 19 ?_
 refine WC.cond rfl (fun h38 => ?_) (fun h38 => ?_)
 ·have hd : x.doo = 1 := by (simp at h38; omega)
  refine jN 3 ?_
  refine jC (β := DRes (fun _ => true)) (res := fun z => z.v) (cs := fun z => [z.ch]) F.fun74 rfl (fun w hS _ => True_c w) (fun z => ?_)
  refine jN 9 ?_
  refine WQ.ret (rs := [.cell 4 35, .tmp 5]) rfl (.cellN F.agg35 rfl jM rfl (.tmp rfl .nil)) (fun w hS => ?_)
  exact (OneP.of z _ (jK hS)).weak fun cf => by simp [opD, hd]
 ·have hn1 : ¬ x.doo = 1 := by (simp at h38; omega)
  refine jN 8 ?_
  refine WC.cond rfl (fun h41 => ?_) (fun h41 => ?_)
  ·have hd : x.doo = 2 := by (simp at h41; omega)
   refine jN 1 ?_
   rcases (show (0 ≤ x.i ∧ x.i < 24) ∨ (x.i < 0 ∨ 24 ≤ x.i) by omega) with hki | hko
   ·obtain ⟨k, hk⟩ := Int.eq_ofNat_of_zero_le hki.1
    have hk24 : k < 24 := by omega
    refine jN 5 ?_
    refine WA.say 44 (.int .i64 (k : Int)) (by rw [show (k : Int) = x.i from hk.symm]; rfl) ?_
    refine jN 1 ?_
    refine jC (β := DRes (fun c => c k)) (res := fun z => .tuple #[z.v, .int .i64 0]) (cs := fun z => [z.ch]) F.fun99 rfl (fun w hS _ => Var_in k hk24 w) (fun z => ?_)
    refine jN 13 ?_
    refine WQ.ret (rs := [.cell 4 35, .tmp 5]) rfl (.cellN F.agg35 rfl jM rfl (.tmp rfl .nil)) (fun w hS => ?_)
    refine (OneP.of z _ (jK hS)).weak fun cf => ?_
    have e9 : x.i.toNat = k := by rw [hk]; rfl
    have e8 : decide (0 ≤ x.i ∧ x.i < 24) = true := decide_eq_true hki
    simp only [opD, hd]
    simp [e9, hki.1, hki.2]
   ·refine jN 6 ?_
    refine jC (β := DRes (fun _ => false)) (res := fun z => .tuple #[z.v, .int .i64 3]) (cs := fun z => [z.ch]) F.fun99 rfl (fun w hS _ => Var_out x.i hko w) (fun z => ?_)
    refine jN 13 ?_
    refine WQ.ret (rs := [.cell 4 35, .tmp 5]) rfl (.cellN F.agg35 rfl jM rfl (.tmp rfl .nil)) (fun w hS => ?_)
    refine (OneP.of z _ (jK hS)).weak fun cf => ?_
    have e8 : decide (0 ≤ x.i ∧ x.i < 24) = false := decide_eq_false (by omega)
    simp only [opD, hd, e8, Bool.false_and]
    rfl
  ·have hn2 : ¬ x.doo = 2 := by (simp at h41; omega)
   refine jN 8 ?_
   refine WC.cond rfl (fun h48 => ?_) (fun h48 => ?_)
   ·have hd : x.doo = 3 := by (simp at h48; omega)
    refine jN 11 ?_
    refine jC (β := DRes (fun c => cubeB x.f x.g 0 c)) (res := fun z => z.v) (cs := fun z => [z.ch]) F.fun107 rfl (fun w hS _ => Cube_c x.f x.g hw.f hw.g w) (fun z => ?_)
    refine jN 9 ?_
    refine WQ.ret (rs := [.cell 4 35, .tmp 5]) rfl (.cellN F.agg35 rfl jM rfl (.tmp rfl .nil)) (fun w hS => ?_)
    exact (OneP.of z _ (jK hS)).weak fun cf => by simp [opD, hd]
   ·have hn3 : ¬ x.doo = 3 := by (simp at h48; omega)
    refine jN 8 ?_
    refine WC.cond rfl (fun h55 => ?_) (fun h55 => ?_)
    ·have hd : x.doo = 4 := by (simp at h55; omega)
     refine jN 5 ?_
     refine jC (β := DRes (fun c => !xa.1.ev c)) (res := fun z => z.v) (cs := fun z => [z.ch]) F.fun100 rfl (fun w hS _ => Not_c xa.1 xa.2.1 xa.2.2 w ((hr.rd _ (List.mem_of_getElem? hxa)).next0 hS)) (fun z => ?_)
     refine jN 9 ?_
     refine WQ.ret (rs := [.cell 4 35, .tmp 5]) rfl (.cellN F.agg35 rfl jM rfl (.tmp rfl .nil)) (fun w hS => ?_)
     exact (OneP.of z _ (jK hS)).weak fun cf => by simp [opD, hd, hea]
    ·have hn4 : ¬ x.doo = 4 := by (simp at h55; omega)
     refine jN 8 ?_
     refine WC.cond rfl (fun h59 => ?_) (fun h59 => ?_)
     ·have hd : x.doo = 5 := by (simp at h59; omega)
      refine jN 7 ?_
      refine jC (β := DRes (fun c => xa.1.ev c && xb.1.ev c)) (res := fun z => z.v) (cs := fun z => [z.ch]) F.fun75 rfl (fun w hS _ => And_c xa.1 xb.1 xa.2.1 xb.2.1 xa.2.2 xb.2.2 w ((hr.rd _ (List.mem_of_getElem? hxa)).next0 hS) ((hr.rd _ (List.mem_of_getElem? hxb)).next0 hS)) (fun z => ?_)
      refine jN 9 ?_
      refine WQ.ret (rs := [.cell 4 35, .tmp 5]) rfl (.cellN F.agg35 rfl jM rfl (.tmp rfl .nil)) (fun w hS => ?_)
      exact (OneP.of z _ (jK hS)).weak fun cf => by simp [opD, hd, hea, heb]
     ·have hn5 : ¬ x.doo = 5 := by (simp at h59; omega)
      refine jN 8 ?_
      refine WC.cond rfl (fun h64 => ?_) (fun h64 => ?_)
      ·have hd : x.doo = 6 := by (simp at h64; omega)
       refine jN 7 ?_
       refine jC (β := DRes (fun c => xa.1.ev c || xb.1.ev c)) (res := fun z => z.v) (cs := fun z => [z.ch]) F.fun105 rfl (fun w hS _ => Or_c xa.1 xb.1 xa.2.1 xb.2.1 xa.2.2 xb.2.2 w ((hr.rd _ (List.mem_of_getElem? hxa)).next0 hS) ((hr.rd _ (List.mem_of_getElem? hxb)).next0 hS)) (fun z => ?_)
       refine jN 9 ?_
       refine WQ.ret (rs := [.cell 4 35, .tmp 5]) rfl (.cellN F.agg35 rfl jM rfl (.tmp rfl .nil)) (fun w hS => ?_)
       exact (OneP.of z _ (jK hS)).weak fun cf => by simp [opD, hd, hea, heb]
      ·have hn6 : ¬ x.doo = 6 := by (simp at h64; omega)
       refine jN 8 ?_
       refine WC.cond rfl (fun h69 => ?_) (fun h69 => ?_)
       ·have hd : x.doo = 7 := by (simp at h69; omega)
        refine jN 7 ?_
        refine jC (β := DRes (fun c => xa.1.ev c != xb.1.ev c)) (res := fun z => z.v) (cs := fun z => [z.ch]) F.fun104 rfl (fun w hS _ => Xor_c xa.1 xb.1 xa.2.1 xb.2.1 xa.2.2 xb.2.2 w ((hr.rd _ (List.mem_of_getElem? hxa)).next0 hS) ((hr.rd _ (List.mem_of_getElem? hxb)).next0 hS)) (fun z => ?_)
        refine jN 9 ?_
        refine WQ.ret (rs := [.cell 4 35, .tmp 5]) rfl (.cellN F.agg35 rfl jM rfl (.tmp rfl .nil)) (fun w hS => ?_)
        refine (OneP.of z _ (jK hS)).weak fun cf => ?_
        simp only [opD, hd, hea, heb]
        simp
       ·have hn7 : ¬ x.doo = 7 := by (simp at h69; omega)
        refine jN 8 ?_
        refine WC.cond rfl (fun h74 => ?_) (fun h74 => ?_)
        ·have hd : x.doo = 8 := by (simp at h74; omega)
         refine jN 9 ?_
         refine jC (β := DRes (fun cf => bif xa.1.ev cf then xb.1.ev cf else xc.1.ev cf)) (res := fun z => z.v) (cs := fun z => [z.ch]) F.fun106 rfl (fun w hS _ => Ite_c xa.1 xb.1 xc.1 xa.2.1 xb.2.1 xc.2.1 xa.2.2 xb.2.2 xc.2.2 w ((hr.rd _ (List.mem_of_getElem? hxa)).next0 hS) ((hr.rd _ (List.mem_of_getElem? hxb)).next0 hS) ((hr.rd _ (List.mem_of_getElem? hxc)).next0 hS)) (fun z => ?_)
         refine jN 9 ?_
         refine WQ.ret (rs := [.cell 4 35, .tmp 5]) rfl (.cellN F.agg35 rfl jM rfl (.tmp rfl .nil)) (fun w hS => ?_)
         refine (OneP.of z _ (jK hS)).weak fun cf => ?_
         simp only [opD, hd, hea, heb, hec]
         cases xa.1.ev cf <;> simp
        ·have hn8 : ¬ x.doo = 8 := by (simp at h74; omega)
         refine jN 8 ?_
         refine WC.cond rfl (fun h80 => ?_) (fun h80 => ?_)
         ·have hd : x.doo = 9 := by (simp at h80; omega)
          refine jN 13 ?_
          refine jC (β := DRes (fun c => xa.1.ev (updI c x.i x.on))) (res := fun z => z.v) (cs := fun z => [z.ch]) F.fun108 rfl (fun w hS _ => With_c xa.1 xa.2.1 xa.2.2 x.i x.on w ((hr.rd _ (List.mem_of_getElem? hxa)).next0 hS)) (fun z => ?_)
          refine jN 9 ?_
          refine WQ.ret (rs := [.cell 4 35, .tmp 5]) rfl (.cellN F.agg35 rfl jM rfl (.tmp rfl .nil)) (fun w hS => ?_)
          exact (OneP.of z _ (jK hS)).weak fun cf => by simp [opD, hd, hea]
         ·have hn9 : ¬ x.doo = 9 := by (simp at h80; omega)
          refine jN 8 ?_
          refine WC.cond rfl (fun h88 => ?_) (fun h88 => ?_)
          ·have hd : x.doo = 10 := by (simp at h88; omega)
           refine jN 9 ?_
           refine jC (β := EachX xa (eachF (fun p q => p || q) (featL (x.f &&& supT (canon xa.1).1)) xa.1.ev)) (res := fun y => dval y.1.x.1 y.1.x.2.1 y.1.x.2.2) (cs := fun y => [dsC y.1.F y.1.Bs]) F.fun109 rfl (fun w hS _ => (Exists_c xa.1 xa.2.1 xa.2.2 x.f hw.f w ((hr.rd _ (List.mem_of_getElem? hxa)).next0 hS)).mono (fun e w2 ⟨y, h1, h2, h3, h4, h5⟩ => ⟨⟨y, h1, h2, h3⟩, h4, h5⟩)) (fun ⟨y, hy1, hy2, hy3⟩ => ?_)
           refine jN 9 ?_
           refine WQ.ret (rs := [.cell 4 35, .tmp 5]) rfl (.cellN F.agg35 rfl jM rfl (.tmp rfl .nil)) (fun w hS => ?_)
           refine ⟨y, 0, hy1.imp_left (fun e => by rw [e]; exact List.mem_of_getElem? hxa), hy2, fun cf => ?_, rfl, (jK hS)⟩
           rw [hy3, each_sup (by simp) (hr.rd _ (List.mem_of_getElem? hxa)).1]
           simp only [opD, hd, hea]
           rfl
          ·have hn10 : ¬ x.doo = 10 := by (simp at h88; omega)
           refine jN 8 ?_
           refine WC.cond rfl (fun h94 => ?_) (fun h94 => ?_)
           ·have hd : x.doo = 11 := by (simp at h94; omega)
            refine jN 9 ?_
            refine jC (β := EachX xa (eachF (fun p q => p && q) (featL (x.f &&& supT (canon xa.1).1)) xa.1.ev)) (res := fun y => dval y.1.x.1 y.1.x.2.1 y.1.x.2.2) (cs := fun y => [dsC y.1.F y.1.Bs]) F.fun110 rfl (fun w hS _ => (Forall_c xa.1 xa.2.1 xa.2.2 x.f hw.f w ((hr.rd _ (List.mem_of_getElem? hxa)).next0 hS)).mono (fun e w2 ⟨y, h1, h2, h3, h4, h5⟩ => ⟨⟨y, h1, h2, h3⟩, h4, h5⟩)) (fun ⟨y, hy1, hy2, hy3⟩ => ?_)
            refine jN 9 ?_
            refine WQ.ret (rs := [.cell 4 35, .tmp 5]) rfl (.cellN F.agg35 rfl jM rfl (.tmp rfl .nil)) (fun w hS => ?_)
            refine ⟨y, 0, hy1.imp_left (fun e => by rw [e]; exact List.mem_of_getElem? hxa), hy2, fun cf => ?_, rfl, (jK hS)⟩
            rw [hy3, each_sup (by simp) (hr.rd _ (List.mem_of_getElem? hxa)).1]
            simp only [opD, hd, hea]
            rfl
           ·have hn11 : ¬ x.doo = 11 := by (simp at h94; omega)
            refine jN 8 ?_
            refine WC.cond rfl (fun h100 => ?_) (fun h100 => ?_)
            ·have hd : x.doo = 12 := by (simp at h100; omega)
             refine jN 15 ?_
             refine jC (β := DRes (fun cf => inB x.i x.j (selN x.f cf 24))) (res := fun z => z.v) (cs := fun z => [z.ch]) F.fun111 rfl (fun w hS _ => Between_c x.f x.i x.j hw.f w) (fun z => ?_)
             refine jN 9 ?_
             refine WQ.ret (rs := [.cell 4 35, .tmp 5]) rfl (.cellN F.agg35 rfl jM rfl (.tmp rfl .nil)) (fun w hS => ?_)
             exact (OneP.of z _ (jK hS)).weak fun cf => by simp [opD, hd]
            ·have hn12 : ¬ x.doo = 12 := by (simp at h100; omega)
             refine jN 8 ?_
             refine WC.cond rfl (fun h109 => ?_) (fun h109 => ?_)
             ·have hd : x.doo = 13 := by (simp at h109; omega)
              refine jN 1 ?_
              refine WC.chunks (fun w hS => hS.rowNil 2 1) ?_
              refine WC.drawsL (by kernel_rfl) (FactsOk.cons (ds := [2, 7, 10]) (LoadOk.one (t := 2) (off := 10) rfl jM rfl) (FactsOk.cons (ds := [7, 10]) (LoadOk.one (t := 2) (off := 1) rfl jM rfl) (FactsOk.cons (ds := [7, 10]) (LoadOk.one (t := 2) (off := 11) rfl jM rfl) (FactsOk.nil)))) ?_
              refine jT 0 rfl (Yl.fieldAddr0 F.fld92_10 rfl) ?_
              refine jF 1 0 rfl rfl (Yl.load1 F.one90 rfl) ?_
              refine jT 3 rfl (Yl.fieldAddr0 F.fld92_1 rfl) ?_
              refine jF 4 1 rfl rfl (Yl.load1 F.one5 rfl) ?_
              refine jT 5 rfl (Yl.fieldAddr0 F.fld92_11 rfl) ?_
              refine jF 6 2 rfl rfl (Yl.load1 F.one2 rfl) ?_
              refine jA 2 rfl ?_
              refine WL.appendC (n := 0) (v := .slice none 0 0) (xs := []) (news := x.l.map (Value.int .i64)) F.el90 rfl rfl rfl jR (fun w hS hm => (RdC.nextO hrl hS).news hm) (by simp) (ints_one _) (Nat.le_trans (m := 1099511627776) (by omega) (by decide)) (by omega) (fun ad ac => ?_)
              rw [Nat.zero_add, List.nil_append]
              refine WD.on (closed_of (by decide +kernel)) (fun w hS => Sx.gone rfl (Sx.keep (hS.cell jM rfl) (Sx.keep (hS.cell jM rfl) (Sx.none)))) ?_
              refine jA 7 rfl ?_
              refine jC (β := DRes (fun cf => costsB x.l && (decide (1 ≤ x.rel ∧ x.rel ≤ 3) && relB x.rel (tailN x.l cf 24) x.bound))) (res := fun z => .tuple #[z.v, .int .i64 (if linB x.l x.rel then 0 else 2)]) (cs := fun z => [z.ch]) F.fun112 rfl (fun w hS _ => Linear_c x.l x.rel x.bound (by omega) hw.bound ad ac w (RdC.of_row rfl (hS.ok (rowc (.slice ad x.l.length ac) x.l.length 2 1 (x.l.map (Value.int .i64))) jM))) (fun z => ?_)
              refine jG ?_
              refine jT 8 rfl (Yl.extract rfl rfl) ?_
              refine jT 9 rfl (Yl.extract rfl rfl) ?_
              refine jA 10 rfl ?_
              refine WL.storeN F.agg35 rfl rfl rfl jO jU jS ?_
              refine jG ?_
              refine jT 11 rfl (Yl.assign rfl) ?_
              refine jD ?_
              refine jN 4 ?_
              refine WQ.ret (rs := [.cell 4 35, .tmp 5]) rfl (.cellN F.agg35 rfl jM rfl (.tmp rfl .nil)) (fun w hS => ?_)
              refine (OneP.of z _ (jK hS)).weak fun cf => ?_
              simp only [opD, hd, linD]
              rfl
             ·have hn13 : ¬ x.doo = 13 := by (simp at h109; omega)
              refine jN 8 ?_
              refine WC.cond rfl (fun h121 => ?_) (fun h121 => ?_)
              ·have hd : x.doo = 14 := by (simp at h121; omega)
               refine jN 5 ?_
               refine jC (β := DRes (fun cf => s.all (fun x => x.1.ev cf))) (res := fun z => z.v) (cs := fun z => [z.ch]) F.fun101 rfl (fun w hS _ => AndAll_c s (some ⟨bs, os, none⟩) c (by omega) w (hr.next hS)) (fun z => ?_)
               refine jN 9 ?_
               refine WQ.ret (rs := [.cell 4 35, .tmp 5]) rfl (.cellN F.agg35 rfl jM rfl (.tmp rfl .nil)) (fun w hS => ?_)
               refine (OneP.of z _ (jK hS)).weak fun cf => ?_
               simp only [opD, hd]
               simp [Function.comp_def]
              ·have hn14 : ¬ x.doo = 14 := by (simp at h121; omega)
               refine jN 8 ?_
               refine WC.cond rfl (fun h125 => ?_) (fun h125 => ?_)
               ·have hd : x.doo = 15 := by (simp at h125; omega)
                refine jN 5 ?_
                refine jC (β := DRes (fun cf => s.any (fun x => x.1.ev cf))) (res := fun z => z.v) (cs := fun z => [z.ch]) F.fun102 rfl (fun w hS _ => OrAll_c s (some ⟨bs, os, none⟩) c (by omega) w (hr.next hS)) (fun z => ?_)
                refine jN 9 ?_
                refine WQ.ret (rs := [.cell 4 35, .tmp 5]) rfl (.cellN F.agg35 rfl jM rfl (.tmp rfl .nil)) (fun w hS => ?_)
                refine (OneP.of z _ (jK hS)).weak fun cf => ?_
                simp only [opD, hd]
                simp [Function.comp_def]
               ·have hn15 : ¬ x.doo = 15 := by (simp at h125; omega)
                refine jN 6 ?_
                refine jC (β := DRes (fun _ => false)) (res := fun z => z.v) (cs := fun z => [z.ch]) F.fun103 rfl (fun w hS _ => False_c w) (fun z => ?_)
                refine jN 7 ?_
                refine WQ.ret (rs := [.cell 4 35, .tmp 5]) rfl (.cellN F.agg35 rfl jM rfl (.tmp rfl .nil)) (fun w hS => ?_)
                exact (OneP.of z 0 (jK hS)).weak fun cf => by simp only [opD, hn1, hn2, hn3, hn4, hn5, hn6, hn7, hn8, hn9, hn10, hn11, hn12, hn13, hn14, hn15]; simp

end Go.Proofs.YtkgllhkhdjodeaaGreat

namespace Go.Proofs.YtkgllhkhdjodeaaGreat
open Go Go.Eng Go.Proofs Dg
theorem St.dsZero {w0 w : World} {O : List Nat} {C : List Chunk} (h : St w0 O C w) : St w0 O (dsC [] [(.lf false, none, 0)] :: C) w :=
 (St.dsNil h).swap (fun _ x hx => by
  rw [List.mem_singleton.1 hx]
  exact ⟨trivial, fun j u hu => by cases hu⟩) (fun k hk => hk)
structure MkG where
 i : Nat
 ds : List DV
 sa : Option Addr
 sc : Nat
 F : List Nat
abbrev evs' (ds : List DV) : List (Cf → Bool) := ds.map (fun y => y.1.ev)
theorem mk_step {l : List OpV} {i : Nat} {x : OpV} (hx : l[i]? = some x) {ds : List DV} (h : evs' ds = mkD (l.take i)) {y : DV} (hy : ∀ cf, y.1.ev cf = opD x (evs' ds) cf) : evs' (ds ++ [y]) = mkD (l.take (i + 1)) := by
 rw [mkD_take hx, ← h]
 unfold evs'
 rw [List.map_append]
 congr 1
 show [y.1.ev] = _
 congr 1
 funext cf
 exact hy cf
theorem snoc_len {α : Type} (l : List α) (x : α) : (l ++ [x]).length = l.length + 1 := by simp
/-- The sets that a script makes. -/
abbrev MkZ (l : List OpV) : Type := { z : List DV × List Nat × Option Addr × Nat // evs' z.1 = mkD l ∧ z.1.length = l.length + 1 }

set_option maxRecDepth 100000 in
theorem Make_c (l : List OpV) (a : Option Addr) (c : Nat) (hwf : ∀ x ∈ l, x.wf) (hl12 : l.length ≤ 12) (f : Nat) (hin : ∀ x ∈ l, OpIn x f ∧ x.l.length ≤ 40) (w : World) (hr : RdOps w l a) :
  Calls Tryz.prog 29 [.slice a l.length c].toArray w fun e w' => ∃ z : MkZ l, e = .returned (.slice z.1.2.2.1 z.1.1.length z.1.2.2.2) ∧ St w [] [rowc (.slice z.1.2.2.1 z.1.1.length z.1.2.2.2) z.1.1.length 35 2 (dcs z.1.1), dsC z.1.2.1 z.1.1] w' := by
 refine enter Tryz.func29 rfl Tryz.ntmps29 rfl (St.init _) ?_
 refine jN 11 ?_
 refine WL.buildSlice F.sl48 F.ez48 rfl rfl rfl rfl jB rfl (fun b8 => ?_)
 refine jN 12 ?_
 refine WC.chunks (C' := [rowc (.slice (⟨0, [(.lf false, none, 0)], some ⟨b8, 0, none⟩, 1, []⟩ : MkG).sa (⟨0, [(.lf false, none, 0)], some ⟨b8, 0, none⟩, 1, []⟩ : MkG).ds.length (⟨0, [(.lf false, none, 0)], some ⟨b8, 0, none⟩, 1, []⟩ : MkG).sc) (⟨0, [(.lf false, none, 0)], some ⟨b8, 0, none⟩, 1, []⟩ : MkG).ds.length 35 2 (dcs (⟨0, [(.lf false, none, 0)], some ⟨b8, 0, none⟩, 1, []⟩ : MkG).ds), dsC (⟨0, [(.lf false, none, 0)], some ⟨b8, 0, none⟩, 1, []⟩ : MkG).F (⟨0, [(.lf false, none, 0)], some ⟨b8, 0, none⟩, 1, []⟩ : MkG).ds]) (fun w hS => ?_) ?_
 ·have hS1 := St.dsZero (St.rowOf (n := 1) (sz := 2) ((St.pick hS (c := pt b8 [.slice none 0 0, .int .i64 0] 35) jR)) rfl (by decide))
  exact (jK hS1)
 refine WC.loop (α := MkG) (fun g => g.i ≤ l.length ∧ g.ds.length = g.i + 1 ∧ evs' g.ds = mkD (l.take g.i)) (fun g => [(0, .slice a l.length c), (3, .slice g.sa g.ds.length g.sc), (4, .int .i64 (g.i : Int))]) (fun g => [rowc (.slice g.sa g.ds.length g.sc) g.ds.length 35 2 (dcs g.ds), dsC g.F g.ds]) (fun g => l.length - g.i) (⟨0, [(.lf false, none, 0)], some ⟨b8, 0, none⟩, 1, []⟩) ?_ ?_ ?_ ?_
 ·exact ⟨Nat.zero_le _, rfl, rfl⟩
 ·exact ⟨rfl, rfl, rfl, trivial⟩
 ·rfl
 rintro ⟨i, ds, sa, sc, F9⟩ ⟨hi, hdl, hev⟩
 dsimp only at hi hdl hev
 show WC _ _ _ _ _ _ _ [(0, .slice a l.length c), (3, .slice sa ds.length sc), (4, .int .i64 (i : Int))] [rowc (.slice sa ds.length sc) ds.length 35 2 (dcs ds), dsC F9 ds]
 refine jN 13 ?_
 refine WC.cond rfl (fun h12 => ?_) (fun h12 => ?_)
 ·have hlt : i < l.length := by simpa using h12
  obtain ⟨x, hx⟩ : ∃ x, l[i]? = some x := ⟨_, List.getElem?_eq_getElem hlt⟩
  obtain ⟨⟨b, off, ha, hcell⟩, hrc⟩ := hr i x hx
  subst ha
  have hw := hwf x (List.mem_of_getElem? hx)
  obtain ⟨_, hl40⟩ := hin x (List.mem_of_getElem? hx)
  refine jN 11 ?_
  refine WL.indexAddr F.sl46 rfl rfl rfl hlt ?_
  refine jN 1 ?_
  refine WL.loadN F.agg92 rfl rfl (vs := x.cells) rfl (fun w hS j u hu => hS.oldc (hcell j u hu) (by simp)) ?_
  refine jN 3 ?_
  refine jC (β := OneX ds (opD x (evs' ds))) (res := fun y => .tuple #[dval y.1.1.x.1 y.1.1.x.2.1 y.1.1.x.2.2, .int .i64 y.1.2]) (cs := fun y => [dsC y.1.1.F y.1.1.Bs]) F.fun51 rfl (fun w hS _ => (opOne_c x hw hl40 ds sa sc (by omega) (by omega) w (RdDL.of_row rfl (hS.ok (rowc (.slice sa ds.length sc) ds.length 35 2 (dcs ds)) jM) (hS.ok (dsC F9 ds) jM)) (RdC.nextO hrc hS)).mono (fun e w2 ⟨y, k, h1, h2, h3, h4, h5⟩ => ⟨⟨(y, k), h1, h2, h3⟩, h4, h5⟩)) (fun ⟨⟨y, k⟩, hy1, hy2, hy3⟩ => ?_)
  refine jN 7 ?_
  refine WL.alloc F.zero35 rfl (fun b5 => ?_)
  refine jN 12 ?_
  refine WL.buildSlice F.sl48 F.ez48 rfl rfl rfl rfl jB rfl (fun b26 => ?_)
  refine jN 1 ?_
  refine WL.appendE (news := dvl y.x) F.el48 rfl rfl rfl jR (fun w hS jj u hu => by rw [Nat.zero_add]; exact hS.cell (cs := dvl y.x) jM hu) rfl (by simp [dvl, Value.oneCell']) (Nat.le_trans (m := 1000) (by omega) (by decide)) (by omega) (fun a2 c2 => ?_)
  refine jN 13 ?_
  have e9 := snoc_len ds y.x
  refine WQ.chunks (C' := [rowc (.slice a2 (ds ++ [y.x]).length c2) (ds ++ [y.x]).length 35 2 (dcs (ds ++ [y.x])), dsC (F9 ++ y.F) (ds ++ [y.x])]) (fun w hS => ?_) ?_
  ·have hS1 := St.dsSub (m := ds ++ [y.x]) (St.dsJoin (St.pick (St.pick hS (c := dsC y.F y.Bs) jR) (c := dsC F9 ds) jR)) (fun z hz => (List.mem_append.1 hz).elim (fun h => List.mem_append_left _ h) (fun h => by rw [List.mem_singleton.1 h]; exact hy1.elim (fun h => List.mem_append_left _ h) (fun h => List.mem_append_right _ h)))
   have e8 : rowc (.slice a2 (ds ++ [y.x]).length c2) (ds ++ [y.x]).length 35 2 (dcs (ds ++ [y.x])) = rowc (.slice a2 (ds.length + 1) c2) (ds.length + 1) 35 2 (dcs ds ++ dvl y.x) := by rw [e9, dcs_append]; simp [dcs]
   rw [e8]
   exact (jK hS1)
  refine WQ.say 3 (.slice a2 (ds ++ [y.x]).length c2) (by rw [e9]; rfl) ?_
  refine WQ.back (⟨i + 1, ds ++ [y.x], a2, c2, F9 ++ y.F⟩) ?_ ?_ ?_ ?_
  ·exact ⟨by (show i + 1 ≤ l.length; omega), by (show (ds ++ [y.x]).length = i + 1 + 1; omega), mk_step hx hev hy3⟩
  ·(show l.length - (i + 1) < l.length - i; omega)
  ·exact ⟨rfl, rfl, rfl, trivial⟩
  ·rfl
 ·have hie : i = l.length := by simp at h12; omega
  subst hie
  rw [List.take_length] at hev
  refine jN 14 ?_
  exact WQ.ret (rs := [.tmp 2]) rfl (.tmp rfl .nil) (fun w hS => ⟨⟨(ds, F9, sa, sc), hev, hdl⟩, rfl, (jK hS)⟩)

end Go.Proofs.YtkgllhkhdjodeaaGreat

namespace Go.Proofs.YtkgllhkhdjodeaaGreat
open Go Go.Eng Go.Proofs Dg
structure AllG where
 i : Nat
 z : SV
 F : List Nat
 M : List RowV
end Go.Proofs.YtkgllhkhdjodeaaGreat

namespace Go.Proofs.YtkgllhkhdjodeaaGreat
open Go Go.Eng Go.Proofs Dg
structure BothG where
 i : Nat
 ds : List DV
 sa : Option Addr
 sc : Nat
 F : List Nat
 ss : List SV
 ta : Option Addr
 tc : Nat
 G : List Nat
 M : List RowV
 b : Bool
/-- The sets that a script makes, in both ways. -/
structure BothZ (l : List OpV) (z : BothG) : Prop where
 ev : evs' z.ds = mkD l
 len : z.ds.length = l.length + 1
 rel : RelL z.ss (mkD l)
 gd : ∀ s ∈ z.ss, s.good ∧ s.among z.M

end Go.Proofs.YtkgllhkhdjodeaaGreat

/-
 Clauses of a set: the memory of the walk through its paths.
-/
namespace Go.Proofs.YtkgllhkhdjodeaaGreat
open Go Go.Eng Go.Proofs Dg
abbrev ints (c : List Int) : List Value := c.map (Value.int .i64)
structure TGr where
 oa : Option Addr
 oc : Nat
 vs : List Value
 Fs : List Nat
 pa : Option Addr
 pc : Nat
abbrev thCs (bo bp : Nat) (out : List (List Int)) (path : List Int) (x : TGr) : List Chunk :=
 [pt bo [.slice x.oa out.length x.oc] 52, rowc (.slice x.oa out.length x.oc) out.length 41 1 x.vs, stepsC x.Fs x.vs out, pt bp [.slice x.pa path.length x.pc] 41, rowc (.slice x.pa path.length x.pc) path.length 3 1 (ints path)]
def thr (F : List Nat) (bo bp : Nat) (out : List (List Int)) (path : List Int) : Chunk := bun F (thCs bo bp out path) (fun _ => True)
abbrev thF (bo bp bn bt : Nat) : Value := .func (.func 56) [].toArray [pp bo, pp bp, pp bn, pp bt].toArray
structure TEnv (w : World) (F : List Nat) (bo bp bn bt : Nat) (l : List Dec) (a : Option Addr) (c : Nat) : Prop where
 no : w.cell? ⟨bn, 0, none⟩ = some (.slice a l.length c)
 no' : bn ∉ F
 th : w.cell? ⟨bt, 0, none⟩ = some (thF bo bp bn bt)
 th' : bt ∉ F
 rd : RdDecO w l a F
theorem TEnv.next {w0 w : World} {F F' : List Nat} {C1 : List Chunk} {bo bp bn bt c : Nat} {l : List Dec} {a : Option Addr} {out : List (List Int)} {path : List Int} (h : TEnv w0 F bo bp bn bt l a c) (hS : St w0 F ([thr F' bo bp out path] ++ C1) w) : TEnv w F' bo bp bn bt l a c := by
 have hap := fun {z : Nat} (h1 : z < w0.heap.size) (h2 : z ∉ F) => hS.apart (F := F') bun_O2 h1 h2
 refine ⟨hS.oldc h.no h.no', hap (World.block_lt_of_cell? w0 _ h.no) h.no', hS.oldc h.th h.th', hap (World.block_lt_of_cell? w0 _ h.th) h.th', fun j u hu => ?_⟩
 obtain ⟨b, off, e1, e2, e3⟩ := h.rd j u hu
 exact ⟨b, off, e1, hS.oldc e2 e3, hap (World.block_lt_of_cell? w0 _ e2) e3⟩
end Go.Proofs.YtkgllhkhdjodeaaGreat

namespace Go.Proofs.YtkgllhkhdjodeaaGreat
open Go Go.Eng Go.Proofs Dg
end Go.Proofs.YtkgllhkhdjodeaaGreat

namespace Go.Proofs.YtkgllhkhdjodeaaGreat
open Go Go.Eng Go.Proofs Dg
end Go.Proofs.YtkgllhkhdjodeaaGreat

namespace Go.Proofs.YtkgllhkhdjodeaaGreat
open Go Go.Eng Go.Proofs Dg
structure PathG where
 oa : Option Addr
 oc : Nat
 vs : List Value
 F : List Nat
theorem SV.good.len {s : SV} (h : s.good) : s.bs.length ≤ 1099511627776 := by
 rw [h.bl]
 exact Nat.le_trans (Nat.pow_le_pow_right (by decide) h.vl) (by decide)

end Go.Proofs.YtkgllhkhdjodeaaGreat

namespace Go.Proofs.YtkgllhkhdjodeaaGreat
open Go Go.Eng Go.Proofs Dg
theorem few_step {f v m : Nat} (hm : m ≤ v) (hv : v < 24) (hb : f.testBit v = true) : ((featL f).filter (fun x => decide (v + 1 ≤ x))).length + 1 ≤ ((featL f).filter (fun x => decide (m ≤ x))).length := by
 have hmem : v ∈ (featL f).filter (fun x => decide (m ≤ x)) := List.mem_filter.2 ⟨feat_mem.2 ⟨hv, hb⟩, decide_eq_true hm⟩
 have e : (featL f).filter (fun x => decide (v + 1 ≤ x)) = ((featL f).filter (fun x => decide (m ≤ x))).filter (fun x => decide (v + 1 ≤ x)) := by
  rw [List.filter_filter]
  refine List.filter_congr fun x _ => ?_
  rw [Bool.eq_iff_iff, Bool.and_eq_true, decide_eq_true_eq, decide_eq_true_eq]
  omega
 rw [e]
 generalize hq : (featL f).filter (fun x => decide (m ≤ x)) = l at hmem
 have key : ∀ l : List Nat, v ∈ l → (l.filter (fun x => decide (v + 1 ≤ x))).length + 1 ≤ l.length := by
  intro l
  induction l with
  | nil => intro h; cases h
  | cons y l ih =>
   intro h
   rcases List.mem_cons.1 h with rfl | h
   ·rw [List.filter_cons, if_neg (by simp), List.length_cons]
    exact Nat.succ_le_succ (List.length_filter_le _ _)
   ·have := ih h
    rw [List.filter_cons]
    split <;> simp only [List.length_cons] <;> omega
 exact key l hmem
/-- The last set of a script: of few features. -/
theorem last_few {l : List OpV} {f : Nat} (hin : ∀ x ∈ l, OpIn x f ∧ x.l.length ≤ 40) {ds : List DV} (h : evs' ds = mkD l) {x : DV} (hx : x ∈ ds) (ho : x.1.ok 0) : ∀ k, hasVar k x.1 → f.testBit k = true := fun k hk => by
 have hd : dep f x.1.ev := by
  refine mkD_dep l [fun _ => false] (fun y hy => (hin y hy).1) (fun e he => by rw [List.mem_singleton.1 he]; exact dep_const f false) _ ?_
  have : x.1.ev ∈ evs' ds := List.mem_map.2 ⟨x, hx, rfl⟩
  rw [h] at this
  exact this
 exact sup_in ho hd ((sup_var ho k).2 hk)

end Go.Proofs.YtkgllhkhdjodeaaGreat

/-! The formula of a set. -/
namespace Go.Proofs.YtkgllhkhdjodeaaGreat
open Go Go.Eng Go.Proofs Dg
def ofT (names : List (List UInt8)) : BT → Tree
 | .lf b => .mk (bif b then 2 else 1) [] []
 | .nd v lo hi => shapeT (.mk 3 (names.getD v []) []) (ofT names lo) (ofT names hi)
def subT (s : BT) : BT → Prop
 | .lf b => s = .lf b
 | .nd v lo hi => s = .nd v lo hi ∨ subT s lo ∨ subT s hi
theorem subT_self : ∀ t : BT, subT t t
 | .lf _ => rfl
 | .nd _ _ _ => .inl rfl
theorem visitT_sub : ∀ (t : BT) (out : List Dec) (p : Nat), p < (visitT t out).1.length + 2 → p < out.length + 2 ∨ subT (trs (visitT t out).1 p) t
 | .lf b, out, p, h => .inl h
 | .nd v lo hi, out, p, h => by
  unfold visitT at h ⊢
  cases hl : Dg.look out (BT.nd v lo hi) with
  | some q => rw [hl] at h; exact .inl h
  | none =>
   rw [hl] at h
   simp only [List.length_append, List.length_cons, List.length_nil] at h ⊢
   by_cases hp : p = (visitT hi (visitT lo out).1).1.length + 2
   ·right
    subst hp
    obtain ⟨a1, a2⟩ := visitT_at lo out
    obtain ⟨b1, b2⟩ := visitT_at hi (visitT lo out).1
    obtain ⟨r, hr⟩ := visitT_pre hi (visitT lo out).1
    rw [trs_snoc_new, b2]
    have : trs (visitT hi (visitT lo out).1).1 (visitT lo out).2 = lo := by rw [hr, trs_append a1, a2]
    simp only [this]
    exact .inl rfl
   ·have hp' : p < (visitT hi (visitT lo out).1).1.length + 2 := by omega
    rw [trs_snoc_old hp']
    rcases visitT_sub hi (visitT lo out).1 p hp' with h2 | h2
    ·rcases visitT_sub lo out p h2 with h3 | h3
     ·exact .inl h3
     ·obtain ⟨r, hr⟩ := visitT_pre hi (visitT lo out).1
      rw [hr, trs_append h2]
      exact .inr (.inr (.inl h3))
    ·exact .inr (.inr (.inr h2))
theorem canon_sub {t : BT} {k : Nat} (hk : k < (canon t).1.length) : subT (trs (canon t).1 (k + 2)) t := by
 rcases visitT_sub t [] (k + 2) (by have : (visitT t []).1.length = (canon t).1.length := rfl; omega) with h | h
 ·exfalso
  have e : ([] : List Dec).length = 0 := rfl
  omega
 ·exact h
theorem subT_ok : ∀ {t s : BT} {m : Nat}, t.ok m → subT s t → s.ok m
 | .lf b, s, m, h, hs => by rw [show s = .lf b from hs]; trivial
 | .nd v lo hi, s, m, h, hs => by
  rcases hs with rfl | hs | hs
  ·exact h
  ·exact BT.ok_mono (subT_ok h.2.2.2.1 hs) (Nat.le_succ_of_le h.1)
  ·exact BT.ok_mono (subT_ok h.2.2.2.2 hs) (Nat.le_succ_of_le h.1)
theorem subT_var : ∀ {t s : BT} {x : Nat}, subT s t → hasVar x s → hasVar x t
 | .lf b, s, x, hs, h => by rw [show s = .lf b from hs] at h; exact h
 | .nd v lo hi, s, x, hs, h => by
  rcases hs with rfl | hs | hs
  ·exact h
  ·exact .inr (.inl (subT_var hs h))
  ·exact .inr (.inr (subT_var hs h))
/-! ### nodes and levels -/
theorem shape_nT {nm : List UInt8} (lo hi : Tree) : nT (shapeT (.mk 3 nm []) lo hi) ≤ 2 + nT hi + nT lo := by
 have h1 := nT_pos lo
 have h2 := nT_pos hi
 have hx : nT (.mk 3 nm [] : Tree) = 1 := by simp [nT, Fm.rowT, Fm.rowL]
 have hn : nT (.mk 4 [] [.mk 3 nm []] : Tree) = 2 := by simp [nT, Fm.rowT, Fm.rowL]
 have e2 : ∀ op a b, nT (.mk op [] [a, b] : Tree) = 1 + nT a + nT b := fun op a b => by simp [nT, Fm.rowT, Fm.rowL]; omega
 have e3 : ∀ op a b c, nT (.mk op [] [a, b, c] : Tree) = 1 + nT a + nT b + nT c := fun op a b c => by simp [nT, Fm.rowT, Fm.rowL]; omega
 unfold shapeT
 repeat (split; · first | (rw [hx]; omega) | (rw [hn]; omega) | (rw [e2, hx]; omega) | (rw [e2, hn]; omega))
 rw [e3, hx]; omega
theorem of_nT {names : List (List UInt8)} {f : Nat} : ∀ {t : BT} {m : Nat}, t.ok m → (∀ x, hasVar x t → f.testBit x = true) → nT (ofT names t) + 2 ≤ 3 * 2 ^ ((featL f).filter (fun x => decide (m ≤ x))).length
 | .lf b, m, _, _ => by
  have h2 : 1 ≤ 2 ^ ((featL f).filter (fun x => decide (m ≤ x))).length := Nat.one_le_two_pow
  have : nT (ofT names (.lf b)) = 1 := by simp [ofT, nT, Fm.rowT, Fm.rowL]
  omega
 | .nd v lo hi, m, h, hv => by
  have h1 := of_nT (names := names) (t := lo) h.2.2.2.1 (fun x hx => hv x (.inr (.inl hx)))
  have h2 := of_nT (names := names) (t := hi) h.2.2.2.2 (fun x hx => hv x (.inr (.inr hx)))
  have hlt := few_step (f := f) h.1 h.2.1 (hv v (.inl rfl))
  have h3 : 2 ^ (((featL f).filter (fun x => decide (v + 1 ≤ x))).length + 1) ≤ 2 ^ ((featL f).filter (fun x => decide (m ≤ x))).length := Nat.pow_le_pow_right (by decide) hlt
  rw [Nat.pow_succ] at h3
  have h4 := shape_nT (nm := names.getD v []) (ofT names lo) (ofT names hi)
  show nT (shapeT _ _ _) + 2 ≤ _
  omega
theorem shape_lev {nm : List UInt8} (lo hi : Tree) {n : Nat} (h3 : 2 ≤ n) (h1 : Fm.levT lo ≤ n) (h2 : Fm.levT hi ≤ n) : Fm.levT (shapeT (.mk 3 nm []) lo hi) ≤ n + 1 := by
 have hx : Fm.levT (.mk 3 nm [] : Tree) = 1 := by simp [Fm.levT, Fm.levL]
 have hn : Fm.levT (.mk 4 [] [.mk 3 nm []] : Tree) = 2 := by simp [Fm.levT, Fm.levL]
 have e2 : ∀ op a b, Fm.levT (.mk op [] [a, b] : Tree) = max (Fm.levT a) (Fm.levT b) + 1 := fun op a b => by simp [Fm.levT, Fm.levL]
 have e3 : ∀ op a b c, Fm.levT (.mk op [] [a, b, c] : Tree) = max (Fm.levT a) (max (Fm.levT b) (Fm.levT c)) + 1 := fun op a b c => by simp [Fm.levT, Fm.levL]
 unfold shapeT
 repeat (split; · first | (rw [hx]; omega) | (rw [hn]; omega) | (rw [e2, hx]; omega) | (rw [e2, hn]; omega))
 rw [e3, hx]; omega
theorem of_lev {names : List (List UInt8)} : ∀ {t : BT} {m : Nat}, t.ok m → m ≤ 24 → Fm.levT (ofT names t) ≤ 27 - m
 | .lf b, m, _, hm => by
  have : Fm.levT (ofT names (.lf b)) = 1 := by simp [ofT, Fm.levT, Fm.levL]
  omega
 | .nd v lo hi, m, h, hm => by
  have e1 := h.1
  have e2 := h.2.1
  have h1 := of_lev (names := names) (t := lo) h.2.2.2.1 (by omega)
  have h2 := of_lev (names := names) (t := hi) h.2.2.2.2 (by omega)
  have h3 := shape_lev (nm := names.getD v []) (ofT names lo) (ofT names hi) (n := 27 - (v + 1)) (by omega) h1 h2
  show Fm.levT (shapeT _ _ _) ≤ _
  omega
/-! ### each node -/
theorem shape_all {P : Tree → Prop} {nm : List UInt8} {lo hi : Tree} (hx : P (.mk 3 nm [])) (hn : P (.mk 4 [] [.mk 3 nm []])) (h5 : ∀ op a b, op = 5 ∨ op = 6 → P (.mk op [] [a, b])) (h10 : ∀ a b c, P (.mk 10 [] [a, b, c]))
  (hlo : ∀ k ∈ Fm.rowT lo, P k) (hhi : ∀ k ∈ Fm.rowT hi, P k) : ∀ k ∈ Fm.rowT (shapeT (.mk 3 nm []) lo hi), P k := by
 have kx : ∀ k ∈ Fm.rowT (.mk 3 nm [] : Tree), P k := by simp [Fm.rowT, Fm.rowL]; exact hx
 have kn : ∀ k ∈ Fm.rowT (.mk 4 [] [.mk 3 nm []] : Tree), P k := by simp [Fm.rowT, Fm.rowL]; exact ⟨hn, hx⟩
 have e2 : ∀ op a b, op = 5 ∨ op = 6 → (∀ k ∈ Fm.rowT a, P k) → (∀ k ∈ Fm.rowT b, P k) → ∀ k ∈ Fm.rowT (.mk op [] [a, b] : Tree), P k := fun op a b ho ha hb k hk => by
  simp only [Fm.rowT, Fm.rowL, List.append_nil, List.mem_cons, List.mem_append] at hk
  rcases hk with rfl | hk | hk
  ·exact h5 op a b ho
  ·exact ha k hk
  ·exact hb k hk
 unfold shapeT
 split
 ·exact kx
 split
 ·exact kn
 split
 ·exact e2 5 _ _ (.inl rfl) kx hhi
 split
 ·exact e2 6 _ _ (.inr rfl) kx hlo
 split
 ·exact e2 5 _ _ (.inl rfl) kn hlo
 split
 ·exact e2 6 _ _ (.inr rfl) kn hhi
 ·intro k hk
  simp only [Fm.rowT, Fm.rowL, List.append_nil, List.nil_append, List.mem_cons, List.mem_append, List.not_mem_nil, or_false] at hk
  rcases hk with rfl | rfl | hk | hk
  ·exact h10 _ _ _
  ·exact hx
  ·exact hhi k hk
  ·exact hlo k hk
theorem of_all {P : Tree → Prop} {names : List (List UInt8)} (hlf : ∀ b : Bool, P (.mk (bif b then 2 else 1) [] [])) (hn : ∀ nm, P (.mk 4 [] [.mk 3 nm []])) (h5 : ∀ op a b, op = 5 ∨ op = 6 → P (.mk op [] [a, b])) (h10 : ∀ a b c, P (.mk 10 [] [a, b, c])) :
  ∀ t : BT, (∀ x, hasVar x t → P (.mk 3 (names.getD x []) [])) → ∀ k ∈ Fm.rowT (ofT names t), P k
 | .lf b, _, k, hk => by
  simp only [ofT, Fm.rowT, Fm.rowL, List.mem_singleton] at hk
  rw [hk]; exact hlf b
 | .nd v lo hi, h, k, hk => shape_all (h v (.inl rfl)) (hn _) h5 h10 (of_all hlf hn h5 h10 lo fun x hx => h x (.inr (.inl hx))) (of_all hlf hn h5 h10 hi fun x hx => h x (.inr (.inr hx))) k hk
/-! ### what it says -/
theorem of_op (names : List (List UInt8)) : ∀ t : BT, ((ofT names t).op = 2 ↔ t = .lf true) ∧ ((ofT names t).op = 1 ↔ t = .lf false)
 | .lf b => by cases b <;> simp [ofT, Tree.op]
 | .nd v lo hi => by
  have h : (ofT names (.nd v lo hi)).op ≠ 2 ∧ (ofT names (.nd v lo hi)).op ≠ 1 := by
   show (shapeT _ _ _).op ≠ 2 ∧ (shapeT _ _ _).op ≠ 1
   unfold shapeT
   repeat (split; · simp [Tree.op])
   simp [Tree.op]
  exact ⟨⟨fun e => absurd e h.1, fun e => by cases e⟩, ⟨fun e => absurd e h.2, fun e => by cases e⟩⟩
theorem of_ev {names : List (List UInt8)} : ∀ {t : BT}, (∀ x, hasVar x t → (idxS names (names.getD x [])).toNat = x) → ∀ cf, evT names (ofT names t) cf = t.ev cf
 | .lf b, _, cf => by cases b <;> simp [ofT, evT_eq, Tree.op, Tree.kids, Tree.name, evL, opV, BT.ev]
 | .nd v lo hi, h, cf => by
  have h1 := of_ev (t := lo) (fun x hx => h x (.inr (.inl hx))) cf
  have h2 := of_ev (t := hi) (fun x hx => h x (.inr (.inr hx))) cf
  have hx : evT names (.mk 3 (names.getD v []) []) cf = cf v := by
   rw [evT_eq]
   show opV names 3 (names.getD v []) _ cf = cf v
   unfold opV
   rw [if_neg (by decide), if_pos rfl, h v (.inl rfl)]
  obtain ⟨l2, l1⟩ := of_op names lo
  obtain ⟨g2, g1⟩ := of_op names hi
  have hn : evT names (.mk 4 [] [.mk 3 (names.getD v []) []]) cf = !cf v := by
   rw [evT_eq]
   simp only [Tree.op, Tree.name, Tree.kids, evL, hx, opV]
   simp
  have e5 : ∀ a b, evT names (.mk 5 [] [a, b]) cf = (evT names a cf && evT names b cf) := fun a b => by
   rw [evT_eq]; simp [Tree.op, Tree.name, Tree.kids, evL, opV]
  have e6 : ∀ a b, evT names (.mk 6 [] [a, b]) cf = (evT names a cf || evT names b cf) := fun a b => by
   rw [evT_eq]; simp [Tree.op, Tree.name, Tree.kids, evL, opV]
  have e10 : ∀ a b c, evT names (.mk 10 [] [a, b, c]) cf = bif evT names a cf then evT names b cf else evT names c cf := fun a b c => by
   rw [evT_eq]
   simp only [Tree.op, Tree.name, Tree.kids, evL, opV]
   cases evT names a cf <;> simp
  show evT names (shapeT _ _ _) cf = bif cf v then hi.ev cf else lo.ev cf
  unfold shapeT
  split
  ·rename_i q
   rw [g2.1 q.1, l1.1 q.2, hx]
   cases cf v <;> rfl
  split
  ·rename_i q
   rw [g1.1 q.1, l2.1 q.2, hn]
   cases cf v <;> rfl
  split
  ·rename_i q
   rw [e5, hx, h2, l1.1 q]
   cases cf v <;> simp [BT.ev]
  split
  ·rename_i q
   rw [e6, hx, h1, g2.1 q]
   cases cf v <;> simp [BT.ev]
  split
  ·rename_i q
   rw [e5, hn, h1, g1.1 q]
   cases cf v <;> simp [BT.ev]
  split
  ·rename_i q
   rw [e6, hn, h2, l2.1 q]
   cases cf v <;> simp [BT.ev]
  ·rw [e10, hx, h1, h2]
/-! ### names -/
theorem names_good : ∀ (l pre : List (List UInt8)), namesG pre l = 0 → ∀ (i : Nat) (s : List UInt8), l[i]? = some s → Fm.isNameB s = true ∧ pre.contains s = false ∧ (l.take i).contains s = false
 | [], _, _, i, s, h => by simp at h
 | x :: l, pre, h0, i, s, h => by
  unfold namesG at h0
  split at h0
  ·cases h0
  split at h0
  ·cases h0
  rename_i a1 a2
  have a1 : Fm.isNameB x = true := by simpa using a1
  have a2 : pre.contains x = false := by simpa using a2
  cases i with
  | zero =>
   simp only [List.getElem?_cons_zero, Option.some.injEq] at h
   subst h
   exact ⟨a1, a2, rfl⟩
  | succ i =>
   simp only [List.getElem?_cons_succ] at h
   obtain ⟨b1, b2, b3⟩ := names_good l (pre ++ [x]) h0 i s h
   have b2' : pre.contains s = false ∧ (s == x) = false := by
    simp only [List.contains_eq_mem, List.mem_append, List.mem_singleton, decide_eq_false_iff_not, not_or] at b2 ⊢
    exact ⟨b2.1, by simpa using b2.2⟩
   refine ⟨b1, b2'.1, ?_⟩
   rw [List.take_succ_cons, List.contains_cons, b2'.2, b3]
   rfl
theorem names_at {names : List (List UInt8)} (h : namesE names = 0) {x : Nat} (hx : x < names.length) : Fm.isNameB (names.getD x []) = true ∧ (idxS names (names.getD x [])).toNat = x ∧ names.contains (names.getD x []) = true := by
 unfold namesE at h
 split at h
 ·cases h
 obtain ⟨s, hs⟩ : ∃ s, names[x]? = some s := ⟨_, List.getElem?_eq_getElem hx⟩
 have hg : names.getD x [] = s := by rw [List.getD_eq_getElem?_getD, hs]; rfl
 obtain ⟨a1, _, a3⟩ := names_good names [] h x s hs
 rw [hg]
 refine ⟨a1, by rw [idxS_hit a3 hs]; rfl, ?_⟩
 rw [List.contains_iff_exists_mem_beq]
 exact ⟨s, List.mem_of_getElem? hs, by simp⟩
theorem used_of : ∀ (ts : List Tree) (acc : List (List UInt8)) (s : List UInt8), s ∈ ts.foldl usedStep acc → s ∈ acc ∨ ∃ k ∈ ts, k.op = 3 ∧ k.name = s
 | [], acc, s, h => .inl h
 | t :: ts, acc, s, h => by
  rcases used_of ts _ s h with h | ⟨k, hk, h3⟩
  ·unfold usedStep at h
   split at h
   ·rename_i hc
    rcases List.mem_append.1 h with h | h
    ·exact .inl h
    ·refine .inr ⟨t, List.mem_cons_self .., ?_, (List.mem_singleton.1 h).symm⟩
     simp at hc
     exact hc.1
   ·exact .inl h
  ·exact .inr ⟨k, List.mem_cons_of_mem _ hk, h3⟩
/-- The formula of a set is valid, and all its names are known. -/
theorem of_may {names : List (List UInt8)} {t : BT} {f : Nat} (hn : namesE names = 0) (ho : t.ok 0) (hl : ∀ x, hasVar x t → x < names.length) (hf : ∀ x, hasVar x t → f.testBit x = true) (hf7 : (featL f).length ≤ 7) :
  Fm.validB (ofT names t) = true ∧ knownB (ofT names t) names = true ∧ nT (ofT names t) ≤ 382 := by
 have hsz := of_nT (names := names) (m := 0) ho hf
 have h2 : (featL f).filter (fun k => decide (0 ≤ k)) = featL f := List.filter_eq_self.2 (fun k _ => by simp)
 rw [h2] at hsz
 have h3 : 2 ^ (featL f).length ≤ 2 ^ 7 := Nat.pow_le_pow_right (by decide) hf7
 have hsz2 : nT (ofT names t) ≤ 382 := by omega
 have hlv := of_lev (names := names) (m := 0) ho (by decide)
 refine ⟨?_, ?_, hsz2⟩
 ·rw [← Fm.refValid_eq]
  unfold Fm.refValid
  have ha : (Fm.rowT (ofT names t)).all Fm.oneB = true := by
   rw [List.all_eq_true]
   refine of_all (P := fun k => Fm.oneB k = true) (fun b => by cases b <;> rfl) (fun nm => rfl) (fun op a b h => by rcases h with rfl | rfl <;> rfl) (fun a b c => rfl) t fun x hx => ?_
   have := (names_at hn (hl x hx)).1
   show (if (3 : Int) = 3 then decide (([] : List Tree).length = 0) && Fm.isNameB (names.getD x []) else _) = true
   rw [if_pos rfl, this]
   rfl
  have hl2 : (Fm.rowT (ofT names t)).length ≤ 1000 := Nat.le_trans hsz2 (by decide)
  have hl3 : Fm.levT (ofT names t) ≤ 64 := by omega
  rw [ha, decide_eq_true hl2, decide_eq_true hl3]
  rfl
 ·unfold knownB
  rw [List.all_eq_true]
  intro s hs
  unfold usedF at hs
  rcases used_of _ [] s hs with h | ⟨k, hk, h3, rfl⟩
  ·cases h
  ·have key := of_all (P := fun k => k.op = 3 → names.contains k.name = true) (names := names) (fun b => by cases b <;> simp [Tree.op]) (fun nm => by simp [Tree.op]) (fun op a b h => by rcases h with rfl | rfl <;> simp [Tree.op]) (fun a b c => by simp [Tree.op]) t (fun x hx _ => (names_at hn (hl x hx)).2.2) k hk
   exact key h3
end Go.Proofs.YtkgllhkhdjodeaaGreat

namespace Go.Proofs.YtkgllhkhdjodeaaGreat
open Go Go.Eng Go.Proofs Dg
set_option maxRecDepth 100000 in
theorem Of1_c (names : List (List UInt8)) (na : Option Addr) (nc bn i : Nat) (nm : List UInt8) (hnm : names[i]? = some nm) (lo hi : Tree) (la ha : Option Addr) (lc hc : Nat) (Gl Gh E : List Nat) (hsz : 2 + nT hi + nT lo ≤ 1000) (wb w : World) (hbn : w.cell? ⟨bn, 0, none⟩ = some (.slice na names.length nc)) (hnr : RdS w names na)
  (hrl : rdT wb lo Gl (tv lo la lc)) (hrh : rdT wb hi Gh (tv hi ha hc)) (hbl : ∀ k ∈ Gl, k < wb.heap.size ∧ k ∈ E) (hbh : ∀ k ∈ Gh, k < wb.heap.size ∧ k ∈ E) :
  Calls Tryz.prog 64 ([] ++ [Value.int .i64 (i : Int), .agg (szL (lo, la, lc)).toArray, .agg (szL (hi, ha, hc)).toArray] ++ [pp bn]).toArray w fun e w' => ∃ y : ShZ, e = .returned (.agg (szL ((shapeT (.mk 3 nm []) lo hi), y.2.1, y.2.2)).toArray) ∧ St w [] [shrE E wb y.1 (shapeT (.mk 3 nm []) lo hi) (tv (shapeT (.mk 3 nm []) lo hi) y.2.1 y.2.2)] w' := by
 obtain ⟨nb, off, hna, hcell⟩ := hnr i nm hnm
 subst hna
 refine enter Tryz.func64 rfl Tryz.ntmps64 rfl (St.init _) ?_
 refine jN 3 ?_
 refine WL.boxN rfl rfl (fun b5 => ?_)
 refine jN 1 ?_
 refine WL.boxN rfl rfl (fun b6 => ?_)
 refine jN 1 ?_
 refine WL.alloc F.zero108 rfl (fun b7 => ?_)
 refine jN 3 ?_
 refine WC.drawsL (by kernel_rfl) (FactsOk.cons (ds := [7, 8]) (LoadOk.by (Y := fun w => w.cell? ⟨bn, 0, none⟩ = some (.slice (some ⟨nb, off, none⟩) names.length nc)) (fun w hS => hS.oldc hbn (by simp))) (FactsOk.cons (ds := [7, 8]) (LoadOk.by (Y := fun w => w.cell? ⟨nb, off + i * 1, none⟩ = some (.string (str nm))) (fun w hS => by rw [Nat.mul_one]; exact hS.oldc hcell (by simp))) (FactsOk.cons (ds := [7, 8]) (LoadOk.whole (t := 5) rfl jM) (FactsOk.cons (ds := [7, 8]) (LoadOk.whole (t := 6) rfl jM) (FactsOk.nil))))) ?_
 refine jF 0 0 rfl rfl (Yl.load1 F.one25 rfl) ?_
 refine jT 1 rfl (Yl.move rfl) ?_
 refine jT 2 rfl (Yl.indexAddr (i := i) F.sl25 rfl rfl (List.getElem?_eq_some_iff.1 hnm).1) ?_
 refine jF 3 1 rfl rfl (Yl.load1 F.one9 rfl) ?_
 refine jT 4 rfl (Yl.build F.stT24 rfl jB) ?_
 refine jF 5 2 rfl rfl (Yl.loadN F.agg108 rfl rfl) ?_
 refine jF 6 3 rfl rfl (Yl.loadN F.agg108 rfl rfl) ?_
 refine jA 7 rfl ?_
 refine jC (β := ShZ) (res := fun y => .agg (szL ((shapeT (.mk 3 nm []) lo hi), y.2.1, y.2.2)).toArray) (cs := fun y => [shrE E wb y.1 (shapeT (.mk 3 nm []) lo hi) (tv (shapeT (.mk 3 nm []) lo hi) y.2.1 y.2.2)]) F.fun65 rfl (fun w hS _ => shape_c nm none 0 lo hi la ha lc hc Gl Gh E hsz wb w hrl hrh hbl hbh) (fun y => ?_)
 refine jG ?_
 refine jA 8 rfl ?_
 refine WL.storeN F.agg108 rfl rfl rfl (szL_one _) jU (by repeat constructor) ?_
 refine jG ?_
 refine jD ?_
 refine jN 2 ?_
 refine WQ.ret (rs := [.cell 7 108]) rfl (.cellN F.agg108 rfl jM rfl .nil) (fun w hS => ⟨y, rfl, (jK hS)⟩)

theorem names_24 {names : List (List UInt8)} (h : namesE names = 0) : names.length ≤ 24 := by
 unfold namesE at h
 split at h
 ·cases h
 ·omega
theorem rd_none {w : World} {l : List Dec} {a : Option Addr} (h : RdDec w l a) : RdDecO w l a [] := fun j u hu => by
 obtain ⟨b, off, e1, e2⟩ := h j u hu
 exact ⟨b, off, e1, e2, by simp⟩
theorem sub_trans : ∀ {t s r : BT}, subT r s → subT s t → subT r t
 | .lf b, s, r, h, hs => by rw [show s = .lf b from hs] at h; exact h
 | .nd v lo hi, s, r, h, hs => by
  rcases hs with rfl | hs | hs
  ·exact h
  ·exact .inr (.inl (sub_trans h hs))
  ·exact .inr (.inr (sub_trans h hs))

/-- What the pass over the nodes knows. -/
structure OfI (names : List (List UInt8)) (la : List Dec) (out : List SzT) (s : List Nat × List SzT) : Prop where
 eq : s.2 = out
 two : 2 ≤ out.length
 at' : ∀ (k : Nat) (z : SzT), out[k]? = some z → z.1 = ofT names (trs la k)
theorem OfI.nil (names : List (List UInt8)) (la : List Dec) : OfI names la [(.mk 1 [] [], none, 0), (.mk 2 [] [], none, 0)] ([], [(.mk 1 [] [], none, 0), (.mk 2 [] [], none, 0)]) := by
 refine ⟨rfl, by simp, fun k z hk => ?_⟩
 have hl := (List.getElem?_eq_some_iff.1 hk).1
 simp at hl
 rcases k with _ | _ | k
 ·simp only [List.getElem?_cons_zero, Option.some.injEq] at hk; subst hk; rw [(trs_zero la).1]; rfl
 ·simp only [Nat.zero_add, List.getElem?_cons_succ, List.getElem?_cons_zero, Option.some.injEq] at hk; subst hk; rw [(trs_zero la).2]; rfl
 ·omega
theorem ts_init (w : World) : St w [] [tsC [] [(.mk 1 [] [], none, 0), (.mk 2 [] [], none, 0)]] w := by
 have hr : ∀ op : Int, rdT w (.mk op [] []) [] (tv (.mk op [] []) none 0) := fun op => by
  simp only [rdT]
  exact ⟨_, rfl, .inl ⟨trivial, trivial, none, 0, rfl⟩⟩
 refine ⟨rfl, rfl, rfl, Nat.le_refl _, fun _ _ _ => rfl, fun c hc => ?_, fun c hc k hk => ?_, List.pairwise_singleton _ _⟩
 ·rw [List.mem_singleton.1 hc]
  intro x hx
  simp only [List.mem_cons, List.not_mem_nil, or_false] at hx
  rcases hx with rfl | rfl
  ·exact ⟨[], by simp, hr 1⟩
  ·exact ⟨[], by simp, hr 2⟩
 ·rw [List.mem_singleton.1 hc] at hk
  cases hk
theorem of_join (names : List (List UInt8)) (na : Option Addr) (nc bn : Nat) (t : BT) (ho : t.ok 0) (hl : ∀ x, hasVar x t → x < names.length) (hsz : ∀ s, subT s t → nT (ofT names s) ≤ 382) (w0 : World) (hbn : w0.cell? ⟨bn, 0, none⟩ = some (.slice na names.length nc)) (hnr : RdS w0 names na)
  (out : List SzT) (s : List Nat × List SzT) (x : Dec) (z1 z2 : SzT) (w1 : World) (hx : (canon t).1[out.length - 2]? = some x) (hI : OfI names (canon t).1 out s) (h1 : out[x.2.1]? = some z1) (h2 : out[x.2.2]? = some z2) (hS0 : St w0 [] [] w1) (hS : St w1 s.1 [tsC s.1 s.2] w1) :
  Calls Tryz.prog 64 ([] ++ [Value.int .i64 (x.1 : Int), .agg (szL z1).toArray, .agg (szL z2).toArray] ++ [pp bn]).toArray w1 fun e w' => ∃ y : { y : (List Nat × List SzT) × SzT // OfI names (canon t).1 (out ++ [y.2]) y.1 }, e = .returned (.agg (szL y.1.2).toArray) ∧ St w1 s.1 [tsC y.1.1.1 y.1.1.2] w' := by
 have hmk := canon_mk ho
 have hk9 := (List.getElem?_eq_some_iff.1 hx).1
 have htr := hmk.at hx
 have h2o := hI.two
 rw [show out.length - 2 + 2 = out.length by omega] at htr
 have hsub : subT (trs (canon t).1 out.length) t := by
  have := canon_sub (t := t) hk9
  rwa [show out.length - 2 + 2 = out.length by omega] at this
 rw [htr] at hsub
 have hv : x.1 < names.length := hl x.1 (subT_var hsub (.inl rfl))
 have hs1 : subT (trs (canon t).1 x.2.1) t := sub_trans (show subT (trs (canon t).1 x.2.1) (.nd x.1 (trs (canon t).1 x.2.1) (trs (canon t).1 x.2.2)) from .inr (.inl (subT_self _))) hsub
 have hs2 : subT (trs (canon t).1 x.2.2) t := sub_trans (show subT (trs (canon t).1 x.2.2) (.nd x.1 (trs (canon t).1 x.2.1) (trs (canon t).1 x.2.2)) from .inr (.inr (subT_self _))) hsub
 have e1 := hI.at' _ _ h1
 have e2 := hI.at' _ _ h2
 have b1 := hsz _ hs1
 have b2 := hsz _ hs2
 rw [← e1] at b1
 rw [← e2] at b2
 obtain ⟨F, l⟩ := s
 have hl2 : l = out := hI.eq
 subst hl2
 have hok := hS.ok _ (List.mem_cons_self ..)
 obtain ⟨G1, g1, r1⟩ := hok z1 (List.mem_of_getElem? h1)
 obtain ⟨G2, g2, r2⟩ := hok z2 (List.mem_of_getElem? h2)
 have hbd : ∀ k ∈ F, k < w1.heap.size := fun k hk => (hS.bnd _ (List.mem_cons_self ..) k hk).1
 obtain ⟨t1, a1, c1⟩ := z1
 obtain ⟨t2, a2, c2⟩ := z2
 refine (Of1_c names na nc bn x.1 (names.getD x.1 []) (by rw [List.getD_eq_getElem?_getD, List.getElem?_eq_getElem hv]; rfl) t1 t2 a1 a2 c1 c2 G1 G2 F (by dsimp only at b1 b2; omega) w1 w1 (hS0.oldc hbn (by simp)) (hnr.next hS0) r1 r2 (fun k hk => ⟨hbd k (g1 k hk), g1 k hk⟩) (fun k hk => ⟨hbd k (g2 k hk), g2 k hk⟩)).mono ?_
 rintro e w' ⟨y, he, hS2⟩
 refine ⟨⟨((F ++ y.1, l ++ [(shapeT (.mk 3 (names.getD x.1 []) []) t1 t2, y.2.1, y.2.2)]), (shapeT (.mk 3 (names.getD x.1 []) []) t1 t2, y.2.1, y.2.2)), ⟨rfl, by simp; omega, fun k z hk => ?_⟩⟩, he, tsC_more hS hS2⟩
 by_cases hkl : k < l.length
 ·rw [List.getElem?_append_left hkl] at hk
  exact hI.at' k z hk
 ·rw [List.getElem?_append_right (by omega)] at hk
  have hl9 := (List.getElem?_eq_some_iff.1 hk).1
  simp at hl9
  have hke : k = l.length := by omega
  subst hke
  rw [Nat.sub_self, List.getElem?_cons_zero] at hk
  cases hk
  rw [htr]
  show shapeT _ t1 t2 = shapeT _ (ofT names _) (ofT names _)
  rw [show t1 = _ from e1, show t2 = _ from e2]

set_option maxRecDepth 100000 in
theorem Of_ok (t : BT) (a : Option Addr) (c : Nat) (names : List (List UInt8)) (na : Option Addr) (nc : Nat) (hcap : names.length ≤ nc) (hll : names.length ≤ 1099511627776) (hn : namesE names = 0) (hs : supT (canon t).1 >>> names.length = 0) (hl : ∀ x, hasVar x t → x < names.length) (hsz : ∀ s, subT s t → nT (ofT names s) ≤ 382) (hmay : Fm.validB (ofT names t) = true ∧ knownB (ofT names t) names = true ∧ nT (ofT names t) ≤ 382) (w : World) (ht : RdD w t a) (hnr : RdS w names na) :
  Calls Tryz.prog 23 [dval t a c, .slice na names.length nc].toArray w fun e w' => ∃ y : List Nat × Option Addr × Nat, e = .returned (.tuple #[tv (ofT names t) y.2.1 y.2.2, .int .i64 0]) ∧ St w [] [own y.1 (ofT names t) (tv (ofT names t) y.2.1 y.2.2)] w' := by
 have hl24 := names_24 hn
 have hmk := canon_mk ht.1
 have hcl := canon_len ht.1
 refine enter Tryz.func23 rfl Tryz.ntmps23 rfl (St.init _) ?_
 refine jN 3 ?_
 refine WL.boxN rfl rfl (fun b2 => ?_)
 refine jN 1 ?_
 refine WL.box1 rfl rfl rfl (fun b3 => ?_)
 refine jN 1 ?_
 refine WL.alloc F.zero24 rfl (fun b4 => ?_)
 refine jN 10 ?_
 refine WL.callV F.fun43 rfl rfl (fun w hS => check_c names na nc hcap (by omega) w (hnr.next hS)) ?_
 rw [hn]
 refine jN 17 ?_
 refine WC.drawsL (by kernel_rfl) (FactsOk.cons (ds := [1]) (LoadOk.whole (t := 2) rfl jM) (FactsOk.cons (ds := []) (LoadOk.one (t := 3) (off := 0) rfl jM rfl) (FactsOk.nil))) ?_
 refine jF 0 0 rfl rfl (Yl.loadN F.agg35 rfl rfl) ?_
 refine jF 2 1 rfl rfl (Yl.load1 F.one25 rfl) ?_
 refine jT 3 rfl (Yl.lenSl F.und25 rfl) ?_
 refine jA 1 rfl ?_
 refine WL.callV F.fun35 rfl rfl (fun w hS => Support_c t a c w (ht.next0 hS)) ?_
 refine WD.on (closed_of (by decide +kernel)) (fun w hS => Sx.gone rfl (Sx.keep (hS.cell jM rfl) (Sx.none))) ?_
 refine jT 4 rfl (Yl.bin rfl rfl (fun w => run_shr (by omega) _ _ _ w)) ?_
 refine jT 5 rfl (Yl.neI rfl rfl) ?_
 refine jD ?_
 refine jN 1 ?_
 refine WC.cond rfl (fun h19 => ?_) (fun h19 => ?_)
 ·exfalso; rw [hs] at h19; simp at h19
 ·refine jN 3 ?_
  refine WC.cutPE (α := Nat × { q : (List Nat × List SzT) × SzT // q.1.2 = q.1.2 ∧ q.2 ∈ q.1.2 ∧ q.2.1 = (ofT names t) }) (fun z => [(2, pp b2), (3, pp b3), (4, pp b4), (5, .int .i64 0), (7, pp z.1)]) (fun z => [pt z.1 (szL z.2.1.2) 108, tsC z.2.1.1.1 z.2.1.1.2, pt b3 [.slice na names.length nc] 25, pt b2 [.slice a (canon t).1.length c, .int .i64 ((canon t).2 : Int)] 35, pt b4 [.int .u8 0, .string (str []), .slice none 0 0] 24]) (fun c a d v w h => by cases d <;> exact h) (fun Q' hP hQ => ?_) (fun xE => ?_)
  ·refine WC.drawsL (by kernel_rfl) (FactsOk.cons (ds := [6, 8]) (LoadOk.whole (t := 2) rfl jM) (FactsOk.nil)) ?_
   refine jF 0 0 rfl rfl (Yl.loadN F.agg35 rfl rfl) ?_
   refine jT 5 rfl (Yl.makeFunc (us := []) (vs := [pp b3]) rfl rfl) ?_
   refine WD.two (i := 1) (j := 7) (by decide +kernel) rfl rfl ?_ ?_
   ·refine WL.callV F.fun63 rfl rfl (fun w hS => node_c 1 none 0 0 w) ?_
    refine WD.on (closed_of (by decide +kernel)) (fun w hS => Sx.keep ((fun j v hv => by rw [Nat.zero_add]; exact hS.cell jM hv)) (Sx.none)) ?_
    refine jT 2 rfl (Yl.build F.stT108 rfl jB) ?_
    refine WD.two (i := 3) (j := 7) (by decide +kernel) rfl rfl ?_ ?_
    ·refine WL.callV F.fun63 rfl rfl (fun w hS => node_c 2 none 0 0 w) ?_
     refine WD.on (closed_of (by decide +kernel)) (fun w hS => Sx.keep ((fun j v hv => by rw [Nat.zero_add]; exact hS.cell jM hv)) (Sx.none)) ?_
     refine jT 4 rfl (Yl.build F.stT108 rfl jB) ?_
     refine WD.two (i := 6) (j := 7) (by decide +kernel) rfl rfl ?_ ?_
     ·refine jC (β := { y : List SzT × (List Nat × List SzT) × SzT // OfI names (canon t).1 y.1 y.2.1 ∧ y.1.length = (canon t).1.length + 2 ∧ y.1[(canon t).2]? = some y.2.2 }) (res := fun y => .agg (szL y.1.2.2).toArray) (cs := fun y => [tsC y.1.2.1.1 y.1.2.1.2]) F.fun62 rfl (fun w hS _ => FoldS_c (σ := List Nat × List SzT) (τ := SzT) _ _ _ _ szL_one (fun s => tsC s.1 s.2) (fun s => s.1) (fun s => tsC_fp s.1 s.2) 64 F.fun64 [] [pp b3] (canon t).1 a c (canon t).2 (.mk 1 [] [], none, 0) (.mk 2 [] [], none, 0) (OfI names (canon t).1) (Nat.le_of_lt hcl) (fun k x hx => ⟨(hmk.kid k x hx).2.1, (hmk.kid k x hx).2.2.1⟩) (canon_at t).1 ([], [(.mk 1 [] [], none, 0), (.mk 2 [] [], none, 0)]) (OfI.nil _ _) w (fun out s x z1 z2 w1 hx hI h1 h2 hS0 hS1 => of_join names na nc b3 t ht.1 hl hsz w (hS.cell (cs := [.slice na names.length nc]) jM rfl) (hnr.next hS) out s x z1 z2 w1 hx hI h1 h2 hS0 hS1) (rd_none (ht.next0 hS).2) (ts_init w)) (fun ⟨⟨out, ⟨F9, l9⟩, z⟩, hI, hol, hz⟩ => ?_)
      refine jG ?_
      refine jA 7 rfl ?_
      refine WL.alloc F.zero108 rfl (fun b7 => ?_)
      refine jG ?_
      refine jA 8 rfl ?_
      refine WL.storeN F.agg108 rfl rfl rfl (szL_one _) jU (by repeat constructor) ?_
      refine jG ?_
      refine jD ?_
      have hzt : z.1 = (ofT names t) := by rw [hI.at' _ _ hz, (canon_at t).2]
      have hle : l9 = out := hI.eq
      dsimp only
      refine WQ.chunks (C' := [pt b7 (szL z) 108, tsC F9 l9, pt b3 [.slice na names.length nc] 25, pt b2 [.slice a (canon t).1.length c, .int .i64 ((canon t).2 : Int)] 35, pt b4 [.int .u8 0, .string (str []), .slice none 0 0] 24]) (fun w hS => (jK hS)) ?_
      exact WQ.byCut (hQ (b7, ⟨((F9, l9), z), rfl, (by dsimp only; rw [hle]; exact List.mem_of_getElem? hz), hzt⟩)) ⟨rfl, rfl, rfl, rfl, rfl, trivial⟩
     ·refine WL.alloc F.zero108 rfl (fun b7 => ?_)
      refine WD.on (closed_of (by decide +kernel)) (fun w hS => Sx.keep ((fun j v hv => by rw [Nat.zero_add]; exact hS.cell jM hv)) (Sx.none)) ?_
      refine jA 6 rfl ?_
      refine jC (β := { y : List SzT × (List Nat × List SzT) × SzT // OfI names (canon t).1 y.1 y.2.1 ∧ y.1.length = (canon t).1.length + 2 ∧ y.1[(canon t).2]? = some y.2.2 }) (res := fun y => .agg (szL y.1.2.2).toArray) (cs := fun y => [tsC y.1.2.1.1 y.1.2.1.2]) F.fun62 rfl (fun w hS _ => FoldS_c (σ := List Nat × List SzT) (τ := SzT) _ _ _ _ szL_one (fun s => tsC s.1 s.2) (fun s => s.1) (fun s => tsC_fp s.1 s.2) 64 F.fun64 [] [pp b3] (canon t).1 a c (canon t).2 (.mk 1 [] [], none, 0) (.mk 2 [] [], none, 0) (OfI names (canon t).1) (Nat.le_of_lt hcl) (fun k x hx => ⟨(hmk.kid k x hx).2.1, (hmk.kid k x hx).2.2.1⟩) (canon_at t).1 ([], [(.mk 1 [] [], none, 0), (.mk 2 [] [], none, 0)]) (OfI.nil _ _) w (fun out s x z1 z2 w1 hx hI h1 h2 hS0 hS1 => of_join names na nc b3 t ht.1 hl hsz w (hS.cell (cs := [.slice na names.length nc]) jM rfl) (hnr.next hS) out s x z1 z2 w1 hx hI h1 h2 hS0 hS1) (rd_none (ht.next0 hS).2) (ts_init w)) (fun ⟨⟨out, ⟨F9, l9⟩, z⟩, hI, hol, hz⟩ => ?_)
      refine jG ?_
      refine jA 8 rfl ?_
      refine WL.storeN F.agg108 rfl rfl rfl (szL_one _) jU (by repeat constructor) ?_
      refine jG ?_
      refine jD ?_
      have hzt : z.1 = (ofT names t) := by rw [hI.at' _ _ hz, (canon_at t).2]
      have hle : l9 = out := hI.eq
      dsimp only
      refine WQ.chunks (C' := [pt b7 (szL z) 108, tsC F9 l9, pt b3 [.slice na names.length nc] 25, pt b2 [.slice a (canon t).1.length c, .int .i64 ((canon t).2 : Int)] 35, pt b4 [.int .u8 0, .string (str []), .slice none 0 0] 24]) (fun w hS => (jK hS)) ?_
      exact WQ.byCut (hQ (b7, ⟨((F9, l9), z), rfl, (by dsimp only; rw [hle]; exact List.mem_of_getElem? hz), hzt⟩)) ⟨rfl, rfl, rfl, rfl, rfl, trivial⟩
    ·refine WL.alloc F.zero108 rfl (fun b7 => ?_)
     refine WD.on (closed_of (by decide +kernel)) (fun w hS => Sx.keep ((fun j v hv => by rw [Nat.zero_add]; exact hS.cell jM hv)) (Sx.none)) ?_
     refine jA 3 rfl ?_
     refine WL.callV F.fun63 rfl rfl (fun w hS => node_c 2 none 0 0 w) ?_
     refine WD.on (closed_of (by decide +kernel)) (fun w hS => Sx.keep ((fun j v hv => by rw [Nat.zero_add]; exact hS.cell jM hv)) (Sx.none)) ?_
     refine jT 4 rfl (Yl.build F.stT108 rfl jB) ?_
     refine jA 6 rfl ?_
     refine jC (β := { y : List SzT × (List Nat × List SzT) × SzT // OfI names (canon t).1 y.1 y.2.1 ∧ y.1.length = (canon t).1.length + 2 ∧ y.1[(canon t).2]? = some y.2.2 }) (res := fun y => .agg (szL y.1.2.2).toArray) (cs := fun y => [tsC y.1.2.1.1 y.1.2.1.2]) F.fun62 rfl (fun w hS _ => FoldS_c (σ := List Nat × List SzT) (τ := SzT) _ _ _ _ szL_one (fun s => tsC s.1 s.2) (fun s => s.1) (fun s => tsC_fp s.1 s.2) 64 F.fun64 [] [pp b3] (canon t).1 a c (canon t).2 (.mk 1 [] [], none, 0) (.mk 2 [] [], none, 0) (OfI names (canon t).1) (Nat.le_of_lt hcl) (fun k x hx => ⟨(hmk.kid k x hx).2.1, (hmk.kid k x hx).2.2.1⟩) (canon_at t).1 ([], [(.mk 1 [] [], none, 0), (.mk 2 [] [], none, 0)]) (OfI.nil _ _) w (fun out s x z1 z2 w1 hx hI h1 h2 hS0 hS1 => of_join names na nc b3 t ht.1 hl hsz w (hS.cell (cs := [.slice na names.length nc]) jM rfl) (hnr.next hS) out s x z1 z2 w1 hx hI h1 h2 hS0 hS1) (rd_none (ht.next0 hS).2) (ts_init w)) (fun ⟨⟨out, ⟨F9, l9⟩, z⟩, hI, hol, hz⟩ => ?_)
     refine jG ?_
     refine jA 8 rfl ?_
     refine WL.storeN F.agg108 rfl rfl rfl (szL_one _) jU (by repeat constructor) ?_
     refine jG ?_
     refine jD ?_
     have hzt : z.1 = (ofT names t) := by rw [hI.at' _ _ hz, (canon_at t).2]
     have hle : l9 = out := hI.eq
     dsimp only
     refine WQ.chunks (C' := [pt b7 (szL z) 108, tsC F9 l9, pt b3 [.slice na names.length nc] 25, pt b2 [.slice a (canon t).1.length c, .int .i64 ((canon t).2 : Int)] 35, pt b4 [.int .u8 0, .string (str []), .slice none 0 0] 24]) (fun w hS => (jK hS)) ?_
     exact WQ.byCut (hQ (b7, ⟨((F9, l9), z), rfl, (by dsimp only; rw [hle]; exact List.mem_of_getElem? hz), hzt⟩)) ⟨rfl, rfl, rfl, rfl, rfl, trivial⟩
   ·refine WL.alloc F.zero108 rfl (fun b7 => ?_)
    refine WD.on (closed_of (by decide +kernel)) (fun w hS => Sx.keep ((fun j v hv => by rw [Nat.zero_add]; exact hS.cell jM hv)) (Sx.none)) ?_
    refine jA 1 rfl ?_
    refine WL.callV F.fun63 rfl rfl (fun w hS => node_c 1 none 0 0 w) ?_
    refine WD.on (closed_of (by decide +kernel)) (fun w hS => Sx.keep ((fun j v hv => by rw [Nat.zero_add]; exact hS.cell jM hv)) (Sx.none)) ?_
    refine jT 2 rfl (Yl.build F.stT108 rfl jB) ?_
    refine jA 3 rfl ?_
    refine WL.callV F.fun63 rfl rfl (fun w hS => node_c 2 none 0 0 w) ?_
    refine WD.on (closed_of (by decide +kernel)) (fun w hS => Sx.keep ((fun j v hv => by rw [Nat.zero_add]; exact hS.cell jM hv)) (Sx.none)) ?_
    refine jT 4 rfl (Yl.build F.stT108 rfl jB) ?_
    refine jA 6 rfl ?_
    refine jC (β := { y : List SzT × (List Nat × List SzT) × SzT // OfI names (canon t).1 y.1 y.2.1 ∧ y.1.length = (canon t).1.length + 2 ∧ y.1[(canon t).2]? = some y.2.2 }) (res := fun y => .agg (szL y.1.2.2).toArray) (cs := fun y => [tsC y.1.2.1.1 y.1.2.1.2]) F.fun62 rfl (fun w hS _ => FoldS_c (σ := List Nat × List SzT) (τ := SzT) _ _ _ _ szL_one (fun s => tsC s.1 s.2) (fun s => s.1) (fun s => tsC_fp s.1 s.2) 64 F.fun64 [] [pp b3] (canon t).1 a c (canon t).2 (.mk 1 [] [], none, 0) (.mk 2 [] [], none, 0) (OfI names (canon t).1) (Nat.le_of_lt hcl) (fun k x hx => ⟨(hmk.kid k x hx).2.1, (hmk.kid k x hx).2.2.1⟩) (canon_at t).1 ([], [(.mk 1 [] [], none, 0), (.mk 2 [] [], none, 0)]) (OfI.nil _ _) w (fun out s x z1 z2 w1 hx hI h1 h2 hS0 hS1 => of_join names na nc b3 t ht.1 hl hsz w (hS.cell (cs := [.slice na names.length nc]) jM rfl) (hnr.next hS) out s x z1 z2 w1 hx hI h1 h2 hS0 hS1) (rd_none (ht.next0 hS).2) (ts_init w)) (fun ⟨⟨out, ⟨F9, l9⟩, z⟩, hI, hol, hz⟩ => ?_)
    refine jG ?_
    refine jA 8 rfl ?_
    refine WL.storeN F.agg108 rfl rfl rfl (szL_one _) jU (by repeat constructor) ?_
    refine jG ?_
    refine jD ?_
    have hzt : z.1 = (ofT names t) := by rw [hI.at' _ _ hz, (canon_at t).2]
    have hle : l9 = out := hI.eq
    dsimp only
    refine WQ.chunks (C' := [pt b7 (szL z) 108, tsC F9 l9, pt b3 [.slice na names.length nc] 25, pt b2 [.slice a (canon t).1.length c, .int .i64 ((canon t).2 : Int)] 35, pt b4 [.int .u8 0, .string (str []), .slice none 0 0] 24]) (fun w hS => (jK hS)) ?_
    exact WQ.byCut (hQ (b7, ⟨((F9, l9), z), rfl, (by dsimp only; rw [hle]; exact List.mem_of_getElem? hz), hzt⟩)) ⟨rfl, rfl, rfl, rfl, rfl, trivial⟩
  obtain ⟨b7, ⟨⟨⟨F9, l9⟩, z⟩, _, hzm, hzt⟩⟩ := xE
  obtain ⟨zt, za, zc⟩ := z
  dsimp only at hzm hzt
  subst hzt
  show WQ _ _ _ _ _ _ [(2, pp b2), (3, pp b3), (4, pp b4), (5, .int .i64 0), (7, pp b7)] [pt b7 (szL ((ofT names t), za, zc)) 108, tsC F9 l9, pt b3 [.slice na names.length nc] 25, pt b2 [.slice a (canon t).1.length c, .int .i64 ((canon t).2 : Int)] 35, pt b4 [.int .u8 0, .string (str []), .slice none 0 0] 24]
  obtain ⟨hvb, hkn, hn382⟩ := hmay
  refine jN 12 ?_
  refine WA.splitB (i := 31) rfl (fun g31 => ?_) (fun g31 => ?_)
  ·exfalso; simp at g31; have : nT (ofT names t) ≤ 382 := hn382; omega
  ·refine jN 5 ?_
   refine WL.loadN F.agg24 rfl rfl (vs := [Value.int .u8 (ofT names t).op, .string (str (ofT names t).name), .slice za (ofT names t).kids.length zc]) rfl (fun w hS j v hv => hS.cell (cs := szL ((ofT names t), za, zc)) jM (by rw [Nat.zero_add]; rcases j with _ | _ | _ | j <;> first | exact hv | simp at hv)) ?_
   refine jN 2 ?_
   refine WL.callV F.fun42 rfl rfl (v := .bool true) (fun w hS => (by obtain ⟨G, _, hG⟩ := (hS.ok (tsC F9 l9) jM) _ hzm; have h9 := Valid_c (ofT names t) G za zc w hG; rw [hvb] at h9; exact h9)) ?_
   refine jN 15 ?_
   refine WL.loadN F.agg24 rfl rfl (vs := [Value.int .u8 (ofT names t).op, .string (str (ofT names t).name), .slice za (ofT names t).kids.length zc]) rfl (fun w hS j v hv => hS.cell (cs := szL ((ofT names t), za, zc)) jM (by rw [Nat.zero_add]; rcases j with _ | _ | _ | j <;> first | exact hv | simp at hv)) ?_
   refine jN 1 ?_
   refine jC (β := List Nat × Option Addr × Nat) (res := fun y => tv (ofT names t) y.2.1 y.2.2) (cs := fun y => [own y.1 (ofT names t) (tv (ofT names t) y.2.1 y.2.2)]) F.fun66 rfl (fun w hS _ => (by obtain ⟨G, _, hG⟩ := (hS.ok (tsC F9 l9) jM) _ hzm; exact Clo_c 382 (by decide) (ofT names t) w G za zc w hn382 hG (Ext.refl w))) (fun y => ?_)
   refine jN 7 ?_
   exact WQ.ret (rs := [.cell 4 24, .tmp 5]) rfl (.cellN F.agg24 rfl jM rfl (.tmp rfl .nil)) (fun w hS => ⟨y, rfl, (jK hS)⟩)

end Go.Proofs.YtkgllhkhdjodeaaGreat

namespace Go.Eng
open Go Go.RowKit
section
variable {P : Program} {kt : TypeId}
theorem run_equal3 {f0 f1 f2 : Field} (hu : P.underlying kt = some (.struct #[f0, f1, f2])) (h0 : IntF P f0 0) (h1 : IntF P f1 1) (h2 : IntF P f2 2) (hs : P.stoodInHeld kt = false) (a b : Nat × Nat × Nat) (w : World) : (Op.equal kt (enc3 a) (enc3 b)).run P w = .ok (decide (b = a)) w := by
 obtain ⟨a1, a2, a3⟩ := a
 obtain ⟨b1, b2, b3⟩ := b
 unfold enc3
 simp only
 show (Op.equalIn (9998 + 1 + 1) kt _ _).run P w = _
 rw [Op.equalIn]
 simp only [Sem.run_bind, run_underlying hu, Result.andThen_ok]
 have p0 := run_part_plain w h0.plain (xs := #[.int .i64 (a1 : Int), .int .i64 (a2 : Int), .int .i64 (a3 : Int)]) (off := 0) (v := .int .i64 (a1 : Int)) rfl
 have p1 := run_part_plain w h1.plain (xs := #[.int .i64 (a1 : Int), .int .i64 (a2 : Int), .int .i64 (a3 : Int)]) (off := 1) (v := .int .i64 (a2 : Int)) rfl
 have p2 := run_part_plain w h2.plain (xs := #[.int .i64 (a1 : Int), .int .i64 (a2 : Int), .int .i64 (a3 : Int)]) (off := 2) (v := .int .i64 (a3 : Int)) rfl
 have q0 := run_part_plain w h0.plain (xs := #[.int .i64 (b1 : Int), .int .i64 (b2 : Int), .int .i64 (b3 : Int)]) (off := 0) (v := .int .i64 (b1 : Int)) rfl
 have q1 := run_part_plain w h1.plain (xs := #[.int .i64 (b1 : Int), .int .i64 (b2 : Int), .int .i64 (b3 : Int)]) (off := 1) (v := .int .i64 (b2 : Int)) rfl
 have q2 := run_part_plain w h2.plain (xs := #[.int .i64 (b1 : Int), .int .i64 (b2 : Int), .int .i64 (b3 : Int)]) (off := 2) (v := .int .i64 (b3 : Int)) rfl
 have e0 := run_equal_int h0.int 9998 (a1 : Int) (b1 : Int) w
 have e1 := run_equal_int h1.int 9998 (a2 : Int) (b2 : Int) w
 have e2 := run_equal_int h2.int 9998 (a3 : Int) (b3 : Int) w
 simp only [run_program, Sem.run_bind, Result.andThen_ok, hs, Bool.false_eq_true, if_false]
 rw [← Array.forIn_toList]
 simp only [List.forIn_cons, List.forIn_nil, h0.name, h1.name, h2.name, h0.offset, h1.offset, h2.offset, ne_eq, not_false_eq_true, if_true, Sem.run_bind, p0, q0, e0, Result.andThen_ok]
 cases c0 : ((a1 : Int) == (b1 : Int)) with
 | false =>
  have : ¬ ((b1, b2, b3) = (a1, a2, a3)) := by
   simp only [beq_eq_false_iff_ne, ne_eq] at c0
   simp only [Prod.mk.injEq]; omega
  simp [this]
 | true =>
  simp only [Bool.not_true, Bool.false_eq_true, if_false, Sem.run_bind, Sem.run_pure, Result.andThen_ok, p1, q1, e1]
  cases c1 : ((a2 : Int) == (b2 : Int)) with
  | false =>
   have : ¬ ((b1, b2, b3) = (a1, a2, a3)) := by
    simp only [beq_eq_false_iff_ne, ne_eq] at c1
    simp only [Prod.mk.injEq]; omega
   simp [this]
  | true =>
   simp only [Bool.not_true, Bool.false_eq_true, if_false, Sem.run_bind, Sem.run_pure, Result.andThen_ok, p2, q2, e2]
   cases c2 : ((a3 : Int) == (b3 : Int)) with
   | false =>
    have : ¬ ((b1, b2, b3) = (a1, a2, a3)) := by
     simp only [beq_eq_false_iff_ne, ne_eq] at c2
     simp only [Prod.mk.injEq]; omega
    simp [this]
   | true =>
    have : (b1, b2, b3) = (a1, a2, a3) := by
     simp only [beq_iff_eq] at c0 c1 c2
     simp only [Prod.mk.injEq]; omega
    simp [this]
theorem run_equal3Of (h : threeB P kt = true) (a b : Nat × Nat × Nat) (w : World) : (Op.equal kt (enc3 a) (enc3 b)).run P w = .ok (decide (b = a)) w := by
 unfold threeB at h
 split at h
 ·rename_i fs hu
  split at h
  ·rename_i f0 f1 f2 he
   simp only [Bool.and_eq_true, Bool.not_eq_true'] at h
   exact run_equal3 (by rw [hu]) (IntF.of h.1.1.1) (IntF.of h.1.1.2) (IntF.of h.1.2) h.2 a b w
  ·cases h
 ·cases h
theorem run_neq3 (h : threeB P kt = true) (hg : P.eqGuardType P.depth kt = false) (a b : Nat × Nat × Nat) (x y : Operand) (w : World) :
  (do eqGuard .neq kt x y (enc3 a) (enc3 b); binOp .neq kt (enc3 a) (enc3 b) : Sem Value).run P w = .ok (.bool (!(decide (b = a)))) w := by
 have e := run_equal3Of h a b w
 simp only [enc3] at e ⊢
 simp [eqGuard, binOp, hg, e]
end
end Go.Eng

namespace Go.Proofs.YtkgllhkhdjodeaaGreat
open Go Go.Eng Go.Proofs Dg
theorem EqD_c (l : List Dec) (a a2 : Option Addr) (c c2 : Nat) (hll : l.length ≤ 1099511627776) (w : World) (hr : RdDec w l a) (hr2 : RdDec w l a2) : Pure Tryz.prog 82 [.slice a l.length c, .slice a2 l.length c2] w (.bool true) := by
 refine enter Tryz.func82 rfl Tryz.ntmps82 rfl (St.init _) ?_
 refine jN 21 ?_
 refine WC.cond rfl (fun h10 => ?_) (fun h10 => ?_)
 ·simp at h10
 ·refine jN 14 ?_
  refine WC.loop (α := Nat) (fun i => i ≤ l.length) (fun i => [(0, .slice a l.length c), (1, .slice a2 l.length c2), (12, .int .i64 (l.length : Int)), (13, .int .i64 (i : Int))]) (fun _ => []) (fun i => l.length - i) (0) ?_ ?_ ?_ ?_
  ·exact Nat.zero_le _
  ·exact ⟨rfl, rfl, rfl, rfl, trivial⟩
  ·rfl
  rintro i hi
  refine jN 7 ?_
  refine WC.cond rfl (fun h14 => ?_) (fun h14 => ?_)
  ·have hlt : i < l.length := by simpa using h14
   obtain ⟨x, hx⟩ : ∃ y, l[i]? = some y := ⟨_, List.getElem?_eq_getElem hlt⟩
   obtain ⟨b, off, rfl, hcell⟩ := hr.at hx
   obtain ⟨b2, off2, rfl, hcell2⟩ := hr2.at hx
   refine jN 13 ?_
   refine WC.drawsL (by kernel_rfl) (FactsOk.cons (ds := []) (LoadOk.by (Y := fun w => ∀ j v, [Value.int .i64 (x.1 : Int), .int .i64 (x.2.1 : Int), .int .i64 (x.2.2 : Int)][j]? = some v → w.cell? ⟨b, off + i * 3 + j, none⟩ = some v) (fun w hS => fun j v hv => hS.oldc (hcell j v hv) (by simp))) (FactsOk.cons (ds := []) (LoadOk.by (Y := fun w => ∀ j v, [Value.int .i64 (x.1 : Int), .int .i64 (x.2.1 : Int), .int .i64 (x.2.2 : Int)][j]? = some v → w.cell? ⟨b2, off2 + i * 3 + j, none⟩ = some v) (fun w hS => fun j v hv => hS.oldc (hcell2 j v hv) (by simp))) (FactsOk.nil))) ?_
   refine jT 0 rfl (Yl.move rfl) ?_
   refine jT 1 rfl (Yl.move rfl) ?_
   refine jT 2 rfl (Yl.indexAddr F.sl33 rfl rfl hlt) ?_
   refine jF 3 0 rfl rfl (Yl.loadN F.agg104 rfl rfl) ?_
   refine jT 4 rfl (Yl.move rfl) ?_
   refine jT 5 rfl (Yl.move rfl) ?_
   refine jT 6 rfl (Yl.indexAddr F.sl33 rfl rfl hlt) ?_
   refine jF 7 1 rfl rfl (Yl.loadN F.agg104 rfl rfl) ?_
   refine jT 8 rfl (Yl.bin rfl rfl (fun w => run_neq3 (by kernel_rfl) (by kernel_rfl) x x _ _ w)) ?_
   refine jD ?_
   refine jN 1 ?_
   refine WC.cond rfl (fun h24 => ?_) (fun h24 => ?_)
   ·simp at h24
   ·refine jN 9 ?_
    refine WQ.back (i + 1) ?_ ?_ ?_ ?_
    ·exact (by omega)
    ·omega
    ·exact ⟨rfl, rfl, rfl, rfl, trivial⟩
    ·rfl
  ·refine jN 12 ?_
   exact WQ.ret (rs := [.tmp 4]) rfl (.tmp rfl .nil) (fun w hS => ⟨rfl, hS⟩)

theorem Same_c (t : BT) (a a2 : Option Addr) (c c2 : Nat) (w : World) (ht : RdD w t a) (ht2 : RdD w t a2) : Pure Tryz.prog 33 [dval t a c, dval t a2 c2] w (.bool true) := by
 have hcl := Nat.le_of_lt (canon_len ht.1)
 refine enter Tryz.func33 rfl Tryz.ntmps33 rfl (St.init _) ?_
 refine jN 3 ?_
 refine WL.boxN rfl rfl (fun b2 => ?_)
 refine jN 1 ?_
 refine WL.boxN rfl rfl (fun b3 => ?_)
 refine jN 18 ?_
 refine WA.splitB (i := 10) rfl (fun g10 => ?_) (fun g10 => ?_)
 ·refine jN 14 ?_
  refine WL.callV F.fun82 rfl rfl (fun w hS => EqD_c _ a a2 c c2 (Nat.le_trans hcl (by decide)) w (ht.next0 hS).2 (ht2.next0 hS).2) ?_
  refine jN 7 ?_
  exact WQ.ret (rs := [.tmp 4]) rfl (.tmp rfl .nil) (fun w hS => ⟨rfl, hS.sublist (List.nil_sublist _)⟩)
 ·exfalso; simp at g10

end Go.Proofs.YtkgllhkhdjodeaaGreat

namespace Go.Proofs.YtkgllhkhdjodeaaGreat
open Go Go.Eng Go.Proofs Dg
abbrev nm24 : List (List UInt8) := [[97],[98],[99],[100],[101],[102],[103],[104],[105],[106],[107],[108],[109],[110],[111],[112],[113],[114],[115],[116],[117],[118],[119],[120]]
theorem nm24_ok : namesE nm24 = 0 := by decide +kernel
theorem mayD_of {t : BT} {names : List (List UInt8)} (hn : namesE names = 0) (h : Fm.validB (ofT names t) = true ∧ knownB (ofT names t) names = true ∧ nT (ofT names t) ≤ 382) : mayD (ofT names t) names = 0 := by
 unfold mayD
 rw [if_neg (by rw [h.1]; simp), if_neg (by rw [hn]; simp), if_pos h.2.1]
theorem of_ev' {t : BT} {names : List (List UInt8)} (hn : namesE names = 0) (hl : ∀ x, hasVar x t → x < names.length) : ∀ cf, evT names (ofT names t) cf = t.ev cf := of_ev fun x hx => (names_at hn (hl x hx)).2.1
theorem of_szs {t : BT} {names : List (List UInt8)} {f : Nat} (ho : t.ok 0) (hf : ∀ x, hasVar x t → f.testBit x = true) (hf7 : (featL f).length ≤ 7) : ∀ s, subT s t → nT (ofT names s) ≤ 382 := fun s hs => by
 have hsz := of_nT (names := names) (m := 0) (subT_ok ho hs) (fun x hx => hf x (subT_var hs hx))
 have h2 : (featL f).filter (fun k => decide (0 ≤ k)) = featL f := List.filter_eq_self.2 (fun k _ => by simp)
 rw [h2] at hsz
 have h3 : 2 ^ (featL f).length ≤ 2 ^ 7 := Nat.pow_le_pow_right (by decide) hf7
 omega
theorem var_24 {t : BT} (ho : t.ok 0) {k : Nat} (hk : hasVar k t) : k < 24 := Nat.lt_of_not_le fun hge => by
 have h := Nat.testBit_lt_two_pow (Nat.lt_of_lt_of_le (supT_24 ho) (Nat.pow_le_pow_right (by decide) hge))
 rw [(sup_var ho k).2 hk] at h
 cases h
theorem sup_sh {t : BT} (ho : t.ok 0) : supT (canon t).1 >>> 24 = 0 := by
 rw [Nat.shiftRight_eq_div_pow]
 exact Nat.div_eq_of_lt (supT_24 ho)
theorem Diag_back (t : BT) (names : List (List UInt8)) (ho : t.ok 0) (hm : mayD (ofT names t) names = 0) (hev : ∀ cf, evT names (ofT names t) cf = t.ev cf) (G : List Nat) (a : Option Addr) (c : Nat) (na : Option Addr) (nc : Nat) (hcap : names.length ≤ nc) (hll : names.length ≤ 1099511627776) (w : World) (hr : rdT w (ofT names t) G (tv (ofT names t) a c)) (hnr : RdS w names na) :
  Calls Tryz.prog 12 [tv (ofT names t) a c, .slice na names.length nc].toArray w fun e w' => ∃ x : Option Addr × Nat, e = .returned (.tuple #[dval t x.1 x.2, .int .i64 0]) ∧ St w [] [dC x.1 x.2 t] w' := by
 refine (Diagram_c (ofT names t) names G a c na nc hcap hll w hr hnr).mono ?_
 rintro e w2 ⟨⟨⟨zt, za, zc⟩, hzo, hze⟩, h1, h2⟩
 obtain rfl : zt = t := BT.unique hzo ho (fun cf => by rw [hze]; show (decide _ && evT names (ofT names t) cf) = _; rw [decide_eq_true hm, hev]; rfl)
 exact ⟨(za, zc), h1.trans (congrArg (fun k : Int => Ending.returned (.tuple #[dval zt za zc, .int .i64 k])) hm), h2⟩
theorem Eval_back (t : BT) (names : List (List UInt8)) (M : Nat) (hM : M < 4294967296) (hm : mayD (ofT names t) names = 0) (hev : ∀ cf, evT names (ofT names t) cf = t.ev cf) (G : List Nat) (a : Option Addr) (c : Nat) (na : Option Addr) (nc : Nat) (hcap : names.length ≤ nc) (hll : names.length ≤ 1099511627776) (w : World) (hr : rdT w (ofT names t) G (tv (ofT names t) a c)) (hnr : RdS w names na) :
  Pure Tryz.prog 10 [tv (ofT names t) a c, .slice na names.length nc, .int .u32 (M : Int)] w (.tuple #[.bool (t.ev (cfg M)), .int .i64 0]) := by
 have h := Eval_c (ofT names t) names M hM G a c na nc hcap hll w hr hnr
 rw [hm, hev] at h
 exact h

set_option maxRecDepth 100000 in
theorem FormulaRound_c (l : List OpV) (a : Option Addr) (c : Nat) (M : Nat) (w : World) (hwf : ∀ x ∈ l, x.wf) (hr : RdOps w l a) (hM : M < 4294967296) :
  Pure Tryz.prog 7 [.slice a l.length c, .int .u32 (M : Int)] w (.bool true) := by
 refine enter Tryz.func7 rfl Tryz.ntmps7 rfl (St.init _) ?_
 refine jN 9 ?_
 refine WL.buildSlice F.sl25 F.ez25 rfl rfl rfl rfl jB rfl (fun b14 => ?_)
 refine jN 7 ?_
 refine WA.chunks (C' := [rowc (.slice (some ⟨b14, 0, none⟩) 24 24) 24 9 1 (strs nm24)]) (fun w hS => by have hS1 := St.rowOf (n := 24) (sz := 1) hS rfl (by decide); exact hS1) ?_
 refine jN 3 ?_
 refine jC (β := { b : Bool // b = true → MentP l }) (res := fun z => .bool z.1) (cs := fun _ => []) F.fun18 rfl (fun w hS _ => Mentioned_c l a c hwf w (hr.next hS)) (fun ⟨b, hb⟩ => ?_)
 dsimp only
 refine jN 4 ?_
 refine WC.cond rfl (fun h17 => ?_) (fun h17 => ?_)
 ·refine jN 3 ?_
  refine WL.callV F.fun9 rfl rfl (fun w _ => wakes_c w) ?_
  refine jN 6 ?_
  exact WQ.ret (rs := [.tmp 4]) rfl (.tmp rfl .nil) (fun w hS => ⟨rfl, hS.sublist (List.nil_sublist _)⟩)
 ·have hbt : b = true := by
   cases b with
   | false => simp at h17
   | true => rfl
  obtain ⟨hl12, f, hf32, hf7, hin⟩ := hb hbt
  refine jN 7 ?_
  refine jC (β := MkZ l) (res := fun z => .slice z.1.2.2.1 z.1.1.length z.1.2.2.2) (cs := fun z => [rowc (.slice z.1.2.2.1 z.1.1.length z.1.2.2.2) z.1.1.length 35 2 (dcs z.1.1), dsC z.1.2.1 z.1.1]) F.fun29 rfl (fun w hS _ => Make_c l a c hwf hl12 f hin w (hr.next hS)) (fun ⟨⟨ds, Fz, sa, sc⟩, hev, hdl⟩ => ?_)
  dsimp only at hev hdl ⊢
  refine jN 6 ?_
  obtain ⟨x, hx⟩ : ∃ x, ds[l.length]? = some x := ⟨_, List.getElem?_eq_getElem (by omega)⟩
  have hxm := List.mem_of_getElem? hx
  have hdl1 : ds.length - 1 = l.length := by omega
  refine WA.know (φ := ∃ bd, sa = some ⟨bd, 0, none⟩ ∧ ds.length = ds.length ∧ ds.length ≤ sc) (fun w hS => rowc_addr (hS.ok (rowc (.slice sa ds.length sc) ds.length 35 2 (dcs ds)) jM) (by omega)) (fun ⟨bd, hbd, _, _⟩ => ?_)
  refine WA.know (φ := x.1.ok 0) (fun w hS => (dsC_rd (hS.ok (dsC Fz ds) jM) hxm).1) (fun hok => ?_)
  have hfew := last_few hin hev hxm hok
  have hl24 : ∀ k, hasVar k x.1 → k < nm24.length := fun k hk => var_24 hok hk
  have hmays := of_may nm24_ok hok hl24 hfew hf7
  have hm0 := mayD_of nm24_ok hmays
  have hevs := of_ev' nm24_ok hl24
  refine jN 8 ?_
  refine WA.say 24 (.int .i64 (l.length : Int)) (by rw [show (l.length : Int) = (ds.length : Int) - 1 by omega]; rfl) ?_
  refine WA.say 21 (.slice (some ⟨bd, 0, none⟩) ds.length sc) (by rw [← hbd]; rfl) ?_
  refine jN 1 ?_
  refine WL.indexAddr (i := l.length) F.sl48 rfl rfl rfl (by omega) ?_
  refine jN 1 ?_
  refine WL.loadN F.agg35 rfl rfl (vs := dvl x) rfl (fun w hS j v hv => by rw [Nat.zero_add]; exact rowc_cells (by rw [← hbd]; exact hS.ok (rowc (.slice sa ds.length sc) ds.length 35 2 (dcs ds)) jM) (dcs_at hx j v hv)) ?_
  refine jN 1 ?_
  refine WL.alloc F.zero35 rfl (fun b7 => ?_)
  refine jN 11 ?_
  refine jC (β := List Nat × Option Addr × Nat) (res := fun y => .tuple #[tv (ofT nm24 x.1) y.2.1 y.2.2, .int .i64 0]) (cs := fun y => [own y.1 (ofT nm24 x.1) (tv (ofT nm24 x.1) y.2.1 y.2.2)]) F.fun23 rfl (fun w hS _ => Of_ok x.1 x.2.1 x.2.2 nm24 (some ⟨b14, 0, none⟩) 24 (by decide) (by decide) nm24_ok (sup_sh hok) hl24 (of_szs hok hfew hf7) hmays w (dsC_rd (hS.ok (dsC Fz ds) jM) hxm) (RdS.of_row (l := nm24) rfl (hS.ok (rowc (.slice (some ⟨b14, 0, none⟩) 24 24) 24 9 1 (strs nm24)) jM))) (fun y => ?_)
  refine jN 7 ?_
  refine WL.alloc F.zero24 rfl (fun b8 => ?_)
  refine jN 25 ?_
  refine jC (β := Option Addr × Nat) (res := fun q => .tuple #[dval x.1 q.1 q.2, .int .i64 0]) (cs := fun q => [dC q.1 q.2 x.1]) F.fun12 rfl (fun w hS _ => Diag_back x.1 nm24 hok hm0 hevs y.1 y.2.1 y.2.2 (some ⟨b14, 0, none⟩) 24 (by decide) (by decide) w (hS.ok (own y.1 (ofT nm24 x.1) (tv (ofT nm24 x.1) y.2.1 y.2.2)) jM).2 (RdS.of_row (l := nm24) rfl (hS.ok (rowc (.slice (some ⟨b14, 0, none⟩) 24 24) 24 9 1 (strs nm24)) jM))) (fun q => ?_)
  refine jN 7 ?_
  refine WL.alloc F.zero35 rfl (fun b10 => ?_)
  refine jN 15 ?_
  refine WL.callV F.fun10 rfl rfl (fun w hS => Eval_back x.1 nm24 M hM hm0 hevs y.1 y.2.1 y.2.2 (some ⟨b14, 0, none⟩) 24 (by decide) (by decide) w (hS.ok (own y.1 (ofT nm24 x.1) (tv (ofT nm24 x.1) y.2.1 y.2.2)) jM).2 (RdS.of_row (l := nm24) rfl (hS.ok (rowc (.slice (some ⟨b14, 0, none⟩) 24 24) 24 9 1 (strs nm24)) jM))) ?_
  refine jN 20 ?_
  refine WA.splitB (i := 58) rfl (fun g58 => ?_) (fun g58 => ?_)
  ·refine jN 10 ?_
   refine WA.splitB (i := 62) rfl (fun g62 => ?_) (fun g62 => ?_)
   ·refine jN 10 ?_
    refine WA.splitB (i := 66) rfl (fun g66 => ?_) (fun g66 => ?_)
    ·refine jN 8 ?_
     refine WL.callV F.fun33 rfl rfl (fun w hS => Same_c x.1 q.1 x.2.1 q.2 x.2.2 w (RdD.of_row hok (hS.ok (dC q.1 q.2 x.1) jM)) (dsC_rd (hS.ok (dsC Fz ds) jM) hxm)) ?_
     refine jN 4 ?_
     refine WA.splitB (i := 71) rfl (fun g71 => ?_) (fun g71 => ?_)
     ·refine jN 11 ?_
      refine WL.callV F.fun36 rfl rfl (fun w hS => Has_c x.1 x.2.1 x.2.2 M hM w (dsC_rd (hS.ok (dsC Fz ds) jM) hxm)) ?_
      refine jN 2 ?_
      refine WL.bin (v := .bool (x.1.ev (cfg M) == x.1.ev (cfg M))) rfl rfl rfl (fun w => run_eqB _ _ w) ?_
      refine jN 4 ?_
      refine WA.splitB (i := 78) rfl (fun g78 => ?_) (fun g78 => ?_)
      ·refine jN 2 ?_
       refine WL.callV F.fun9 rfl rfl (fun w _ => wakes_c w) ?_
       refine jN 7 ?_
       exact WQ.ret (rs := [.tmp 4]) rfl (.tmp rfl .nil) (fun w hS => ⟨rfl, hS.sublist (List.nil_sublist _)⟩)
      ·exfalso; simp at g78
     ·exfalso; simp at g71
    ·exfalso; simp at g66
   ·exfalso; simp at g62
  ·exfalso; simp at g58

end Go.Proofs.YtkgllhkhdjodeaaGreat
