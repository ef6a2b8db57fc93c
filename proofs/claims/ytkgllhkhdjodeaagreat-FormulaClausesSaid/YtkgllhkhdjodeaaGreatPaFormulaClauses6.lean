import Derived.Test.YtkgllhkhdjodeaaGreatPaFormulaClauses5
set_option linter.unusedSimpArgs false
set_option linter.unusedVariables false
namespace Go.Proofs.YtkgllhkhdjodeaaGreat
open Go Go.Eng Go.Proofs Dg
theorem arCost : ArT Tryz.prog 208 2 24 1 [.int .i64 0, .int .i64 0, .int .i64 0, .int .i64 0, .int .i64 0, .int .i64 0, .int .i64 0, .int .i64 0, .int .i64 0, .int .i64 0, .int .i64 0, .int .i64 0, .int .i64 0, .int .i64 0, .int .i64 0, .int .i64 0, .int .i64 0, .int .i64 0, .int .i64 0, .int .i64 0, .int .i64 0, .int .i64 0, .int .i64 0, .int .i64 0] := ⟨by kernel_rfl, by kernel_rfl, by kernel_rfl⟩
theorem arKnown : ArT Tryz.prog 210 209 24 1 [.slice none 0 0, .slice none 0 0, .slice none 0 0, .slice none 0 0, .slice none 0 0, .slice none 0 0, .slice none 0 0, .slice none 0 0, .slice none 0 0, .slice none 0 0, .slice none 0 0, .slice none 0 0, .slice none 0 0, .slice none 0 0, .slice none 0 0, .slice none 0 0, .slice none 0 0, .slice none 0 0, .slice none 0 0, .slice none 0 0, .slice none 0 0, .slice none 0 0, .slice none 0 0, .slice none 0 0] := ⟨by kernel_rfl, by kernel_rfl, by kernel_rfl⟩
theorem set_self {α : Type} : ∀ {l : List α} {i : Nat} {x : α}, l[i]? = some x → l.set i x = l
 | [], _, _, h => by cases h
 | y :: l, 0, x, h => by simp only [List.getElem?_cons_zero, Option.some.injEq] at h; rw [h]; rfl
 | y :: l, i + 1, x, h => by
  simp only [List.getElem?_cons_succ] at h
  rw [List.set_cons_succ, set_self h]
section
variable {w0 : World} {O : List Nat} {C : List Chunk}
theorem St.kBack {w : World} {KV : List KRow} {i : Nat} {x : KRow} (hx : KV[i]? = some x) (h : St w0 O (rowOf x :: kRows (KV.eraseIdx i) :: C) w) : St w0 O (kRows KV :: C) w := by
 have h2 := St.kClose (y := x) (List.getElem?_eq_some_iff.1 hx).1 h
 rwa [set_self hx] at h2
theorem St.kPut {w : World} {KV : List KRow} {i n c : Nat} {a : Option Addr} {ks : List SpanV} {s : SpanV} (hi : i < KV.length) (hn : n = ks.length + 1)
  (h : St w0 O (rowc (.slice a n c) n 214 3 (spans ks ++ [Value.int .i64 s.1, .int .i64 s.2.1, .int .i64 (s.2.2 : Int)]) :: kRows (KV.eraseIdx i) :: C) w) : St w0 O (kRows (KV.set i (.slice a n c, ks ++ [s])) :: C) w := by
 refine St.kClose (y := (.slice a n c, ks ++ [s])) hi ?_
 have e : rowOf (Value.slice a n c, ks ++ [s]) = rowc (.slice a n c) n 214 3 (spans ks ++ [Value.int .i64 s.1, .int .i64 s.2.1, .int .i64 (s.2.2 : Int)]) := by
  unfold rowOf
  rw [spans_append, spans_one, List.length_append, List.length_singleton, ← hn]
 rw [e]
 exact h
end
abbrev LinZ := List Nat × List Dec × List KRow × SpanV
structure LinP (C : List Int) (rel : Nat) (b : Int) (m : Nat) (l : List Dec) (i : Nat) (sum : Int) (z : LinZ) : Prop where
 lin : LinOk C rel b (m + (2 ^ (24 - i) - 1)) z.2.1 z.2.2.1
 ext : ExtL l z.2.1
 sp : SpanOk C rel b z.2.1 (24 - i) z.2.2.2
 lo : z.2.2.2.1 ≤ sum
 hi : sum ≤ z.2.2.2.2.1

set_option maxRecDepth 100000 in
theorem from_c (bx bm : Nat) (Cc : List Int) (hCl : Cc.length = 24) (hCo : Cc.all costOk = true) (rel : Nat) (b : Int) (hrel : 1 ≤ rel ∧ rel ≤ 3) (hb : -17592186044416 ≤ b ∧ b ≤ 17592186044416) (ea : Option Addr) (ec : Nat) : ∀ (n i : Nat), i ≤ 24 → 24 - i < n →
  ∀ (Fp : List Nat) (l : List Dec) (KV : List KRow) (m : Nat) (sum : Int) (w : World), LinOk Cc rel b m l KV → m + 2 ^ (24 - i) ≤ 16777216 → (-(2147483648 * (i : Int)) ≤ sum ∧ sum ≤ 2147483648 * (i : Int)) → St w Fp [linC Fp bx bm Cc (.slice ea 3 ec) (endL rel b) l KV] w →
  Calls Tryz.prog 156 [pp bx, .int .i64 (i : Int), .int .i64 sum].toArray w fun e w' => ∃ z : { z : LinZ // LinP Cc rel b m l i sum z }, e = .returned (.agg ([Value.int .i64 z.1.2.2.2.1, .int .i64 z.1.2.2.2.2.1, .int .i64 (z.1.2.2.2.2.2 : Int)]).toArray) ∧ St w Fp [linC z.1.1 bx bm Cc (.slice ea 3 ec) (endL rel b) z.1.2.1 z.1.2.2.1] w' := by
 intro n
 induction n with
 | zero => intro i; omega
 | succ n hrec =>
 intro i hi24 hin Fp l KV m sum w hL hm hsum hS0
 obtain ⟨G, _, h1, h2, hS0⟩ := hS0.bunOpen
 simp only [linCs, List.cons_append, List.nil_append] at hS0
 refine enter Tryz.func156 rfl Tryz.ntmps156 rfl (C := [pt bx (linCells bm Cc (.slice ea 3 ec) KV) 212, mkr G bm l, rowc (.slice ea 3 ec) 3 214 3 (spans (endL rel b)), kRows KV]) hS0 ?_
 refine jN 3 ?_
 refine WL.alloc F.zero214 rfl (fun b6 => ?_)
 refine jN 11 ?_
 refine WL.load1 F.one209 rfl rfl (v := (.slice ea 3 ec)) (fun w hS => hS.cell (cs := linCells bm Cc (.slice ea 3 ec) KV) jM (linCells_ends hCl)) ?_
 refine jN 13 ?_
 refine WC.cond rfl (fun h18 => ?_) (fun h18 => ?_)
 ·have hlt : i < 24 := by simp at h18; omega
  obtain ⟨⟨v, ks⟩, hx⟩ : ∃ x, KV[i]? = some x := ⟨_, List.getElem?_eq_getElem (by have := hL.kl; omega)⟩
  obtain ⟨ka, kc, hv⟩ := hL.shape _ (List.mem_of_getElem? hx)
  dsimp only at hv
  subst hv
  have hkm : ks.length ≤ m := hL.km _ (List.mem_of_getElem? hx)
  have hp2 : 2 ^ (24 - i) = 2 ^ (24 - (i + 1)) + 2 ^ (24 - (i + 1)) := by (rw [show 24 - i = (24 - (i + 1)) + 1 by omega, Nat.pow_succ]; omega)
  have hp1 : 0 < 2 ^ (24 - (i + 1)) := Nat.pow_pos (by decide)
  obtain ⟨c, hc⟩ : ∃ c, Cc[i]? = some c := ⟨_, List.getElem?_eq_getElem (by omega)⟩
  have hcg : Cc.getD i 0 = c := by rw [List.getD_eq_getElem?_getD, hc]; rfl
  have hcb : -2147483648 ≤ c ∧ c ≤ 2147483648 := by rw [← hcg]; exact costOk_bd hCo i
  refine jN 10 ?_
  refine WL.indexAddrA (i := i) arKnown rfl rfl rfl hlt ?_
  refine jN 1 ?_
  refine WL.load1 F.one209 rfl rfl (v := .slice ka ks.length kc) (fun w hS => by rw [Nat.mul_one]; exact hS.cell (cs := linCells bm Cc (.slice ea 3 ec) KV) jM (linCells_known hCl hx)) ?_
  refine jN 16 ?_
  refine WC.chunks (C' := [rowc (.slice ka ks.length kc) ks.length 214 3 (spans ks), kRows (KV.eraseIdx i), pt b6 [.int .i64 0, .int .i64 0, .int .i64 0] 214, pt bx (linCells bm Cc (.slice ea 3 ec) KV) 212, mkr G bm l, rowc (.slice ea 3 ec) 3 214 3 (spans (endL rel b))]) (fun w hS => (St.kOpen hx (St.pick (St.pick (St.pick (St.pick (St.pick hS (c := rowc (.slice ea 3 ec) 3 214 3 (spans (endL rel b))) jR) (c := mkr G bm l) jR) (c := pt bx (linCells bm Cc (.slice ea 3 ec) KV) 212) jR) (c := pt b6 [.int .i64 0, .int .i64 0, .int .i64 0] 214) jR) (c := kRows KV) jR)).sublist (List.Sublist.refl _)) ?_
  refine WC.loop (α := Nat) (fun k => k ≤ ks.length) (fun k => [(0, pp bx), (1, .int .i64 (i : Int)), (2, .int .i64 sum), (6, pp b6), (25, .slice ka ks.length kc), (26, .int .i64 (ks.length : Int)), (27, .int .i64 (k : Int))]) (fun _ => [rowc (.slice ka ks.length kc) ks.length 214 3 (spans ks), kRows (KV.eraseIdx i), pt b6 [.int .i64 0, .int .i64 0, .int .i64 0] 214, pt bx (linCells bm Cc (.slice ea 3 ec) KV) 212, mkr G bm l, rowc (.slice ea 3 ec) 3 214 3 (spans (endL rel b))]) (fun k => ks.length - k) (0) ?_ ?_ ?_ ?_
  ·exact Nat.zero_le _
  ·exact ⟨rfl, rfl, rfl, rfl, rfl, rfl, rfl, trivial⟩
  ·rfl
  rintro k hk
  show WC _ _ _ _ _ _ _ [(0, pp bx), (1, .int .i64 (i : Int)), (2, .int .i64 sum), (6, pp b6), (25, .slice ka ks.length kc), (26, .int .i64 (ks.length : Int)), (27, .int .i64 (k : Int))] [rowc (.slice ka ks.length kc) ks.length 214 3 (spans ks), kRows (KV.eraseIdx i), pt b6 [.int .i64 0, .int .i64 0, .int .i64 0] 214, pt bx (linCells bm Cc (.slice ea 3 ec) KV) 212, mkr G bm l, rowc (.slice ea 3 ec) 3 214 3 (spans (endL rel b))]
  refine jN 7 ?_
  refine WC.cond rfl (fun h28 => ?_) (fun h28 => ?_)
  ·have hlt2 : k < ks.length := by simpa using h28
   obtain ⟨s, hs⟩ : ∃ s, ks[k]? = some s := ⟨_, List.getElem?_eq_getElem hlt2⟩
   refine WC.know (φ := ∃ g, ka = some ⟨g, 0, none⟩ ∧ ks.length = ks.length ∧ ks.length ≤ kc) (fun w hS => rowc_addr (hS.ok (rowc (.slice ka ks.length kc) ks.length 214 3 (spans ks)) jM) (by omega)) (fun ⟨g, hg, _, _⟩ => ?_)
   subst hg
   have hsk := hL.sp _ _ hx s (List.mem_of_getElem? hs)
   refine jN 7 ?_
   refine WL.indexAddr F.sl209 rfl rfl rfl hlt2 ?_
   refine jN 1 ?_
   refine WL.loadN F.agg214 rfl rfl (vs := [Value.int .i64 s.1, .int .i64 s.2.1, .int .i64 (s.2.2 : Int)]) rfl (fun w hS j u hu => by rw [Nat.zero_add]; exact rowc_cells (hS.ok (rowc (.slice (some ⟨g, 0, none⟩) ks.length kc) ks.length 214 3 (spans ks)) jM) (spans_at hs j u hu)) ?_
   refine jN 1 ?_
   refine WL.alloc F.zero214 rfl (fun b9 => ?_)
   refine jN 16 ?_
   refine WA.splitB (i := 35) rfl (fun g35 => ?_) (fun g35 => ?_)
   ·have hs1 : s.1 ≤ sum := by simpa using g35
    refine jN 16 ?_
    refine WC.cond rfl (fun h40 => ?_) (fun h40 => ?_)
    ·have hs2 : sum ≤ s.2.1 := by simpa using h40
     refine jN 14 ?_
     refine WQ.ret (rs := [.cell 6 214]) rfl (.cellN F.agg214 rfl jM rfl .nil) (fun w hS => ?_)
     have hS1 := St.kBack hx (St.pick (St.pick hS (c := kRows (KV.eraseIdx i)) jR) (c := rowc (.slice (some ⟨g, 0, none⟩) ks.length kc) ks.length 214 3 (spans ks)) jR)
     exact ⟨⟨(_, l, KV, s), ⟨hL.mono (Nat.le_add_right _ _), ExtL.refl _, hsk, hs1, hs2⟩⟩, rfl, St.linClose (jK hS1)⟩
    ·have hs2 : ¬ sum ≤ s.2.1 := by simpa using h40
     refine jN 9 ?_
     refine WQ.chunks (C' := [rowc (.slice (some ⟨g, 0, none⟩) ks.length kc) ks.length 214 3 (spans ks), kRows (KV.eraseIdx i), pt b6 [.int .i64 0, .int .i64 0, .int .i64 0] 214, pt bx (linCells bm Cc (.slice ea 3 ec) KV) 212, mkr G bm l, rowc (.slice ea 3 ec) 3 214 3 (spans (endL rel b))]) (fun w hS => (jK hS)) ?_
     refine WQ.back (k + 1) ?_ ?_ ?_ ?_
     ·exact by (show k + 1 ≤ ks.length; omega)
     ·(show ks.length - (k + 1) < ks.length - k; omega)
     ·exact ⟨rfl, rfl, rfl, rfl, rfl, rfl, rfl, trivial⟩
     ·rfl
   ·have hs1 : ¬ s.1 ≤ sum := by simpa using g35
    refine jN 22 ?_
    refine WQ.chunks (C' := [rowc (.slice (some ⟨g, 0, none⟩) ks.length kc) ks.length 214 3 (spans ks), kRows (KV.eraseIdx i), pt b6 [.int .i64 0, .int .i64 0, .int .i64 0] 214, pt bx (linCells bm Cc (.slice ea 3 ec) KV) 212, mkr G bm l, rowc (.slice ea 3 ec) 3 214 3 (spans (endL rel b))]) (fun w hS => (jK hS)) ?_
    refine WQ.back (k + 1) ?_ ?_ ?_ ?_
    ·exact by (show k + 1 ≤ ks.length; omega)
    ·(show ks.length - (k + 1) < ks.length - k; omega)
    ·exact ⟨rfl, rfl, rfl, rfl, rfl, rfl, rfl, trivial⟩
    ·rfl
  ·refine jN 7 ?_
   refine WA.chunksE (C' := fun F1 => [linC F1 bx bm Cc (.slice ea 3 ec) (endL rel b) l KV, pt b6 [.int .i64 0, .int .i64 0, .int .i64 0] 214]) (fun w hS => ?_) (fun F1 => ?_)
   ·have hS1 := St.kBack hx (St.pick (St.pick hS (c := kRows (KV.eraseIdx i)) jR) (c := rowc (.slice ka ks.length kc) ks.length 214 3 (spans ks)) jR)
    exact ⟨_, St.linClose (jK hS1)⟩
   refine jN 6 ?_
   refine WA.say 45 (.int .i64 ((i + 1 : Nat) : Int)) rfl ?_
   refine jN 3 ?_
   refine WL.callC (β := { z : LinZ // LinP Cc rel b (m) l (i + 1) (sum) z }) (res := fun z => .agg ([Value.int .i64 z.1.2.2.2.1, .int .i64 z.1.2.2.2.2.1, .int .i64 (z.1.2.2.2.2.2 : Int)]).toArray) (cs := fun z => [linC z.1.1 bx bm Cc (.slice ea 3 ec) (endL rel b) z.1.2.1 z.1.2.2.1]) (Cs := [linC F1 bx bm Cc (.slice ea 3 ec) (endL rel b) l KV]) (C1 := [pt b6 [.int .i64 0, .int .i64 0, .int .i64 0] 214]) (O' := F1) F.fun156 (fun d h => by cases h; rfl) rfl (List.Perm.refl _) bun_O1 bun_O2 (fun w hS hS2 => hrec (i + 1) (by omega) (by omega) F1 l KV (m) (sum) w hL (by omega) ⟨by omega, by omega⟩ hS2) (fun ⟨z1, hz1⟩ => ?_)
   obtain ⟨F2, l2, KV2, s1⟩ := z1
   obtain ⟨j1, j2, j3, j4, j5⟩ := hz1
   dsimp only at j1 j2 j3 j4 j5 ⊢
   refine jN 1 ?_
   refine WL.alloc F.zero214 rfl (fun b10 => ?_)
   refine jN 2 ?_
   refine WA.chunks (C' := [linC F2 bx bm Cc (.slice ea 3 ec) (endL rel b) l2 KV2, pt b10 [Value.int .i64 s1.1, .int .i64 s1.2.1, .int .i64 (s1.2.2 : Int)] 214, pt b6 [.int .i64 0, .int .i64 0, .int .i64 0] 214]) (fun w hS => (jK hS)) ?_
   refine jN 4 ?_
   refine WA.openB (fun G2 _ _ _ => ?_)
   simp only [linCs, List.cons_append, List.nil_append]
   refine jN 6 ?_
   refine WA.say 50 (.int .i64 ((i + 1 : Nat) : Int)) rfl ?_
   refine jN 11 ?_
   refine WL.indexAddrA (i := i) arCost rfl rfl rfl hlt ?_
   refine jN 1 ?_
   refine WL.load1 F.one2 rfl rfl (v := .int .i64 c) (fun w hS => by rw [Nat.mul_one]; exact hS.cell (cs := linCells bm Cc (.slice ea 3 ec) KV2) jM (linCells_cost hc)) ?_
   refine jN 2 ?_
   refine WA.chunksE (C' := fun F3 => [linC F3 bx bm Cc (.slice ea 3 ec) (endL rel b) l2 KV2, pt b10 [Value.int .i64 s1.1, .int .i64 s1.2.1, .int .i64 (s1.2.2 : Int)] 214, pt b6 [.int .i64 0, .int .i64 0, .int .i64 0] 214]) (fun w hS => ?_) (fun F3 => ?_)
   ·exact ⟨_, St.linClose (jK hS)⟩
   refine jN 1 ?_
   refine WL.callC (β := { z : LinZ // LinP Cc rel b (m + (2 ^ (24 - (i + 1)) - 1)) l2 (i + 1) (sum + c) z }) (res := fun z => .agg ([Value.int .i64 z.1.2.2.2.1, .int .i64 z.1.2.2.2.2.1, .int .i64 (z.1.2.2.2.2.2 : Int)]).toArray) (cs := fun z => [linC z.1.1 bx bm Cc (.slice ea 3 ec) (endL rel b) z.1.2.1 z.1.2.2.1]) (Cs := [linC F3 bx bm Cc (.slice ea 3 ec) (endL rel b) l2 KV2]) (C1 := [pt b10 [Value.int .i64 s1.1, .int .i64 s1.2.1, .int .i64 (s1.2.2 : Int)] 214, pt b6 [.int .i64 0, .int .i64 0, .int .i64 0] 214]) (O' := F3) F.fun156 (fun d h => by cases h; rfl) rfl (List.Perm.refl _) bun_O1 bun_O2 (fun w hS hS2 => hrec (i + 1) (by omega) (by omega) F3 l2 KV2 (m + (2 ^ (24 - (i + 1)) - 1)) (sum + c) w j1 (by omega) ⟨by omega, by omega⟩ hS2) (fun ⟨z2, hz2⟩ => ?_)
   obtain ⟨F4, l3, KV3, s2⟩ := z2
   obtain ⟨k1, k2, k3, k4, k5⟩ := hz2
   dsimp only at k1 k2 k3 k4 k5 ⊢
   refine jN 1 ?_
   refine WL.alloc F.zero214 rfl (fun b11 => ?_)
   refine jN 2 ?_
   refine WA.chunks (C' := [linC F4 bx bm Cc (.slice ea 3 ec) (endL rel b) l3 KV3, pt b11 [Value.int .i64 s2.1, .int .i64 s2.2.1, .int .i64 (s2.2.2 : Int)] 214, pt b10 [Value.int .i64 s1.1, .int .i64 s1.2.1, .int .i64 (s1.2.2 : Int)] 214, pt b6 [.int .i64 0, .int .i64 0, .int .i64 0] 214]) (fun w hS => (jK hS)) ?_
   refine WA.openB (fun G4 _ _ _ => ?_)
   simp only [linCs, List.cons_append, List.nil_append]
   have j3x := j3.ext k2
   have e1 := j3.lo
   have e2 := j3.hi
   have e3 := k3.lo
   have e4 := k3.hi
   have hll3 := k1.ll
   refine jN 3 ?_
   refine WC.drawsL (by kernel_rfl) (FactsOk.cons (ds := [36]) (LoadOk.one (t := 10) (off := 0) rfl jM rfl) (FactsOk.cons (ds := [36]) (LoadOk.one (t := 11) (off := 0) rfl jM rfl) (FactsOk.cons (ds := [36]) (LoadOk.by (Y := fun w => w.cell? ⟨bx, 1 + i * 1, none⟩ = some (.int .i64 c)) (fun w hS => by rw [Nat.mul_one]; exact hS.cell (cs := linCells bm Cc (.slice ea 3 ec) KV3) jM (linCells_cost hc))) (FactsOk.cons (ds := [36]) (LoadOk.one (t := 10) (off := 1) rfl jM rfl) (FactsOk.cons (ds := [36]) (LoadOk.one (t := 11) (off := 1) rfl jM rfl) (FactsOk.cons (ds := [36]) (LoadOk.by (Y := fun w => w.cell? ⟨bx, 1 + i * 1, none⟩ = some (.int .i64 c)) (fun w hS => by rw [Nat.mul_one]; exact hS.cell (cs := linCells bm Cc (.slice ea 3 ec) KV3) jM (linCells_cost hc))) (FactsOk.cons (ds := [33, 36]) (LoadOk.one (t := 0) (off := 0) rfl jM rfl) (FactsOk.cons (ds := [33, 36]) (LoadOk.one (t := 10) (off := 2) rfl jM rfl) (FactsOk.cons (ds := [33, 36]) (LoadOk.one (t := 11) (off := 2) rfl jM rfl) (FactsOk.nil)))))))))) ?_
   refine jT 0 rfl (Yl.fieldAddr0 F.fld214_0 rfl) ?_
   refine jF 1 0 rfl rfl (Yl.load1 F.one2 rfl) ?_
   refine jT 2 rfl (Yl.fieldAddr0 F.fld214_0 rfl) ?_
   refine jF 3 1 rfl rfl (Yl.load1 F.one2 rfl) ?_
   refine jT 4 rfl (Yl.move rfl) ?_
   refine jT 5 rfl (Yl.move rfl) ?_
   refine jT 6 rfl (Yl.nilCheck rfl) ?_
   refine jT 7 rfl (Yl.fieldAddr0 F.fld212_1 rfl) ?_
   refine jT 8 rfl (Yl.indexAddrA (i := i) arCost rfl rfl hlt) ?_
   refine jF 9 2 rfl rfl (Yl.load1 F.one2 rfl) ?_
   refine jT 10 rfl (Yl.sub rfl rfl ⟨by omega, by omega⟩) ?_
   refine jT 11 rfl (Yl.maxI rfl rfl) ?_
   refine jT 12 rfl (Yl.fieldAddr0 F.fld214_1 rfl) ?_
   refine jF 13 3 rfl rfl (Yl.load1 F.one2 rfl) ?_
   refine jT 14 rfl (Yl.fieldAddr0 F.fld214_1 rfl) ?_
   refine jF 15 4 rfl rfl (Yl.load1 F.one2 rfl) ?_
   refine jT 16 rfl (Yl.move rfl) ?_
   refine jT 17 rfl (Yl.move rfl) ?_
   refine jT 18 rfl (Yl.nilCheck rfl) ?_
   refine jT 19 rfl (Yl.fieldAddr0 F.fld212_1 rfl) ?_
   refine jT 20 rfl (Yl.indexAddrA (i := i) arCost rfl rfl hlt) ?_
   refine jF 21 5 rfl rfl (Yl.load1 F.one2 rfl) ?_
   refine jT 22 rfl (Yl.sub rfl rfl ⟨by omega, by omega⟩) ?_
   refine jT 23 rfl (Yl.minI rfl rfl rfl) ?_
   refine jT 24 rfl (Yl.move rfl) ?_
   refine jT 25 rfl (Yl.nilCheck rfl) ?_
   refine jT 26 rfl (Yl.fieldAddr0 F.fld212_0 rfl) ?_
   refine jF 27 6 rfl rfl (Yl.load1 F.one200 rfl) ?_
   refine jT 28 rfl (Yl.move rfl) ?_
   refine jT 29 rfl (Yl.fieldAddr0 F.fld214_2 rfl) ?_
   refine jF 30 7 rfl rfl (Yl.load1 F.one3 rfl) ?_
   refine jT 31 rfl (Yl.fieldAddr0 F.fld214_2 rfl) ?_
   refine jF 32 8 rfl rfl (Yl.load1 F.one3 rfl) ?_
   refine WD.two (i := 33) (j := 35) (by decide +kernel) rfl rfl ?_ ?_
   ·refine WL.callC (β := { z : List Nat × List Dec × Nat // MadeN l3 z.2.1 z.2.2 (mkN i (trs l3 s1.2.2) (trs l3 s2.2.2)) ∧ z.2.1.length ≤ l3.length + 1 }) (res := fun z => .int .i64 (z.1.2.2 : Int)) (cs := fun z => [mkr z.1.1 bm z.1.2.1]) (Cs := [mkr G4 bm l3]) (C1 := [pt bx (linCells bm Cc (.slice ea 3 ec) KV3) 212, rowc (.slice ea 3 ec) 3 214 3 (spans (endL rel b)), kRows KV3, pt b11 [Value.int .i64 s2.1, .int .i64 s2.2.1, .int .i64 (s2.2.2 : Int)] 214, pt b10 [Value.int .i64 s1.1, .int .i64 s1.2.1, .int .i64 (s1.2.2 : Int)] 214, pt b6 [.int .i64 0, .int .i64 0, .int .i64 0] 214]) (O' := G4) F.fun149 (fun d h => by cases h; rfl) rfl (List.Perm.swap _ _ _) bun_O1 bun_O2 (fun w hS hS2 => mnode_c G4 bm l3 i s1.2.2 s2.2.2 w hlt k1.mks j3x.lt k3.lt (by omega) hS2) (fun ⟨⟨G5, l4, p4⟩, hm4, hl4⟩ => ?_)
    refine WD.on (closed_of (by decide +kernel)) (fun w hS => Sx.keep (hS.cell jM rfl) (Sx.keep (hS.cell jM rfl) (Sx.keep (by rw [Nat.mul_one]; exact hS.cell (cs := linCells bm Cc (.slice ea 3 ec) KV3) jM (linCells_cost hc)) (Sx.keep (hS.cell jM rfl) (Sx.keep (hS.cell jM rfl) (Sx.keep (by rw [Nat.mul_one]; exact hS.cell (cs := linCells bm Cc (.slice ea 3 ec) KV3) jM (linCells_cost hc)) (Sx.gone rfl (Sx.gone rfl (Sx.gone rfl (Sx.none)))))))))) ?_
    dsimp only at hm4 hl4 ⊢
    have hq := SpanOk.new (x := c) (sum := sum) (p := p4) j3x k3 (by omega) (by rw [show 23 - (24 - (i + 1)) = i by omega]; exact hcg) ⟨j4, j5⟩ ⟨k4, k5⟩ (by rw [show 23 - (24 - (i + 1)) = i by omega]; exact hm4) (lo := ((if s2.1 - c > s1.1 then s2.1 - c else s1.1), (if s2.2.1 - c < s1.2.1 then s2.2.1 - c else s1.2.1), p4).1) (hi := ((if s2.1 - c > s1.1 then s2.1 - c else s1.1), (if s2.2.1 - c < s1.2.1 then s2.2.1 - c else s1.2.1), p4).2.1) (by dsimp only; split <;> omega) (by dsimp only; split <;> omega)
    rw [show 24 - (i + 1) + 1 = 24 - i by omega] at hq
    refine jT 34 rfl (Yl.build F.stT214 rfl jB) ?_
    refine jA 35 rfl ?_
    refine WL.alloc F.zero214 rfl (fun b12 => ?_)
    refine WD.on (closed_of (by decide +kernel)) (fun w hS => Sx.keep (hS.cell jM rfl) (Sx.keep (hS.cell jM rfl) (Sx.keep (by rw [Nat.mul_one]; exact hS.cell (cs := linCells bm Cc (.slice ea 3 ec) KV3) jM (linCells_cost hc)) (Sx.keep (hS.cell jM rfl) (Sx.keep (hS.cell jM rfl) (Sx.keep (by rw [Nat.mul_one]; exact hS.cell (cs := linCells bm Cc (.slice ea 3 ec) KV3) jM (linCells_cost hc)) (Sx.gone rfl (Sx.gone rfl (Sx.gone rfl (Sx.none)))))))))) ?_
    refine jA 36 rfl ?_
    refine WL.storeN F.agg214 rfl rfl rfl jO jU jS ?_
    refine jG ?_
    refine jD ?_
    refine jN 2 ?_
    obtain ⟨sn, hsn⟩ : ∃ s : SpanV, s = ((if s2.1 - c > s1.1 then s2.1 - c else s1.1), (if s2.2.1 - c < s1.2.1 then s2.2.1 - c else s1.2.1), p4) := ⟨_, rfl⟩
    rw [← hsn] at hq
    obtain ⟨hq1, hq2, hq3⟩ := hq
    have q1 : ((if s2.1 - c > s1.1 then s2.1 - c else s1.1), (if s2.2.1 - c < s1.2.1 then s2.2.1 - c else s1.2.1), p4).1 = sn.1 := by rw [hsn]
    have q2 : ((if s2.1 - c > s1.1 then s2.1 - c else s1.1), (if s2.2.1 - c < s1.2.1 then s2.2.1 - c else s1.2.1), p4).2.1 = sn.2.1 := by rw [hsn]
    have q3 : p4 = sn.2.2 := by rw [hsn]
    dsimp only at q1 q2
    rw [q1, q2, q3]
    obtain ⟨⟨v3, ks3⟩, hx3⟩ : ∃ x, KV3[i]? = some x := ⟨_, List.getElem?_eq_getElem (by have := k1.kl; omega)⟩
    obtain ⟨ka3, kc3, hv3⟩ := k1.shape _ (List.mem_of_getElem? hx3)
    dsimp only at hv3
    subst hv3
    have hkm3 : ks3.length ≤ _ := k1.km _ (List.mem_of_getElem? hx3)
    refine WC.chunks (C' := [rowc (.slice ka3 ks3.length kc3) ks3.length 214 3 (spans ks3), kRows (KV3.eraseIdx i), pt b12 [Value.int .i64 sn.1, .int .i64 sn.2.1, .int .i64 (sn.2.2 : Int)] 214, pt bx (linCells bm Cc (.slice ea 3 ec) KV3) 212, mkr G5 bm l4, rowc (.slice ea 3 ec) 3 214 3 (spans (endL rel b)), pt b6 [.int .i64 0, .int .i64 0, .int .i64 0] 214]) (fun w hS => St.kOpen hx3 (jK hS)) ?_
    refine WC.drawsL (by kernel_rfl) (FactsOk.cons (ds := [10, 14]) (LoadOk.by (Y := fun w => w.cell? ⟨bx, 26 + i * 1, none⟩ = some (.slice ka3 ks3.length kc3)) (fun w hS => by rw [Nat.mul_one]; exact hS.cell (cs := linCells bm Cc (.slice ea 3 ec) KV3) jM (linCells_known hCl hx3))) (FactsOk.cons (ds := [9, 10, 14]) (LoadOk.whole (t := 12) rfl jM) (FactsOk.nil))) ?_
    refine jT 0 rfl (Yl.move rfl) ?_
    refine jT 1 rfl (Yl.move rfl) ?_
    refine jT 2 rfl (Yl.move rfl) ?_
    refine jT 3 rfl (Yl.move rfl) ?_
    refine jT 4 rfl (Yl.nilCheck rfl) ?_
    refine jT 5 rfl (Yl.fieldAddr0 F.fld212_3 rfl) ?_
    refine jT 6 rfl (Yl.indexAddrA (i := i) arKnown rfl rfl hlt) ?_
    refine jF 7 0 rfl rfl (Yl.load1 F.one209 rfl) ?_
    refine jF 8 1 rfl rfl (Yl.loadN F.agg214 rfl rfl) ?_
    refine jT 11 rfl (Yl.nilCheck rfl) ?_
    refine jT 12 rfl (Yl.fieldAddr0 F.fld212_3 rfl) ?_
    refine jA 9 rfl ?_
    refine WL.buildSlice F.sl209 F.ez209 rfl rfl rfl rfl jB rfl (fun b104 => ?_)
    refine WD.on (closed_of (by decide +kernel)) (fun w hS => Sx.keep (by rw [Nat.mul_one]; exact hS.cell (cs := linCells bm Cc (.slice ea 3 ec) KV3) jM (linCells_known hCl hx3)) (Sx.gone rfl (Sx.none))) ?_
    refine jA 10 rfl ?_
    refine WL.appendE (news := [Value.int .i64 sn.1, .int .i64 sn.2.1, .int .i64 (sn.2.2 : Int)]) F.el209 rfl rfl rfl jR (fun w hS jj u hu => by rw [Nat.zero_add]; exact hS.cell (cs := [Value.int .i64 sn.1, .int .i64 sn.2.1, .int .i64 (sn.2.2 : Int)]) jM hu) rfl jO (Nat.le_trans (m := 67108864) (by omega) (by decide)) (by omega) (fun a4 c4 => ?_)
    refine jG ?_
    refine jT 13 rfl (Yl.indexAddrA (i := i) arKnown rfl rfl hlt) ?_
    refine jA 14 rfl ?_
    have linset : SetN (linCells bm Cc (.slice ea 3 ec) KV3) (26 + i * 1) [.slice a4 (ks3.length + 1) c4] (linCells bm Cc (.slice ea 3 ec) (KV3.set i (.slice a4 (ks3.length + 1) c4, ks3 ++ [sn]))) := by
     have h7 := setN_set (linCells bm Cc (.slice ea 3 ec) KV3) (26 + i) (.slice a4 (ks3.length + 1) c4) (List.getElem?_eq_some_iff.1 (linCells_known hCl hx3)).1
     rw [linCells_set (y := (.slice a4 (ks3.length + 1) c4, ks3 ++ [sn])) hCl] at h7
     rw [Nat.mul_one]; exact h7
    refine WL.store1 (cs := linCells bm Cc (.slice ea 3 ec) KV3) (cs' := linCells bm Cc (.slice ea 3 ec) (KV3.set i (.slice a4 (ks3.length + 1) c4, ks3 ++ [sn]))) F.one209 rfl rfl rfl jU linset ?_
    refine jG ?_
    refine jD ?_
    refine jN 10 ?_
    refine WQ.ret (rs := [.cell 6 214]) rfl (.cellN F.agg214 rfl jM rfl .nil) (fun w hS => ?_)
    have hS1 := St.kPut (KV := KV3) (i := i) (ks := ks3) (a := a4) (c := c4) (s := sn) (n := ks3.length + 1) (by have := k1.kl; omega) rfl (St.pick (St.pick hS (c := kRows (KV3.eraseIdx i)) jR) (c := rowc (.slice a4 (ks3.length + 1) c4) (ks3.length + 1) 214 3 (spans ks3 ++ [Value.int .i64 sn.1, .int .i64 sn.2.1, .int .i64 (sn.2.2 : Int)])) jR)
    have hlk := (k1.node hm4 hl4).snoc (d := 24 - (i + 1)) (v2 := .slice a4 (ks3.length + 1) c4) (by omega) (by rw [show 23 - (24 - (i + 1)) = i by omega]; exact hx3) hkm3 (by rw [show 24 - (i + 1) + 1 = 24 - i by omega]; exact hq1) ⟨_, _, rfl⟩
    rw [show 23 - (24 - (i + 1)) = i by omega] at hlk
    exact ⟨⟨(_, l4, _, sn), ⟨hlk.mono (by omega), (j2.trans k2).trans (ExtL.made hm4), hq1, hq2, hq3⟩⟩, rfl, St.linClose (jK hS1)⟩
   ·refine WL.alloc F.zero214 rfl (fun b12 => ?_)
    refine WD.on (closed_of (by decide +kernel)) (fun w hS => Sx.keep (hS.cell jM rfl) (Sx.keep (hS.cell jM rfl) (Sx.keep (by rw [Nat.mul_one]; exact hS.cell (cs := linCells bm Cc (.slice ea 3 ec) KV3) jM (linCells_cost hc)) (Sx.keep (hS.cell jM rfl) (Sx.keep (hS.cell jM rfl) (Sx.keep (by rw [Nat.mul_one]; exact hS.cell (cs := linCells bm Cc (.slice ea 3 ec) KV3) jM (linCells_cost hc)) (Sx.keep (hS.cell jM rfl) (Sx.keep (hS.cell jM rfl) (Sx.keep (hS.cell jM rfl) (Sx.none)))))))))) ?_
    refine jA 33 rfl ?_
    refine WL.callC (β := { z : List Nat × List Dec × Nat // MadeN l3 z.2.1 z.2.2 (mkN i (trs l3 s1.2.2) (trs l3 s2.2.2)) ∧ z.2.1.length ≤ l3.length + 1 }) (res := fun z => .int .i64 (z.1.2.2 : Int)) (cs := fun z => [mkr z.1.1 bm z.1.2.1]) (Cs := [mkr G4 bm l3]) (C1 := [pt b12 [.int .i64 0, .int .i64 0, .int .i64 0] 214, pt bx (linCells bm Cc (.slice ea 3 ec) KV3) 212, rowc (.slice ea 3 ec) 3 214 3 (spans (endL rel b)), kRows KV3, pt b11 [Value.int .i64 s2.1, .int .i64 s2.2.1, .int .i64 (s2.2.2 : Int)] 214, pt b10 [Value.int .i64 s1.1, .int .i64 s1.2.1, .int .i64 (s1.2.2 : Int)] 214, pt b6 [.int .i64 0, .int .i64 0, .int .i64 0] 214]) (O' := G4) F.fun149 (fun d h => by cases h; rfl) rfl (((List.Perm.swap _ _ _).cons _).trans (List.Perm.swap _ _ _)) bun_O1 bun_O2 (fun w hS hS2 => mnode_c G4 bm l3 i s1.2.2 s2.2.2 w hlt k1.mks j3x.lt k3.lt (by omega) hS2) (fun ⟨⟨G5, l4, p4⟩, hm4, hl4⟩ => ?_)
    refine WD.on (closed_of (by decide +kernel)) (fun w hS => Sx.keep (hS.cell jM rfl) (Sx.keep (hS.cell jM rfl) (Sx.keep (by rw [Nat.mul_one]; exact hS.cell (cs := linCells bm Cc (.slice ea 3 ec) KV3) jM (linCells_cost hc)) (Sx.keep (hS.cell jM rfl) (Sx.keep (hS.cell jM rfl) (Sx.keep (by rw [Nat.mul_one]; exact hS.cell (cs := linCells bm Cc (.slice ea 3 ec) KV3) jM (linCells_cost hc)) (Sx.gone rfl (Sx.gone rfl (Sx.gone rfl (Sx.none)))))))))) ?_
    dsimp only at hm4 hl4 ⊢
    have hq := SpanOk.new (x := c) (sum := sum) (p := p4) j3x k3 (by omega) (by rw [show 23 - (24 - (i + 1)) = i by omega]; exact hcg) ⟨j4, j5⟩ ⟨k4, k5⟩ (by rw [show 23 - (24 - (i + 1)) = i by omega]; exact hm4) (lo := ((if s2.1 - c > s1.1 then s2.1 - c else s1.1), (if s2.2.1 - c < s1.2.1 then s2.2.1 - c else s1.2.1), p4).1) (hi := ((if s2.1 - c > s1.1 then s2.1 - c else s1.1), (if s2.2.1 - c < s1.2.1 then s2.2.1 - c else s1.2.1), p4).2.1) (by dsimp only; split <;> omega) (by dsimp only; split <;> omega)
    rw [show 24 - (i + 1) + 1 = 24 - i by omega] at hq
    refine jT 34 rfl (Yl.build F.stT214 rfl jB) ?_
    refine jA 36 rfl ?_
    refine WL.storeN F.agg214 rfl rfl rfl jO jU jS ?_
    refine jG ?_
    refine jD ?_
    refine jN 2 ?_
    obtain ⟨sn, hsn⟩ : ∃ s : SpanV, s = ((if s2.1 - c > s1.1 then s2.1 - c else s1.1), (if s2.2.1 - c < s1.2.1 then s2.2.1 - c else s1.2.1), p4) := ⟨_, rfl⟩
    rw [← hsn] at hq
    obtain ⟨hq1, hq2, hq3⟩ := hq
    have q1 : ((if s2.1 - c > s1.1 then s2.1 - c else s1.1), (if s2.2.1 - c < s1.2.1 then s2.2.1 - c else s1.2.1), p4).1 = sn.1 := by rw [hsn]
    have q2 : ((if s2.1 - c > s1.1 then s2.1 - c else s1.1), (if s2.2.1 - c < s1.2.1 then s2.2.1 - c else s1.2.1), p4).2.1 = sn.2.1 := by rw [hsn]
    have q3 : p4 = sn.2.2 := by rw [hsn]
    dsimp only at q1 q2
    rw [q1, q2, q3]
    obtain ⟨⟨v3, ks3⟩, hx3⟩ : ∃ x, KV3[i]? = some x := ⟨_, List.getElem?_eq_getElem (by have := k1.kl; omega)⟩
    obtain ⟨ka3, kc3, hv3⟩ := k1.shape _ (List.mem_of_getElem? hx3)
    dsimp only at hv3
    subst hv3
    have hkm3 : ks3.length ≤ _ := k1.km _ (List.mem_of_getElem? hx3)
    refine WC.chunks (C' := [rowc (.slice ka3 ks3.length kc3) ks3.length 214 3 (spans ks3), kRows (KV3.eraseIdx i), pt b12 [Value.int .i64 sn.1, .int .i64 sn.2.1, .int .i64 (sn.2.2 : Int)] 214, pt bx (linCells bm Cc (.slice ea 3 ec) KV3) 212, mkr G5 bm l4, rowc (.slice ea 3 ec) 3 214 3 (spans (endL rel b)), pt b6 [.int .i64 0, .int .i64 0, .int .i64 0] 214]) (fun w hS => St.kOpen hx3 (jK hS)) ?_
    refine WC.drawsL (by kernel_rfl) (FactsOk.cons (ds := [10, 14]) (LoadOk.by (Y := fun w => w.cell? ⟨bx, 26 + i * 1, none⟩ = some (.slice ka3 ks3.length kc3)) (fun w hS => by rw [Nat.mul_one]; exact hS.cell (cs := linCells bm Cc (.slice ea 3 ec) KV3) jM (linCells_known hCl hx3))) (FactsOk.cons (ds := [9, 10, 14]) (LoadOk.whole (t := 12) rfl jM) (FactsOk.nil))) ?_
    refine jT 0 rfl (Yl.move rfl) ?_
    refine jT 1 rfl (Yl.move rfl) ?_
    refine jT 2 rfl (Yl.move rfl) ?_
    refine jT 3 rfl (Yl.move rfl) ?_
    refine jT 4 rfl (Yl.nilCheck rfl) ?_
    refine jT 5 rfl (Yl.fieldAddr0 F.fld212_3 rfl) ?_
    refine jT 6 rfl (Yl.indexAddrA (i := i) arKnown rfl rfl hlt) ?_
    refine jF 7 0 rfl rfl (Yl.load1 F.one209 rfl) ?_
    refine jF 8 1 rfl rfl (Yl.loadN F.agg214 rfl rfl) ?_
    refine jT 11 rfl (Yl.nilCheck rfl) ?_
    refine jT 12 rfl (Yl.fieldAddr0 F.fld212_3 rfl) ?_
    refine jA 9 rfl ?_
    refine WL.buildSlice F.sl209 F.ez209 rfl rfl rfl rfl jB rfl (fun b104 => ?_)
    refine WD.on (closed_of (by decide +kernel)) (fun w hS => Sx.keep (by rw [Nat.mul_one]; exact hS.cell (cs := linCells bm Cc (.slice ea 3 ec) KV3) jM (linCells_known hCl hx3)) (Sx.gone rfl (Sx.none))) ?_
    refine jA 10 rfl ?_
    refine WL.appendE (news := [Value.int .i64 sn.1, .int .i64 sn.2.1, .int .i64 (sn.2.2 : Int)]) F.el209 rfl rfl rfl jR (fun w hS jj u hu => by rw [Nat.zero_add]; exact hS.cell (cs := [Value.int .i64 sn.1, .int .i64 sn.2.1, .int .i64 (sn.2.2 : Int)]) jM hu) rfl jO (Nat.le_trans (m := 67108864) (by omega) (by decide)) (by omega) (fun a4 c4 => ?_)
    refine jG ?_
    refine jT 13 rfl (Yl.indexAddrA (i := i) arKnown rfl rfl hlt) ?_
    refine jA 14 rfl ?_
    have linset : SetN (linCells bm Cc (.slice ea 3 ec) KV3) (26 + i * 1) [.slice a4 (ks3.length + 1) c4] (linCells bm Cc (.slice ea 3 ec) (KV3.set i (.slice a4 (ks3.length + 1) c4, ks3 ++ [sn]))) := by
     have h7 := setN_set (linCells bm Cc (.slice ea 3 ec) KV3) (26 + i) (.slice a4 (ks3.length + 1) c4) (List.getElem?_eq_some_iff.1 (linCells_known hCl hx3)).1
     rw [linCells_set (y := (.slice a4 (ks3.length + 1) c4, ks3 ++ [sn])) hCl] at h7
     rw [Nat.mul_one]; exact h7
    refine WL.store1 (cs := linCells bm Cc (.slice ea 3 ec) KV3) (cs' := linCells bm Cc (.slice ea 3 ec) (KV3.set i (.slice a4 (ks3.length + 1) c4, ks3 ++ [sn]))) F.one209 rfl rfl rfl jU linset ?_
    refine jG ?_
    refine jD ?_
    refine jN 10 ?_
    refine WQ.ret (rs := [.cell 6 214]) rfl (.cellN F.agg214 rfl jM rfl .nil) (fun w hS => ?_)
    have hS1 := St.kPut (KV := KV3) (i := i) (ks := ks3) (a := a4) (c := c4) (s := sn) (n := ks3.length + 1) (by have := k1.kl; omega) rfl (St.pick (St.pick hS (c := kRows (KV3.eraseIdx i)) jR) (c := rowc (.slice a4 (ks3.length + 1) c4) (ks3.length + 1) 214 3 (spans ks3 ++ [Value.int .i64 sn.1, .int .i64 sn.2.1, .int .i64 (sn.2.2 : Int)])) jR)
    have hlk := (k1.node hm4 hl4).snoc (d := 24 - (i + 1)) (v2 := .slice a4 (ks3.length + 1) c4) (by omega) (by rw [show 23 - (24 - (i + 1)) = i by omega]; exact hx3) hkm3 (by rw [show 24 - (i + 1) + 1 = 24 - i by omega]; exact hq1) ⟨_, _, rfl⟩
    rw [show 23 - (24 - (i + 1)) = i by omega] at hlk
    exact ⟨⟨(_, l4, _, sn), ⟨hlk.mono (by omega), (j2.trans k2).trans (ExtL.made hm4), hq1, hq2, hq3⟩⟩, rfl, St.linClose (jK hS1)⟩
 ·have hie : i = 24 := by simp at h18; omega
  subst hie
  refine jN 14 ?_
  refine WC.chunks (C' := [pt b6 [.int .i64 0, .int .i64 0, .int .i64 0] 214, pt bx (linCells bm Cc (.slice ea 3 ec) KV) 212, mkr G bm l, rowc (.slice ea 3 ec) 3 214 3 (spans (endL rel b)), kRows KV]) (fun w hS => (jK hS)) ?_
  refine WC.loop (α := Nat) (fun k => k ≤ 3 ∧ ∀ j s, j < k → (endL rel b)[j]? = some s → ¬ (s.1 ≤ sum ∧ sum ≤ s.2.1)) (fun k => [(0, pp bx), (2, .int .i64 sum), (6, pp b6), (25, (.slice ea 3 ec)), (26, .int .i64 3), (27, .int .i64 (k : Int))]) (fun _ => [pt b6 [.int .i64 0, .int .i64 0, .int .i64 0] 214, pt bx (linCells bm Cc (.slice ea 3 ec) KV) 212, mkr G bm l, rowc (.slice ea 3 ec) 3 214 3 (spans (endL rel b)), kRows KV]) (fun k => 3 - k) (0) ?_ ?_ ?_ ?_
  ·exact ⟨Nat.zero_le _, fun j s hj => by omega⟩
  ·exact ⟨rfl, rfl, rfl, rfl, rfl, rfl, trivial⟩
  ·rfl
  rintro k ⟨hk, hno⟩
  show WC _ _ _ _ _ _ _ [(0, pp bx), (2, .int .i64 sum), (6, pp b6), (25, (.slice ea 3 ec)), (26, .int .i64 3), (27, .int .i64 (k : Int))] [pt b6 [.int .i64 0, .int .i64 0, .int .i64 0] 214, pt bx (linCells bm Cc (.slice ea 3 ec) KV) 212, mkr G bm l, rowc (.slice ea 3 ec) 3 214 3 (spans (endL rel b)), kRows KV]
  refine jN 7 ?_
  refine WC.cond rfl (fun h28 => ?_) (fun h28 => ?_)
  ·have hlt2 : k < 3 := by (simp at h28; omega)
   obtain ⟨s, hs⟩ : ∃ s, (endL rel b)[k]? = some s := ⟨_, List.getElem?_eq_getElem hlt2⟩
   refine WC.know (φ := ∃ g, ea = some ⟨g, 0, none⟩ ∧ 3 = 3 ∧ 3 ≤ ec) (fun w hS => rowc_addr (hS.ok (rowc (.slice ea 3 ec) 3 214 3 (spans (endL rel b))) jM) (by omega)) (fun ⟨g, hg, _, _⟩ => ?_)
   subst hg
   refine jN 7 ?_
   refine WL.indexAddr F.sl209 rfl rfl rfl hlt2 ?_
   refine jN 1 ?_
   refine WL.loadN F.agg214 rfl rfl (vs := [Value.int .i64 s.1, .int .i64 s.2.1, .int .i64 (s.2.2 : Int)]) rfl (fun w hS j u hu => by rw [Nat.zero_add]; exact rowc_cells (hS.ok (rowc (.slice (some ⟨g, 0, none⟩) 3 ec) 3 214 3 (spans (endL rel b))) jM) (spans_at hs j u hu)) ?_
   refine jN 1 ?_
   refine WL.alloc F.zero214 rfl (fun b9 => ?_)
   refine jN 16 ?_
   refine WA.splitB (i := 35) rfl (fun g35 => ?_) (fun g35 => ?_)
   ·have hs1 : s.1 ≤ sum := by simpa using g35
    refine jN 16 ?_
    refine WC.cond rfl (fun h40 => ?_) (fun h40 => ?_)
    ·have hs2 : sum ≤ s.2.1 := by simpa using h40
     refine jN 14 ?_
     refine WQ.ret (rs := [.cell 6 214]) rfl (.cellN F.agg214 rfl jM rfl .nil) (fun w hS => ?_)
     exact ⟨⟨(_, l, KV, s), ⟨hL.mono (Nat.le_add_right _ _), ExtL.refl _, endL_ok hrel hb s (List.mem_of_getElem? hs), hs1, hs2⟩⟩, rfl, St.linClose (jK hS)⟩
    ·have hs2 : ¬ sum ≤ s.2.1 := by simpa using h40
     refine jN 9 ?_
     refine WQ.chunks (C' := [pt b6 [.int .i64 0, .int .i64 0, .int .i64 0] 214, pt bx (linCells bm Cc (.slice (some ⟨g, 0, none⟩) 3 ec) KV) 212, mkr G bm l, rowc (.slice (some ⟨g, 0, none⟩) 3 ec) 3 214 3 (spans (endL rel b)), kRows KV]) (fun w hS => (jK hS)) ?_
     have hno2 : ∀ j s, j < k + 1 → (endL rel b)[j]? = some s → ¬ (s.1 ≤ sum ∧ sum ≤ s.2.1) := fun j s2 hj hj2 => by
      rcases Nat.lt_or_ge j k with h | h
      ·exact hno j s2 h hj2
      ·have e : j = k := by omega
       subst e
       rw [hs] at hj2
       cases hj2
       exact fun h => hs2 h.2
     refine WQ.back (k + 1) ?_ ?_ ?_ ?_
     ·exact ⟨by omega, hno2⟩
     ·(show 3 - (k + 1) < 3 - k; omega)
     ·exact ⟨rfl, rfl, rfl, rfl, rfl, rfl, trivial⟩
     ·rfl
   ·have hs1 : ¬ s.1 ≤ sum := by simpa using g35
    refine jN 22 ?_
    refine WQ.chunks (C' := [pt b6 [.int .i64 0, .int .i64 0, .int .i64 0] 214, pt bx (linCells bm Cc (.slice (some ⟨g, 0, none⟩) 3 ec) KV) 212, mkr G bm l, rowc (.slice (some ⟨g, 0, none⟩) 3 ec) 3 214 3 (spans (endL rel b)), kRows KV]) (fun w hS => (jK hS)) ?_
    have hno2 : ∀ j s, j < k + 1 → (endL rel b)[j]? = some s → ¬ (s.1 ≤ sum ∧ sum ≤ s.2.1) := fun j s2 hj hj2 => by
     rcases Nat.lt_or_ge j k with h | h
     ·exact hno j s2 h hj2
     ·have e : j = k := by omega
      subst e
      rw [hs] at hj2
      cases hj2
      exact fun h => hs1 h.1
    refine WQ.back (k + 1) ?_ ?_ ?_ ?_
    ·exact ⟨by omega, hno2⟩
    ·(show 3 - (k + 1) < 3 - k; omega)
    ·exact ⟨rfl, rfl, rfl, rfl, rfl, rfl, trivial⟩
    ·rfl
  ·exfalso
   have hke : k = 3 := by (simp at h28; omega)
   subst hke
   obtain ⟨s, hs, hs2⟩ := endL_hit (rel := rel) (b := b) (sum := sum) ⟨by omega, by omega⟩
   obtain ⟨j, hj⟩ := List.getElem?_of_mem hs
   exact hno j s (List.getElem?_eq_some_iff.1 hj).1 hj hs2

end Go.Proofs.YtkgllhkhdjodeaaGreat

namespace Go.Proofs.YtkgllhkhdjodeaaGreat
open Go Go.Eng Go.Proofs Dg
def padI (l : List Int) : List Int := l ++ List.replicate (24 - l.length) 0
theorem padI_len {l : List Int} (h : l.length ≤ 24) : (padI l).length = 24 := by
 unfold padI; rw [List.length_append, List.length_replicate]; omega
theorem padI_get (l : List Int) (j : Nat) : (padI l).getD j 0 = l.getD j 0 := by
 unfold padI
 rw [List.getD_eq_getElem?_getD, List.getD_eq_getElem?_getD]
 by_cases h : j < l.length
 ·rw [List.getElem?_append_left h]
 ·rw [List.getElem?_append_right (by omega), List.getElem?_replicate, List.getElem?_eq_none (show l.length ≤ j by omega)]
  split <;> rfl
theorem padI_ok {l : List Int} (h : l.all costOk = true) : (padI l).all costOk = true := by
 unfold padI
 rw [List.all_append, h, Bool.true_and, List.all_eq_true]
 intro x hx
 rw [List.eq_of_mem_replicate hx]
 decide
theorem tailN_pad (l : List Int) (cf : Cf) : ∀ d : Nat, tailN (padI l) cf d = tailN l cf d
 | 0 => rfl
 | d + 1 => by rw [tailN, tailN, tailN_pad l cf d, padI_get]
abbrev KV0 : List KRow := List.replicate 24 (.slice none 0 0, [])
theorem lin_copy {l : List Int} (h : l.length ≤ 24) (bm : Nat) (KV : List KRow) : (linCells bm (List.replicate 24 0) (.slice none 0 0) KV).take 1 ++ l.map (Value.int .i64) ++ (linCells bm (List.replicate 24 0) (.slice none 0 0) KV).drop (1 + l.length) = linCells bm (padI l) (.slice none 0 0) KV := by
 unfold linCells padI
 rw [List.take_succ_cons, List.take_zero, Nat.add_comm, List.drop_succ_cons, List.drop_append_of_le_length (by simpa using h), List.map_append, List.map_replicate, List.map_replicate, List.drop_replicate]
 simp
theorem lin_ends {C : List Int} (h : C.length = 24) (bm : Nat) (v v' : Value) (KV : List KRow) : SetN (linCells bm C v KV) 25 [v'] (linCells bm C v' KV) := by
 have h7 := setN_set (linCells bm C v KV) 25 v' (by unfold linCells; simp [h]; omega)
 have e : (linCells bm C v KV).set 25 v' = linCells bm C v' KV := by
  unfold linCells
  rw [List.set_cons_succ, List.set_append_right _ _ (by simp [h]), List.length_map, h]
  rfl
 rwa [e] at h7
theorem lin_start (C : List Int) (rel : Nat) (b : Int) : LinOk C rel b 0 [] KV0 := by
 refine ⟨Mk.nil, rfl, fun x hx => ?_, fun i x hx s hs => ?_, Nat.le_refl _, fun x hx => ?_⟩
 ·rw [List.eq_of_mem_replicate hx]; exact ⟨_, _, rfl⟩
 ·rw [List.eq_of_mem_replicate (List.mem_of_getElem? hx)] at hs; cases hs
 ·rw [List.eq_of_mem_replicate hx]; exact Nat.zero_le _
theorem St.kNils {w0 w : World} {O : List Nat} {C : List Chunk} : ∀ n : Nat, St w0 O C w → St w0 O ((List.replicate n ((.slice none 0 0, []) : KRow)).map rowOf ++ C) w
 | 0, h => h
 | n + 1, h => (St.kNils n h).rowNil 214 3
theorem St.kStart {w0 w : World} {O : List Nat} {C : List Chunk} (h : St w0 O C w) : St w0 O (kRows KV0 :: C) w :=
 St.bunClose' (φ := fun _ => True) (Cs := fun _ : Unit => KV0.map rowOf) () trivial (fpl_rows _) (St.kNils 24 h)
theorem linC_mk {F : List Nat} {bx bm : Nat} {Cc : List Int} {ve : Value} {E : List SpanV} {l : List Dec} {KV : List KRow} {w : World} (h : (linC F bx bm Cc ve E l KV).ok w) : w.cell? ⟨bx, 0, none⟩ = some (pp bm) := by
 obtain ⟨G, _, h3, _⟩ := h
 have h5 : w.heap[bx]? = some (.cells (linCells bm Cc ve KV).toArray 212 (0, 0)) := h3 (pt bx (linCells bm Cc ve KV) 212) (by simp [linCs])
 simp [World.cell?, h5, linCells]
theorem linear_ev {l : List Int} {rel : Nat} {bound : Int} (hok : l.all costOk = true) (hrel : 1 ≤ rel ∧ rel ≤ 3) (cf : Cf) : relB rel (0 + tailN (padI l) cf 24) (clampB bound) = relB rel (tailN l cf 24) bound := by
 have h1 := tailN_bd hok cf 24
 rw [Int.zero_add, tailN_pad, relB_clamp hrel ⟨by omega, by omega⟩]

set_option maxRecDepth 100000 in
theorem Linear_1 (l : List Int) (bound : Int) (hv : costsB l = true) (hll : l.length ≤ 1099511627776) (hbd : -9223372036854775808 ≤ bound ∧ bound < 9223372036854775808) (a : Option Addr) (c : Nat) (w : World) (hr : RdC w l a) :
  Calls Tryz.prog 112 [.slice a l.length c, .int .u8 1, .int .i64 bound].toArray w fun e w' => ∃ z : DRes (fun cf => relB 1 (tailN l cf 24) bound), e = .returned (.tuple #[z.v, .int .i64 0]) ∧ St w [] [z.ch] w' := by
 have hv9 := hv
 unfold costsB at hv9
 rw [Bool.and_eq_true, decide_eq_true_eq] at hv9
 obtain ⟨hok, hl24⟩ := hv9
 refine enter Tryz.func112 rfl Tryz.ntmps112 rfl (St.init _) ?_
 refine jN 3 ?_
 refine WL.alloc F.zero35 rfl (fun b6 => ?_)
 refine jN 10 ?_
 refine WL.callV F.fun155 rfl rfl (fun w hS => lvalid_c l a c hll w (hr.next hS)) ?_
 rw [hv]
 refine jN 4 ?_
 refine WA.splitB (i := 13) rfl (fun g13 => ?_) (fun g13 => ?_)
 ·cases g13
 ·refine jN 9 ?_
  refine WA.splitB (i := 16) rfl (fun g16 => ?_) (fun g16 => ?_)
  ·cases g16
  ·refine jN 29 ?_
   refine WL.maxI (r := max bound (-17592186044416)) rfl rfl rfl (by split <;> omega) ?_
   refine jN 1 ?_
   refine WL.minI (r := clampB bound) rfl rfl rfl (by unfold clampB; split <;> omega) ?_
   refine jN 2 ?_
   have hcb := clampB_bd bound
   refine jN 5 ?_
   refine WL.buildA F.arT206 rfl jB rfl ?_
   refine jN 1 ?_
   refine WL.alloc F.zero206 rfl (fun b8 => ?_)
   refine jN 23 ?_
   refine WL.buildA F.arT206 rfl jB rfl ?_
   refine jN 8 ?_
   refine jC (β := List Nat × Nat) (res := fun x => pp x.2) (cs := fun x => [mkr x.1 x.2 []]) F.fun147 rfl (fun w hS _ => newMaker_c w) (fun ⟨G0, bm⟩ => ?_)
   refine jN 3 ?_
   refine WL.boxN rfl rfl (fun b40 => ?_)
   refine jN 6 ?_
   refine WA.chunks (C' := [pt b40 (linCells bm (List.replicate 24 0) (.slice none 0 0) KV0) 212, mkr G0 bm [], pt b8 [.int .i64 1, .int .i64 1, .int .i64 0] 206, pt b6 [.slice none 0 0, .int .i64 0] 35]) (fun w hS => (jK hS)) ?_
   refine jN 7 ?_
   refine WL.sliceArr arCost rfl rfl ?_
   refine jN 3 ?_
   refine WL.copyPt (o := 1) (cs := linCells bm (List.replicate 24 0) (.slice none 0 0) KV0) (vs := l.map (Value.int .i64)) F.und90 (by kernel_rfl) rfl rfl rfl (by rw [List.length_map]; exact (Nat.min_eq_left hl24).symm) (fun w hS j v hj => ?_) (by rw [List.length_map]; unfold linCells; simp; omega) (fun v hv => ?_) jU ?_
   ·rw [List.getElem?_map] at hj
    cases hq : l[j]? with
    | none => rw [hq] at hj; cases hj
    | some x =>
     rw [hq] at hj
     cases hj
     obtain ⟨b9, off9, e1, e2⟩ := hr j x hq
     exact ⟨b9, off9, e1, hS.oldc e2 (by simp)⟩
   ·obtain ⟨x, _, rfl⟩ := List.mem_map.1 hv
    rfl
   rw [List.length_map, lin_copy hl24]
   refine jN 11 ?_
   refine WL.indexAddrA (i := 0) F.arT206 rfl rfl rfl (by decide) ?_
   refine jN 9 ?_
   refine WL.indexAddrA (i := 1) F.arT206 rfl rfl rfl (by decide) ?_
   refine jN 9 ?_
   refine WL.indexAddrA (i := 2) F.arT206 rfl rfl rfl (by decide) ?_
   refine jN 5 ?_
   refine WL.buildSlice F.sl209 F.ez209 rfl rfl rfl rfl jB rfl (fun b63 => ?_)
   refine jN 5 ?_
   refine WL.store1 (cs := linCells bm (padI l) (.slice none 0 0) KV0) (cs' := linCells bm (padI l) (.slice (some ⟨b63, 0, none⟩) 3 3) KV0) F.one209 rfl rfl rfl jU (lin_ends (padI_len hl24) bm _ _ KV0) ?_
   refine jN 3 ?_
   refine WC.chunks (C' := [pt b40 (linCells bm (padI l) (.slice (some ⟨b63, 0, none⟩) 3 3) KV0) 212, mkr G0 bm [], rowc (.slice (some ⟨b63, 0, none⟩) 3 3) 3 214 3 (spans (endL 1 (clampB bound))), kRows KV0, pt b6 [.slice none 0 0, .int .i64 0] 35]) (fun w hS => ?_) ?_
   ·have hS1 := St.kStart (St.rowOf (n := 3) (sz := 3) ((St.pick hS (c := pt b63 [Value.int .i64 (-35184372088832), .int .i64 (clampB bound - 1), .int .i64 1, .int .i64 (clampB bound), .int .i64 (clampB bound), .int .i64 1, .int .i64 (clampB bound + 1), .int .i64 35184372088832, .int .i64 0] 214) jR)) rfl (by decide))
    exact (jK hS1)
   refine WC.draws [([7, 8], fun w => w.cell? ⟨b40, 0, none⟩ = some (pp bm))] (by kernel_rfl) (fun w hS => facts_cons (hS.cell (cs := linCells bm (padI l) (.slice (some ⟨b63, 0, none⟩) 3 3) KV0) jM rfl) (facts_nil)) ?_
   refine jT 0 rfl (Yl.move rfl) ?_
   refine jT 1 rfl (Yl.nilCheck rfl) ?_
   refine jT 2 rfl (Yl.fieldAddr0 F.fld212_0 rfl) ?_
   refine jF 3 0 rfl rfl (Yl.load1 F.one200 rfl) ?_
   refine jT 4 rfl (Yl.move rfl) ?_
   refine jA 5 rfl ?_
   refine WA.chunksE (C' := fun F1 => [linC F1 b40 bm (padI l) (.slice (some ⟨b63, 0, none⟩) 3 3) (endL 1 (clampB bound)) [] KV0, pt b6 [.slice none 0 0, .int .i64 0] 35]) (fun w hS => ?_) (fun F1 => ?_)
   ·exact ⟨_, St.linClose (jK hS)⟩
   refine WL.callC (β := { z : LinZ // LinP (padI l) 1 (clampB bound) 0 [] 0 0 z }) (res := fun z => .agg ([Value.int .i64 z.1.2.2.2.1, .int .i64 z.1.2.2.2.2.1, .int .i64 (z.1.2.2.2.2.2 : Int)]).toArray) (cs := fun z => [linC z.1.1 b40 bm (padI l) (.slice (some ⟨b63, 0, none⟩) 3 3) (endL 1 (clampB bound)) z.1.2.1 z.1.2.2.1]) (Cs := [linC F1 b40 bm (padI l) (.slice (some ⟨b63, 0, none⟩) 3 3) (endL 1 (clampB bound)) [] KV0]) (C1 := [pt b6 [.slice none 0 0, .int .i64 0] 35]) (O' := F1) F.fun156 (fun d h => by cases h; rfl) rfl (List.Perm.refl _) bun_O1 bun_O2 (fun w hS hS2 => from_c b40 bm (padI l) (padI_len hl24) (padI_ok hok) 1 (clampB bound) ⟨by decide, by decide⟩ hcb (some ⟨b63, 0, none⟩) 3 25 0 (by omega) (by omega) F1 [] KV0 0 0 w (lin_start _ _ _) (by decide) ⟨by omega, by omega⟩ hS2) (fun ⟨z1, hz1⟩ => ?_)
   obtain ⟨F2, l2, KV2, s1⟩ := z1
   obtain ⟨j1, j2, j3, j4, j5⟩ := hz1
   dsimp only at j1 j2 j3 j4 j5 ⊢
   rw [show (24 - 0 : Nat) = 24 from rfl] at j3
   refine WD.on (closed_of (by kernel_rfl)) (fun w hS => Sx.keep (linC_mk (hS.ok (linC F2 b40 bm (padI l) (.slice (some ⟨b63, 0, none⟩) 3 3) (endL 1 (clampB bound)) l2 KV2) (List.mem_cons_self ..))) (Sx.none)) ?_
   skip
   refine jT 6 rfl (Yl.field1 (ft := 3) (off := 2) (by kernel_rfl) F.one3 rfl rfl) ?_
   refine jA 7 rfl ?_
   refine WA.openB (fun G2 _ _ _ => ?_)
   simp only [linCs, List.cons_append, List.nil_append]
   refine WL.callC (β := Option Addr × Nat) (res := fun z => dval (trs l2 s1.2.2) z.1 z.2) (cs := fun z => [dC z.1 z.2 (trs l2 s1.2.2)]) (Cs := [mkr G2 bm l2]) (C1 := [pt b40 (linCells bm (padI l) (.slice (some ⟨b63, 0, none⟩) 3 3) KV2) 212, rowc (.slice (some ⟨b63, 0, none⟩) 3 3) 3 214 3 (spans (endL 1 (clampB bound))), kRows KV2, pt b6 [.slice none 0 0, .int .i64 0] 35]) (O' := G2) F.fun148 (fun d h => by cases h; rfl) rfl (List.Perm.swap _ _ _) bun_O1 bun_O2 (fun w hS hS2 => done_c G2 bm l2 s1.2.2 w j1.mks j3.lt j3.ok (by have := j1.ll; omega) hS2) (fun z3 => ?_)
   refine jG ?_
   refine jA 8 rfl ?_
   refine WL.storeN F.agg35 rfl rfl rfl jO jU jS ?_
   refine jG ?_
   refine jT 9 rfl (Yl.assign rfl) ?_
   refine jD ?_
   refine jN 2 ?_
   refine WQ.ret (rs := [.cell 6 35, .tmp 7]) rfl (.cellN F.agg35 rfl jM rfl (.tmp rfl .nil)) (fun w hS => ⟨⟨(trs l2 s1.2.2, z3), j3.ok, fun cf => ?_⟩, rfl, (jK hS)⟩)
   rw [j3.ev 0 j4 j5]
   exact linear_ev hok ⟨by decide, by decide⟩ cf

set_option maxRecDepth 100000 in
theorem Linear_2 (l : List Int) (bound : Int) (hv : costsB l = true) (hll : l.length ≤ 1099511627776) (hbd : -9223372036854775808 ≤ bound ∧ bound < 9223372036854775808) (a : Option Addr) (c : Nat) (w : World) (hr : RdC w l a) :
  Calls Tryz.prog 112 [.slice a l.length c, .int .u8 2, .int .i64 bound].toArray w fun e w' => ∃ z : DRes (fun cf => relB 2 (tailN l cf 24) bound), e = .returned (.tuple #[z.v, .int .i64 0]) ∧ St w [] [z.ch] w' := by
 have hv9 := hv
 unfold costsB at hv9
 rw [Bool.and_eq_true, decide_eq_true_eq] at hv9
 obtain ⟨hok, hl24⟩ := hv9
 refine enter Tryz.func112 rfl Tryz.ntmps112 rfl (St.init _) ?_
 refine jN 3 ?_
 refine WL.alloc F.zero35 rfl (fun b6 => ?_)
 refine jN 10 ?_
 refine WL.callV F.fun155 rfl rfl (fun w hS => lvalid_c l a c hll w (hr.next hS)) ?_
 rw [hv]
 refine jN 4 ?_
 refine WA.splitB (i := 13) rfl (fun g13 => ?_) (fun g13 => ?_)
 ·cases g13
 ·refine jN 9 ?_
  refine WA.splitB (i := 16) rfl (fun g16 => ?_) (fun g16 => ?_)
  ·refine jN 12 ?_
   refine WA.splitB (i := 20) rfl (fun g20 => ?_) (fun g20 => ?_)
   ·cases g20
   ·refine jN 19 ?_
    refine WL.maxI (r := max bound (-17592186044416)) rfl rfl rfl (by split <;> omega) ?_
    refine jN 1 ?_
    refine WL.minI (r := clampB bound) rfl rfl rfl (by unfold clampB; split <;> omega) ?_
    refine jN 2 ?_
    have hcb := clampB_bd bound
    refine jN 5 ?_
    refine WL.buildA F.arT206 rfl jB rfl ?_
    refine jN 1 ?_
    refine WL.alloc F.zero206 rfl (fun b8 => ?_)
    refine jN 32 ?_
    refine WL.buildA F.arT206 rfl jB rfl ?_
    refine jN 8 ?_
    refine jC (β := List Nat × Nat) (res := fun x => pp x.2) (cs := fun x => [mkr x.1 x.2 []]) F.fun147 rfl (fun w hS _ => newMaker_c w) (fun ⟨G0, bm⟩ => ?_)
    refine jN 3 ?_
    refine WL.boxN rfl rfl (fun b40 => ?_)
    refine jN 6 ?_
    refine WA.chunks (C' := [pt b40 (linCells bm (List.replicate 24 0) (.slice none 0 0) KV0) 212, mkr G0 bm [], pt b8 [.int .i64 0, .int .i64 1, .int .i64 1] 206, pt b6 [.slice none 0 0, .int .i64 0] 35]) (fun w hS => (jK hS)) ?_
    refine jN 7 ?_
    refine WL.sliceArr arCost rfl rfl ?_
    refine jN 3 ?_
    refine WL.copyPt (o := 1) (cs := linCells bm (List.replicate 24 0) (.slice none 0 0) KV0) (vs := l.map (Value.int .i64)) F.und90 (by kernel_rfl) rfl rfl rfl (by rw [List.length_map]; exact (Nat.min_eq_left hl24).symm) (fun w hS j v hj => ?_) (by rw [List.length_map]; unfold linCells; simp; omega) (fun v hv => ?_) jU ?_
    ·rw [List.getElem?_map] at hj
     cases hq : l[j]? with
     | none => rw [hq] at hj; cases hj
     | some x =>
      rw [hq] at hj
      cases hj
      obtain ⟨b9, off9, e1, e2⟩ := hr j x hq
      exact ⟨b9, off9, e1, hS.oldc e2 (by simp)⟩
    ·obtain ⟨x, _, rfl⟩ := List.mem_map.1 hv
     rfl
    rw [List.length_map, lin_copy hl24]
    refine jN 11 ?_
    refine WL.indexAddrA (i := 0) F.arT206 rfl rfl rfl (by decide) ?_
    refine jN 9 ?_
    refine WL.indexAddrA (i := 1) F.arT206 rfl rfl rfl (by decide) ?_
    refine jN 9 ?_
    refine WL.indexAddrA (i := 2) F.arT206 rfl rfl rfl (by decide) ?_
    refine jN 5 ?_
    refine WL.buildSlice F.sl209 F.ez209 rfl rfl rfl rfl jB rfl (fun b63 => ?_)
    refine jN 5 ?_
    refine WL.store1 (cs := linCells bm (padI l) (.slice none 0 0) KV0) (cs' := linCells bm (padI l) (.slice (some ⟨b63, 0, none⟩) 3 3) KV0) F.one209 rfl rfl rfl jU (lin_ends (padI_len hl24) bm _ _ KV0) ?_
    refine jN 3 ?_
    refine WC.chunks (C' := [pt b40 (linCells bm (padI l) (.slice (some ⟨b63, 0, none⟩) 3 3) KV0) 212, mkr G0 bm [], rowc (.slice (some ⟨b63, 0, none⟩) 3 3) 3 214 3 (spans (endL 2 (clampB bound))), kRows KV0, pt b6 [.slice none 0 0, .int .i64 0] 35]) (fun w hS => ?_) ?_
    ·have hS1 := St.kStart (St.rowOf (n := 3) (sz := 3) ((St.pick hS (c := pt b63 [Value.int .i64 (-35184372088832), .int .i64 (clampB bound - 1), .int .i64 0, .int .i64 (clampB bound), .int .i64 (clampB bound), .int .i64 1, .int .i64 (clampB bound + 1), .int .i64 35184372088832, .int .i64 1] 214) jR)) rfl (by decide))
     exact (jK hS1)
    refine WC.draws [([7, 8], fun w => w.cell? ⟨b40, 0, none⟩ = some (pp bm))] (by kernel_rfl) (fun w hS => facts_cons (hS.cell (cs := linCells bm (padI l) (.slice (some ⟨b63, 0, none⟩) 3 3) KV0) jM rfl) (facts_nil)) ?_
    refine jT 0 rfl (Yl.move rfl) ?_
    refine jT 1 rfl (Yl.nilCheck rfl) ?_
    refine jT 2 rfl (Yl.fieldAddr0 F.fld212_0 rfl) ?_
    refine jF 3 0 rfl rfl (Yl.load1 F.one200 rfl) ?_
    refine jT 4 rfl (Yl.move rfl) ?_
    refine jA 5 rfl ?_
    refine WA.chunksE (C' := fun F1 => [linC F1 b40 bm (padI l) (.slice (some ⟨b63, 0, none⟩) 3 3) (endL 2 (clampB bound)) [] KV0, pt b6 [.slice none 0 0, .int .i64 0] 35]) (fun w hS => ?_) (fun F1 => ?_)
    ·exact ⟨_, St.linClose (jK hS)⟩
    refine WL.callC (β := { z : LinZ // LinP (padI l) 2 (clampB bound) 0 [] 0 0 z }) (res := fun z => .agg ([Value.int .i64 z.1.2.2.2.1, .int .i64 z.1.2.2.2.2.1, .int .i64 (z.1.2.2.2.2.2 : Int)]).toArray) (cs := fun z => [linC z.1.1 b40 bm (padI l) (.slice (some ⟨b63, 0, none⟩) 3 3) (endL 2 (clampB bound)) z.1.2.1 z.1.2.2.1]) (Cs := [linC F1 b40 bm (padI l) (.slice (some ⟨b63, 0, none⟩) 3 3) (endL 2 (clampB bound)) [] KV0]) (C1 := [pt b6 [.slice none 0 0, .int .i64 0] 35]) (O' := F1) F.fun156 (fun d h => by cases h; rfl) rfl (List.Perm.refl _) bun_O1 bun_O2 (fun w hS hS2 => from_c b40 bm (padI l) (padI_len hl24) (padI_ok hok) 2 (clampB bound) ⟨by decide, by decide⟩ hcb (some ⟨b63, 0, none⟩) 3 25 0 (by omega) (by omega) F1 [] KV0 0 0 w (lin_start _ _ _) (by decide) ⟨by omega, by omega⟩ hS2) (fun ⟨z1, hz1⟩ => ?_)
    obtain ⟨F2, l2, KV2, s1⟩ := z1
    obtain ⟨j1, j2, j3, j4, j5⟩ := hz1
    dsimp only at j1 j2 j3 j4 j5 ⊢
    rw [show (24 - 0 : Nat) = 24 from rfl] at j3
    refine WD.on (closed_of (by kernel_rfl)) (fun w hS => Sx.keep (linC_mk (hS.ok (linC F2 b40 bm (padI l) (.slice (some ⟨b63, 0, none⟩) 3 3) (endL 2 (clampB bound)) l2 KV2) (List.mem_cons_self ..))) (Sx.none)) ?_
    skip
    refine jT 6 rfl (Yl.field1 (ft := 3) (off := 2) (by kernel_rfl) F.one3 rfl rfl) ?_
    refine jA 7 rfl ?_
    refine WA.openB (fun G2 _ _ _ => ?_)
    simp only [linCs, List.cons_append, List.nil_append]
    refine WL.callC (β := Option Addr × Nat) (res := fun z => dval (trs l2 s1.2.2) z.1 z.2) (cs := fun z => [dC z.1 z.2 (trs l2 s1.2.2)]) (Cs := [mkr G2 bm l2]) (C1 := [pt b40 (linCells bm (padI l) (.slice (some ⟨b63, 0, none⟩) 3 3) KV2) 212, rowc (.slice (some ⟨b63, 0, none⟩) 3 3) 3 214 3 (spans (endL 2 (clampB bound))), kRows KV2, pt b6 [.slice none 0 0, .int .i64 0] 35]) (O' := G2) F.fun148 (fun d h => by cases h; rfl) rfl (List.Perm.swap _ _ _) bun_O1 bun_O2 (fun w hS hS2 => done_c G2 bm l2 s1.2.2 w j1.mks j3.lt j3.ok (by have := j1.ll; omega) hS2) (fun z3 => ?_)
    refine jG ?_
    refine jA 8 rfl ?_
    refine WL.storeN F.agg35 rfl rfl rfl jO jU jS ?_
    refine jG ?_
    refine jT 9 rfl (Yl.assign rfl) ?_
    refine jD ?_
    refine jN 2 ?_
    refine WQ.ret (rs := [.cell 6 35, .tmp 7]) rfl (.cellN F.agg35 rfl jM rfl (.tmp rfl .nil)) (fun w hS => ⟨⟨(trs l2 s1.2.2, z3), j3.ok, fun cf => ?_⟩, rfl, (jK hS)⟩)
    rw [j3.ev 0 j4 j5]
    exact linear_ev hok ⟨by decide, by decide⟩ cf
  ·cases g16

set_option maxRecDepth 100000 in
theorem Linear_3 (l : List Int) (bound : Int) (hv : costsB l = true) (hll : l.length ≤ 1099511627776) (hbd : -9223372036854775808 ≤ bound ∧ bound < 9223372036854775808) (a : Option Addr) (c : Nat) (w : World) (hr : RdC w l a) :
  Calls Tryz.prog 112 [.slice a l.length c, .int .u8 3, .int .i64 bound].toArray w fun e w' => ∃ z : DRes (fun cf => relB 3 (tailN l cf 24) bound), e = .returned (.tuple #[z.v, .int .i64 0]) ∧ St w [] [z.ch] w' := by
 have hv9 := hv
 unfold costsB at hv9
 rw [Bool.and_eq_true, decide_eq_true_eq] at hv9
 obtain ⟨hok, hl24⟩ := hv9
 refine enter Tryz.func112 rfl Tryz.ntmps112 rfl (St.init _) ?_
 refine jN 3 ?_
 refine WL.alloc F.zero35 rfl (fun b6 => ?_)
 refine jN 10 ?_
 refine WL.callV F.fun155 rfl rfl (fun w hS => lvalid_c l a c hll w (hr.next hS)) ?_
 rw [hv]
 refine jN 4 ?_
 refine WA.splitB (i := 13) rfl (fun g13 => ?_) (fun g13 => ?_)
 ·cases g13
 ·refine jN 9 ?_
  refine WA.splitB (i := 16) rfl (fun g16 => ?_) (fun g16 => ?_)
  ·refine jN 12 ?_
   refine WA.splitB (i := 20) rfl (fun g20 => ?_) (fun g20 => ?_)
   ·refine jN 13 ?_
    refine WC.cond rfl (fun h24 => ?_) (fun h24 => ?_)
    ·cases h24
    ·refine jN 7 ?_
     refine WL.maxI (r := max bound (-17592186044416)) rfl rfl rfl (by split <;> omega) ?_
     refine jN 1 ?_
     refine WL.minI (r := clampB bound) rfl rfl rfl (by unfold clampB; split <;> omega) ?_
     refine jN 2 ?_
     have hcb := clampB_bd bound
     refine jN 5 ?_
     refine WL.buildA F.arT206 rfl jB rfl ?_
     refine jN 1 ?_
     refine WL.alloc F.zero206 rfl (fun b8 => ?_)
     refine jN 32 ?_
     refine WL.buildA F.arT206 rfl jB rfl ?_
     refine jN 8 ?_
     refine jC (β := List Nat × Nat) (res := fun x => pp x.2) (cs := fun x => [mkr x.1 x.2 []]) F.fun147 rfl (fun w hS _ => newMaker_c w) (fun ⟨G0, bm⟩ => ?_)
     refine jN 3 ?_
     refine WL.boxN rfl rfl (fun b40 => ?_)
     refine jN 6 ?_
     refine WA.chunks (C' := [pt b40 (linCells bm (List.replicate 24 0) (.slice none 0 0) KV0) 212, mkr G0 bm [], pt b8 [.int .i64 0, .int .i64 1, .int .i64 0] 206, pt b6 [.slice none 0 0, .int .i64 0] 35]) (fun w hS => (jK hS)) ?_
     refine jN 7 ?_
     refine WL.sliceArr arCost rfl rfl ?_
     refine jN 3 ?_
     refine WL.copyPt (o := 1) (cs := linCells bm (List.replicate 24 0) (.slice none 0 0) KV0) (vs := l.map (Value.int .i64)) F.und90 (by kernel_rfl) rfl rfl rfl (by rw [List.length_map]; exact (Nat.min_eq_left hl24).symm) (fun w hS j v hj => ?_) (by rw [List.length_map]; unfold linCells; simp; omega) (fun v hv => ?_) jU ?_
     ·rw [List.getElem?_map] at hj
      cases hq : l[j]? with
      | none => rw [hq] at hj; cases hj
      | some x =>
       rw [hq] at hj
       cases hj
       obtain ⟨b9, off9, e1, e2⟩ := hr j x hq
       exact ⟨b9, off9, e1, hS.oldc e2 (by simp)⟩
     ·obtain ⟨x, _, rfl⟩ := List.mem_map.1 hv
      rfl
     rw [List.length_map, lin_copy hl24]
     refine jN 11 ?_
     refine WL.indexAddrA (i := 0) F.arT206 rfl rfl rfl (by decide) ?_
     refine jN 9 ?_
     refine WL.indexAddrA (i := 1) F.arT206 rfl rfl rfl (by decide) ?_
     refine jN 9 ?_
     refine WL.indexAddrA (i := 2) F.arT206 rfl rfl rfl (by decide) ?_
     refine jN 5 ?_
     refine WL.buildSlice F.sl209 F.ez209 rfl rfl rfl rfl jB rfl (fun b63 => ?_)
     refine jN 5 ?_
     refine WL.store1 (cs := linCells bm (padI l) (.slice none 0 0) KV0) (cs' := linCells bm (padI l) (.slice (some ⟨b63, 0, none⟩) 3 3) KV0) F.one209 rfl rfl rfl jU (lin_ends (padI_len hl24) bm _ _ KV0) ?_
     refine jN 3 ?_
     refine WC.chunks (C' := [pt b40 (linCells bm (padI l) (.slice (some ⟨b63, 0, none⟩) 3 3) KV0) 212, mkr G0 bm [], rowc (.slice (some ⟨b63, 0, none⟩) 3 3) 3 214 3 (spans (endL 3 (clampB bound))), kRows KV0, pt b6 [.slice none 0 0, .int .i64 0] 35]) (fun w hS => ?_) ?_
     ·have hS1 := St.kStart (St.rowOf (n := 3) (sz := 3) ((St.pick hS (c := pt b63 [Value.int .i64 (-35184372088832), .int .i64 (clampB bound - 1), .int .i64 0, .int .i64 (clampB bound), .int .i64 (clampB bound), .int .i64 1, .int .i64 (clampB bound + 1), .int .i64 35184372088832, .int .i64 0] 214) jR)) rfl (by decide))
      exact (jK hS1)
     refine WC.draws [([7, 8], fun w => w.cell? ⟨b40, 0, none⟩ = some (pp bm))] (by kernel_rfl) (fun w hS => facts_cons (hS.cell (cs := linCells bm (padI l) (.slice (some ⟨b63, 0, none⟩) 3 3) KV0) jM rfl) (facts_nil)) ?_
     refine jT 0 rfl (Yl.move rfl) ?_
     refine jT 1 rfl (Yl.nilCheck rfl) ?_
     refine jT 2 rfl (Yl.fieldAddr0 F.fld212_0 rfl) ?_
     refine jF 3 0 rfl rfl (Yl.load1 F.one200 rfl) ?_
     refine jT 4 rfl (Yl.move rfl) ?_
     refine jA 5 rfl ?_
     refine WA.chunksE (C' := fun F1 => [linC F1 b40 bm (padI l) (.slice (some ⟨b63, 0, none⟩) 3 3) (endL 3 (clampB bound)) [] KV0, pt b6 [.slice none 0 0, .int .i64 0] 35]) (fun w hS => ?_) (fun F1 => ?_)
     ·exact ⟨_, St.linClose (jK hS)⟩
     refine WL.callC (β := { z : LinZ // LinP (padI l) 3 (clampB bound) 0 [] 0 0 z }) (res := fun z => .agg ([Value.int .i64 z.1.2.2.2.1, .int .i64 z.1.2.2.2.2.1, .int .i64 (z.1.2.2.2.2.2 : Int)]).toArray) (cs := fun z => [linC z.1.1 b40 bm (padI l) (.slice (some ⟨b63, 0, none⟩) 3 3) (endL 3 (clampB bound)) z.1.2.1 z.1.2.2.1]) (Cs := [linC F1 b40 bm (padI l) (.slice (some ⟨b63, 0, none⟩) 3 3) (endL 3 (clampB bound)) [] KV0]) (C1 := [pt b6 [.slice none 0 0, .int .i64 0] 35]) (O' := F1) F.fun156 (fun d h => by cases h; rfl) rfl (List.Perm.refl _) bun_O1 bun_O2 (fun w hS hS2 => from_c b40 bm (padI l) (padI_len hl24) (padI_ok hok) 3 (clampB bound) ⟨by decide, by decide⟩ hcb (some ⟨b63, 0, none⟩) 3 25 0 (by omega) (by omega) F1 [] KV0 0 0 w (lin_start _ _ _) (by decide) ⟨by omega, by omega⟩ hS2) (fun ⟨z1, hz1⟩ => ?_)
     obtain ⟨F2, l2, KV2, s1⟩ := z1
     obtain ⟨j1, j2, j3, j4, j5⟩ := hz1
     dsimp only at j1 j2 j3 j4 j5 ⊢
     rw [show (24 - 0 : Nat) = 24 from rfl] at j3
     refine WD.on (closed_of (by kernel_rfl)) (fun w hS => Sx.keep (linC_mk (hS.ok (linC F2 b40 bm (padI l) (.slice (some ⟨b63, 0, none⟩) 3 3) (endL 3 (clampB bound)) l2 KV2) (List.mem_cons_self ..))) (Sx.none)) ?_
     skip
     refine jT 6 rfl (Yl.field1 (ft := 3) (off := 2) (by kernel_rfl) F.one3 rfl rfl) ?_
     refine jA 7 rfl ?_
     refine WA.openB (fun G2 _ _ _ => ?_)
     simp only [linCs, List.cons_append, List.nil_append]
     refine WL.callC (β := Option Addr × Nat) (res := fun z => dval (trs l2 s1.2.2) z.1 z.2) (cs := fun z => [dC z.1 z.2 (trs l2 s1.2.2)]) (Cs := [mkr G2 bm l2]) (C1 := [pt b40 (linCells bm (padI l) (.slice (some ⟨b63, 0, none⟩) 3 3) KV2) 212, rowc (.slice (some ⟨b63, 0, none⟩) 3 3) 3 214 3 (spans (endL 3 (clampB bound))), kRows KV2, pt b6 [.slice none 0 0, .int .i64 0] 35]) (O' := G2) F.fun148 (fun d h => by cases h; rfl) rfl (List.Perm.swap _ _ _) bun_O1 bun_O2 (fun w hS hS2 => done_c G2 bm l2 s1.2.2 w j1.mks j3.lt j3.ok (by have := j1.ll; omega) hS2) (fun z3 => ?_)
     refine jG ?_
     refine jA 8 rfl ?_
     refine WL.storeN F.agg35 rfl rfl rfl jO jU jS ?_
     refine jG ?_
     refine jT 9 rfl (Yl.assign rfl) ?_
     refine jD ?_
     refine jN 2 ?_
     refine WQ.ret (rs := [.cell 6 35, .tmp 7]) rfl (.cellN F.agg35 rfl jM rfl (.tmp rfl .nil)) (fun w hS => ⟨⟨(trs l2 s1.2.2, z3), j3.ok, fun cf => ?_⟩, rfl, (jK hS)⟩)
     rw [j3.ev 0 j4 j5]
     exact linear_ev hok ⟨by decide, by decide⟩ cf
   ·cases g20
  ·cases g16

theorem Linear_bad (l : List Int) (rel : Nat) (bound : Int) (hbad : costsB l = false ∨ rel < 1 ∨ 3 < rel) (hll : l.length ≤ 1099511627776) (a : Option Addr) (c : Nat) (w : World) (hr : RdC w l a) :
  Calls Tryz.prog 112 [.slice a l.length c, .int .u8 (rel : Int), .int .i64 bound].toArray w fun e w' => ∃ z : DRes (fun _ => false), e = .returned (.tuple #[z.v, .int .i64 2]) ∧ St w [] [z.ch] w' := by
 refine enter Tryz.func112 rfl Tryz.ntmps112 rfl (St.init _) ?_
 refine jN 3 ?_
 refine WL.alloc F.zero35 rfl (fun b6 => ?_)
 refine jN 10 ?_
 refine WL.callV F.fun155 rfl rfl (fun w hS => lvalid_c l a c hll w (hr.next hS)) ?_
 refine jN 4 ?_
 refine WA.splitB (i := 13) rfl (fun g13 => ?_) (fun g13 => ?_)
 ·refine jN 37 ?_
  exact WQ.ret (rs := [.cell 6 35, .tmp 7]) rfl (.cellN F.agg35 rfl jM rfl (.tmp rfl .nil)) (fun w hS => ⟨⟨(.lf false, none, 0), trivial, fun _ => rfl⟩, rfl, hS.drop.rowNil _ _⟩)
 ·refine jN 9 ?_
  refine WA.splitB (i := 16) rfl (fun g16 => ?_) (fun g16 => ?_)
  ·refine jN 12 ?_
   refine WA.splitB (i := 20) rfl (fun g20 => ?_) (fun g20 => ?_)
   ·refine jN 13 ?_
    refine WC.cond rfl (fun h24 => ?_) (fun h24 => ?_)
    ·refine jN 12 ?_
     exact WQ.ret (rs := [.cell 6 35, .tmp 7]) rfl (.cellN F.agg35 rfl jM rfl (.tmp rfl .nil)) (fun w hS => ⟨⟨(.lf false, none, 0), trivial, fun _ => rfl⟩, rfl, hS.drop.rowNil _ _⟩)
    ·exfalso; simp at g13 g16 g20 h24; rw [g13] at hbad; simp at hbad; omega
   ·exfalso; simp at g13 g16 g20; rw [g13] at hbad; simp at hbad; omega
  ·exfalso; simp at g13 g16; rw [g13] at hbad; simp at hbad; omega

/-- A linear relation, or its error. -/
def linB (l : List Int) (rel : Nat) : Bool := costsB l && decide (1 ≤ rel ∧ rel ≤ 3)
theorem Linear_c (l : List Int) (rel : Nat) (bound : Int) (hll : l.length ≤ 1099511627776) (hbd : -9223372036854775808 ≤ bound ∧ bound < 9223372036854775808) (a : Option Addr) (c : Nat) (w : World) (hr : RdC w l a) :
  Calls Tryz.prog 112 [.slice a l.length c, .int .u8 (rel : Int), .int .i64 bound].toArray w fun e w' => ∃ z : DRes (fun cf => costsB l && (decide (1 ≤ rel ∧ rel ≤ 3) && relB rel (tailN l cf 24) bound)), e = .returned (.tuple #[z.v, .int .i64 (if linB l rel then 0 else 2)]) ∧ St w [] [z.ch] w' := by
 by_cases h : costsB l = true ∧ 1 ≤ rel ∧ rel ≤ 3
 ·obtain ⟨h1, h2⟩ := h
  have hb : linB l rel = true := by unfold linB; rw [h1, decide_eq_true h2]; rfl
  rw [hb, h1, decide_eq_true h2]
  have hr3 : rel = 1 ∨ rel = 2 ∨ rel = 3 := by omega
  rcases hr3 with rfl | rfl | rfl
  ·exact Linear_1 l bound h1 hll hbd a c w hr
  ·exact Linear_2 l bound h1 hll hbd a c w hr
  ·exact Linear_3 l bound h1 hll hbd a c w hr
 ·have hbad : costsB l = false ∨ rel < 1 ∨ 3 < rel := by
   cases hq : costsB l with
   | false => exact .inl rfl
   | true =>
    rw [hq] at h
    simp at h
    omega
  have hb : linB l rel = false := by
   unfold linB
   rcases hbad with h1 | h1
   ·rw [h1]; rfl
   ·rw [decide_eq_false (by omega), Bool.and_false]
  have hf : (fun cf => costsB l && (decide (1 ≤ rel ∧ rel ≤ 3) && relB rel (tailN l cf 24) bound)) = fun _ => false := by
   funext cf
   rcases hbad with h1 | h1
   ·rw [h1]; rfl
   ·rw [decide_eq_false (by omega), Bool.false_and, Bool.and_false]
  rw [hb, hf]
  exact Linear_bad l rel bound hbad hll a c w hr

end Go.Proofs.YtkgllhkhdjodeaaGreat

namespace Go.Proofs.YtkgllhkhdjodeaaGreat
open Go Go.Eng Go.Proofs Dg
def menB (x : OpV) : Bool := decide (x.doo = 2) && (decide (0 ≤ x.i) && decide (x.i < 24))
def men1 (x : OpV) (f : Nat) : Nat := if menB x then f ||| 2 ^ x.i.toNat else f
def men2 (x : OpV) (f : Nat) : Nat := if x.doo = 3 then f ||| x.f ||| x.g else f
def men3 (x : OpV) (f : Nat) : Nat := if x.doo = 12 then f ||| x.f else f
theorem men_up (x : OpV) (f : Nat) {k : Nat} (h : f.testBit k = true) : (men3 x (men2 x (men1 x f))).testBit k = true := by
 have h1 : (men1 x f).testBit k = true := by unfold men1; split <;> simp [h]
 have h2 : (men2 x (men1 x f)).testBit k = true := by unfold men2; split <;> simp [h1]
 unfold men3; split <;> simp [h2]
theorem men_lt {x : OpV} (hx : x.wf) {f : Nat} (h : f < 4294967296) : men3 x (men2 x (men1 x f)) < 4294967296 := by
 have h1 : men1 x f < 4294967296 := by
  unfold men1
  split
  ·rename_i hb
   unfold menB at hb
   simp at hb
   exact Nat.or_lt_two_pow (n := 32) h (Nat.pow_lt_pow_right (by decide) (by omega))
  ·exact h
 have h2 : men2 x (men1 x f) < 4294967296 := by
  unfold men2
  split
  ·exact or_lt32 (or_lt32 h1 hx.f) hx.g
  ·exact h1
 unfold men3
 split
 ·exact or_lt32 h2 hx.f
 ·exact h2
theorem men_in (x : OpV) (f g : Nat) (hg : ∀ k, (men3 x (men2 x (men1 x f))).testBit k = true → g.testBit k = true) (h13 : x.doo = 13 → ∀ k, k < 24 → x.l.getD k 0 ≠ 0 → g.testBit k = true) : OpIn x g := by
 refine ⟨fun h h0 h24 => hg _ ?_, fun h k _ hk => hg _ ?_, fun h k _ hk => hg _ ?_, h13⟩
 ·have hb : menB x = true := by unfold menB; simp [h, h0, h24]
  unfold men3 men2 men1
  rw [if_neg (by omega), if_neg (by omega), if_pos hb]
  rw [Nat.testBit_or, Nat.testBit_two_pow_self, Bool.or_true]
 ·unfold men3 men2
  rw [if_neg (by omega), if_pos h]
  rw [Nat.testBit_or, Nat.testBit_or]
  rcases hk with hk | hk <;> simp [hk]
 ·unfold men3
  rw [if_pos h, Nat.testBit_or, hk, Bool.or_true]
/-- What is known of a script that mentions few features. -/
def MentP (l : List OpV) : Prop := l.length ≤ 12 ∧ ∃ f, f < 4294967296 ∧ (featL f).length ≤ 7 ∧ ∀ x ∈ l, OpIn x f ∧ x.l.length ≤ 40

set_option maxRecDepth 100000 in
theorem Mentioned_c (l : List OpV) (a : Option Addr) (c : Nat) (hwf : ∀ x ∈ l, x.wf) (w : World) (hr : RdOps w l a) :
  Calls Tryz.prog 18 [.slice a l.length c].toArray w fun e w' => ∃ z : { b : Bool // b = true → MentP l }, e = .returned (.bool z.1) ∧ St w [] [] w' := by
 refine enter Tryz.func18 rfl Tryz.ntmps18 rfl (St.init _) ?_
 refine jN 17 ?_
 refine WC.cond rfl (fun h9 => ?_) (fun h9 => ?_)
 ·refine jN 8 ?_
  exact WQ.ret (rs := [.tmp 2]) rfl (.tmp rfl .nil) (fun w hS => ⟨⟨false, fun h => by cases h⟩, rfl, hS.sublist (List.nil_sublist _)⟩)
 ·have hl12 : l.length ≤ 12 := by simp at h9; omega
  refine jN 16 ?_
  refine WC.loop (α := Nat × Nat) (fun g => g.1 ≤ l.length ∧ g.2 < 4294967296 ∧ ∀ x ∈ l.take g.1, OpIn x g.2 ∧ x.l.length ≤ 40) (fun g => [(0, .slice a l.length c), (3, .int .u32 (g.2 : Int)), (4, .int .i64 (g.1 : Int))]) (fun _ => []) (fun g => l.length - g.1) ((0, 0)) ?_ ?_ ?_ ?_
  ·exact ⟨Nat.zero_le _, (by decide), by simp⟩
  ·exact ⟨rfl, rfl, rfl, trivial⟩
  ·rfl
  rintro ⟨i, f⟩ ⟨hi, hf, hin⟩
  dsimp only at hi hf hin
  show WC _ _ _ _ _ _ _ [(0, .slice a l.length c), (3, .int .u32 (f : Int)), (4, .int .i64 (i : Int))] []
  refine jN 13 ?_
  refine WC.cond rfl (fun h13 => ?_) (fun h13 => ?_)
  ·have hlt : i < l.length := by simpa using h13
   obtain ⟨x, hx⟩ : ∃ x, l[i]? = some x := ⟨_, List.getElem?_eq_getElem hlt⟩
   obtain ⟨⟨b, off, ha, hcell⟩, hrc⟩ := hr i x hx
   subst ha
   have hw := hwf x (List.mem_of_getElem? hx)
   have hwd := hw.doo
   refine jN 11 ?_
   refine WL.indexAddr F.sl46 rfl rfl rfl hlt ?_
   refine jN 1 ?_
   refine WL.loadN F.agg92 rfl rfl (vs := x.cells) rfl (fun w hS j u hu => hS.oldc (hcell j u hu) (by simp)) ?_
   refine jN 1 ?_
   refine WL.alloc F.zero92 rfl (fun b5 => ?_)
   refine jN 6 ?_
   refine WC.cutF [(0, .slice (some ⟨b, off, none⟩) l.length c), (3, .int .u32 (f : Int)), (4, .int .i64 (i : Int)), (5, pp b5), (32, .bool (menB x))] (fun Q' hQ => ?_) ?_
   ·refine jN 9 ?_
    refine WA.splitB (i := 23) rfl (fun g23 => ?_) (fun g23 => ?_)
    ·refine jN 13 ?_
     refine WA.splitB (i := 28) rfl (fun g28 => ?_) (fun g28 => ?_)
     ·have hB : menB x = decide (x.i < 24) := by (unfold menB; rw [decide_eq_true (show x.doo = 2 by simp at g23; omega), decide_eq_true (show 0 ≤ x.i by simpa using g28), Bool.true_and, Bool.true_and])
      refine jN 12 ?_
      refine WQ.say 32 (.bool (menB x)) (by rw [hB]; rfl) ?_
      exact WQ.byCut hQ ⟨rfl, rfl, rfl, rfl, rfl, trivial⟩
     ·have hB : menB x = false := by (unfold menB; rw [decide_eq_false (show ¬ 0 ≤ x.i by simp at g28; omega), Bool.false_and, Bool.and_false])
      refine jN 9 ?_
      refine WQ.say 32 (.bool (menB x)) (by rw [hB]; rfl) ?_
      exact WQ.byCut hQ ⟨rfl, rfl, rfl, rfl, rfl, trivial⟩
    ·have hB : menB x = false := by (unfold menB; rw [decide_eq_false (by simp at g23; omega), Bool.false_and])
     refine jN 19 ?_
     refine WQ.say 32 (.bool (menB x)) (by rw [hB]; rfl) ?_
     exact WQ.byCut hQ ⟨rfl, rfl, rfl, rfl, rfl, trivial⟩
   refine jN 1 ?_
   refine WC.cutF [(0, .slice (some ⟨b, off, none⟩) l.length c), (3, .int .u32 ((men1 x f) : Int)), (4, .int .i64 (i : Int)), (5, pp b5)] (fun Q' hQ => ?_) ?_
   ·refine WC.cond rfl (fun h32 => ?_) (fun h32 => ?_)
    ·have hb9 := h32
     unfold menB at hb9
     simp at hb9
     obtain ⟨k, hk⟩ := Int.eq_ofNat_of_zero_le hb9.2.1
     have hk24 : k < 24 := by omega
     have e1 : (men1 x f) = f ||| 2 ^ k := by (unfold men1; rw [if_pos h32, hk]; rfl)
     have hp32 : 2 ^ k < 4294967296 := Nat.lt_of_lt_of_le (Nat.pow_lt_pow_right (by decide) (show k < 32 by omega)) (by decide)
     refine jN 7 ?_
     refine WA.say 35 (.int .i64 (k : Int)) (by rw [show (k : Int) = x.i from hk.symm]; rfl) ?_
     refine jN 1 ?_
     refine WL.convert rfl rfl (v := .int .u64 (k : Int)) (fun w hS => conv61 (by omega) w) ?_
     refine jN 1 ?_
     refine WL.bin rfl rfl rfl (fun w => run_shl1U (by omega) _ _ _ w) ?_
     refine jN 1 ?_
     refine WL.bin rfl rfl rfl (fun w => run_or hf hp32 _ _ _ w) ?_
     refine jN 3 ?_
     refine WQ.say 3 (.int .u32 ((men1 x f) : Int)) (by rw [e1]; rfl) ?_
     exact WQ.byCut hQ ⟨rfl, rfl, rfl, rfl, trivial⟩
    ·have e1 : (men1 x f) = f := by (unfold men1; rw [if_neg (by rw [h32]; decide)])
     refine jN 1 ?_
     refine WQ.say 3 (.int .u32 ((men1 x f) : Int)) (by rw [e1]; rfl) ?_
     exact WQ.byCut hQ ⟨rfl, rfl, rfl, rfl, trivial⟩
   refine jN 4 ?_
   have hf1 : (men1 x f) < 4294967296 := by (have h9 := men_lt hw hf; refine Nat.lt_of_le_of_lt ?_ h9; unfold men3 men2; split <;> split <;> first | exact Nat.le_refl _ | (exact Nat.left_le_or) | (exact Nat.le_trans Nat.left_le_or Nat.left_le_or) | (exact Nat.le_trans (Nat.le_trans Nat.left_le_or Nat.left_le_or) Nat.left_le_or))
   refine jN 8 ?_
   refine WC.cutF [(0, .slice (some ⟨b, off, none⟩) l.length c), (3, .int .u32 ((men2 x (men1 x f)) : Int)), (4, .int .i64 (i : Int)), (5, pp b5)] (fun Q' hQ => ?_) ?_
   ·refine WC.cond rfl (fun h41 => ?_) (fun h41 => ?_)
    ·have hd3 : x.doo = 3 := by simp at h41; omega
     have e2 : (men2 x (men1 x f)) = (men1 x f) ||| x.f ||| x.g := by (unfold men2; rw [if_pos hd3])
     refine jN 8 ?_
     refine WL.bin rfl rfl rfl (fun w => run_or hf1 hw.f _ _ _ w) ?_
     refine jN 5 ?_
     refine WL.bin rfl rfl rfl (fun w => run_or (or_lt32 hf1 hw.f) hw.g _ _ _ w) ?_
     refine jN 3 ?_
     refine WQ.say 3 (.int .u32 ((men2 x (men1 x f)) : Int)) (by rw [e2]; rfl) ?_
     exact WQ.byCut hQ ⟨rfl, rfl, rfl, rfl, trivial⟩
    ·have hd3 : x.doo ≠ 3 := by simp at h41; omega
     have e2 : (men2 x (men1 x f)) = (men1 x f) := by (unfold men2; rw [if_neg hd3])
     refine jN 1 ?_
     refine WQ.say 3 (.int .u32 ((men2 x (men1 x f)) : Int)) (by rw [e2]; rfl) ?_
     exact WQ.byCut hQ ⟨rfl, rfl, rfl, rfl, trivial⟩
   refine jN 4 ?_
   have hf2 : (men2 x (men1 x f)) < 4294967296 := by (have h9 := men_lt hw hf; refine Nat.lt_of_le_of_lt ?_ h9; unfold men3; split <;> first | exact Nat.le_refl _ | exact Nat.left_le_or)
   refine jN 8 ?_
   refine WC.cutF [(0, .slice (some ⟨b, off, none⟩) l.length c), (3, .int .u32 ((men3 x (men2 x (men1 x f))) : Int)), (4, .int .i64 (i : Int)), (5, pp b5)] (fun Q' hQ => ?_) ?_
   ·refine WC.cond rfl (fun h51 => ?_) (fun h51 => ?_)
    ·have hd12 : x.doo = 12 := by simp at h51; omega
     have e3 : (men3 x (men2 x (men1 x f))) = (men2 x (men1 x f)) ||| x.f := by (unfold men3; rw [if_pos hd12])
     refine jN 8 ?_
     refine WL.bin rfl rfl rfl (fun w => run_or hf2 hw.f _ _ _ w) ?_
     refine jN 3 ?_
     refine WQ.say 3 (.int .u32 ((men3 x (men2 x (men1 x f))) : Int)) (by rw [e3]; rfl) ?_
     exact WQ.byCut hQ ⟨rfl, rfl, rfl, rfl, trivial⟩
    ·have hd12 : x.doo ≠ 12 := by simp at h51; omega
     have e3 : (men3 x (men2 x (men1 x f))) = (men2 x (men1 x f)) := by (unfold men3; rw [if_neg hd12])
     refine jN 1 ?_
     refine WQ.say 3 (.int .u32 ((men3 x (men2 x (men1 x f))) : Int)) (by rw [e3]; rfl) ?_
     exact WQ.byCut hQ ⟨rfl, rfl, rfl, rfl, trivial⟩
   refine jN 14 ?_
   refine WC.cond rfl (fun h59 => ?_) (fun h59 => ?_)
   ·refine jN 13 ?_
    exact WQ.ret (rs := [.tmp 2]) rfl (.tmp rfl .nil) (fun w hS => ⟨⟨false, fun h => by cases h⟩, rfl, hS.sublist (List.nil_sublist _)⟩)
   ·have hl40 : x.l.length ≤ 40 := by simp at h59; omega
    have hf3 := men_lt hw hf
    refine jN 9 ?_
    refine WC.chunks (C' := [pt b5 x.cells 92]) (fun w hS => (jK hS)) ?_
    refine WC.loop (α := Nat × Nat) (fun g => g.1 ≤ 24 ∧ g.2 < 4294967296 ∧ (∀ k, (men3 x (men2 x (men1 x f))).testBit k = true → g.2.testBit k = true) ∧ ∀ j, j < g.1 → x.l.getD j 0 ≠ 0 → g.2.testBit j = true) (fun g => [(0, .slice (some ⟨b, off, none⟩) l.length c), (3, .int .u32 (g.2 : Int)), (4, .int .i64 (i : Int)), (5, pp b5), (6, .int .i64 (g.1 : Int))]) (fun _ => [pt b5 x.cells 92]) (fun g => 24 - g.1) ((0, (men3 x (men2 x (men1 x f))))) ?_ ?_ ?_ ?_
    ·exact ⟨Nat.zero_le _, hf3, fun _ h => h, fun j hj => by omega⟩
    ·exact ⟨rfl, rfl, rfl, rfl, rfl, trivial⟩
    ·rfl
    rintro ⟨k, f2⟩ ⟨hk, hf4, hup, hz⟩
    dsimp only at hk hf4 hup hz
    show WC _ _ _ _ _ _ _ [(0, .slice (some ⟨b, off, none⟩) l.length c), (3, .int .u32 (f2 : Int)), (4, .int .i64 (i : Int)), (5, pp b5), (6, .int .i64 (k : Int))] [pt b5 x.cells 92]
    refine jN 15 ?_
    refine WA.splitB (i := 65) rfl (fun g65 => ?_) (fun g65 => ?_)
    ·have hkl : k < x.l.length := by simpa using g65
     refine jN 10 ?_
     refine WA.splitB (i := 69) rfl (fun g69 => ?_) (fun g69 => ?_)
     ·have hk24 : k < 24 := by (simp at g69; omega)
      refine jN 13 ?_
      refine WC.cond rfl (fun h73 => ?_) (fun h73 => ?_)
      ·obtain ⟨y, hy⟩ : ∃ y, x.l[k]? = some y := ⟨_, List.getElem?_eq_getElem hkl⟩
       obtain ⟨b2, off2, hla, hc2⟩ := hrc k y hy
       have hgy : x.l.getD k 0 = y := by rw [List.getD_eq_getElem?_getD, hy]; rfl
       refine jN 10 ?_
       refine WA.say 77 (.slice (some ⟨b2, off2, none⟩) x.l.length x.lc) (by rw [← hla]; rfl) ?_
       refine jN 3 ?_
       refine WL.indexAddr F.sl90 rfl rfl rfl hkl ?_
       refine jN 1 ?_
       refine WL.load1 F.one2 rfl rfl (v := .int .i64 y) (fun w hS => hS.oldc (by rw [Nat.mul_one]; exact hc2) (by simp)) ?_
       refine jN 4 ?_
       refine WC.cond rfl (fun h81 => ?_) (fun h81 => ?_)
       ·have hp32 : 2 ^ k < 4294967296 := Nat.lt_of_lt_of_le (Nat.pow_lt_pow_right (by decide) (show k < 32 by omega)) (by decide)
        refine jN 6 ?_
        refine WL.convert rfl rfl (v := .int .u64 (k : Int)) (fun w hS => conv61 (by omega) w) ?_
        refine jN 1 ?_
        refine WL.bin rfl rfl rfl (fun w => run_shl1U (by omega) _ _ _ w) ?_
        refine jN 1 ?_
        refine WL.bin rfl rfl rfl (fun w => run_or hf4 hp32 _ _ _ w) ?_
        refine jN 13 ?_
        have hz2 : ∀ j, j < k + 1 → x.l.getD j 0 ≠ 0 → (f2 ||| 2 ^ k).testBit j = true := fun j hj hne => by
         rw [Nat.testBit_or]
         rcases Nat.lt_or_ge j k with h | h
         ·rw [hz j h hne, Bool.true_or]
         ·have e : j = k := by omega
          rw [e, Nat.testBit_two_pow_self, Bool.or_true]
        refine WQ.chunks (C' := [pt b5 x.cells 92]) (fun w hS => (jK hS)) ?_
        refine WQ.back ((k + 1, f2 ||| 2 ^ k)) ?_ ?_ ?_ ?_
        ·exact ⟨by (show k + 1 ≤ 24; omega), or_lt32 hf4 hp32, fun j hj => by (rw [Nat.testBit_or, hup j hj, Bool.true_or]), hz2⟩
        ·(show 24 - (k + 1) < 24 - k; omega)
        ·exact ⟨rfl, rfl, rfl, rfl, rfl, trivial⟩
        ·rfl
       ·have hy0 : y = 0 := by (simp at h81; exact h81)
        refine jN 11 ?_
        have hz2 : ∀ j, j < k + 1 → x.l.getD j 0 ≠ 0 → f2.testBit j = true := fun j hj hne => by
         rcases Nat.lt_or_ge j k with h | h
         ·exact hz j h hne
         ·have e : j = k := by omega
          rw [e, hgy] at hne
          exact absurd hy0 hne
        refine WQ.chunks (C' := [pt b5 x.cells 92]) (fun w hS => (jK hS)) ?_
        refine WQ.back ((k + 1, f2)) ?_ ?_ ?_ ?_
        ·exact ⟨by (show k + 1 ≤ 24; omega), hf4, hup, hz2⟩
        ·(show 24 - (k + 1) < 24 - k; omega)
        ·exact ⟨rfl, rfl, rfl, rfl, rfl, trivial⟩
        ·rfl
      ·have hdn : x.doo = 13 → x.l.length ≤ k ∨ 24 ≤ k := fun h => by (rw [h] at h73; simp at h73)
       refine jN 14 ?_
       have hop : OpIn x f2 := men_in x f f2 hup fun h13 j hj hne => by
        rcases hdn h13 with h | h
        ·rcases Nat.lt_or_ge j k with h2 | h2
         ·exact hz j h2 hne
         ·exact absurd (by rw [List.getD_eq_getElem?_getD, List.getElem?_eq_none (by omega)]; rfl) hne
        ·exact hz j (by omega) hne
       have hin2 : ∀ y ∈ l.take (i + 1), OpIn y f2 ∧ y.l.length ≤ 40 := fun y hy => by
        rw [List.take_add_one, hx] at hy
        rcases List.mem_append.1 hy with hy | hy
        ·exact ⟨(hin y hy).1.mono fun k hk => hup k (men_up x f hk), (hin y hy).2⟩
        ·simp at hy
         subst hy
         exact ⟨hop, hl40⟩
       refine WQ.chunks (C' := []) (fun w hS => hS.sublist (List.nil_sublist _)) ?_
       refine WQ.back ((i + 1, f2)) ?_ ?_ ?_ ?_
       ·exact ⟨by (show i + 1 ≤ l.length; omega), hf4, hin2⟩
       ·(show l.length - (i + 1) < l.length - i; omega)
       ·exact ⟨rfl, rfl, rfl, trivial⟩
       ·rfl
     ·have hdn : x.doo = 13 → x.l.length ≤ k ∨ 24 ≤ k := fun _ => .inr (by simp at g69; omega)
      refine jN 25 ?_
      have hop : OpIn x f2 := men_in x f f2 hup fun h13 j hj hne => by
       rcases hdn h13 with h | h
       ·rcases Nat.lt_or_ge j k with h2 | h2
        ·exact hz j h2 hne
        ·exact absurd (by rw [List.getD_eq_getElem?_getD, List.getElem?_eq_none (by omega)]; rfl) hne
       ·exact hz j (by omega) hne
      have hin2 : ∀ y ∈ l.take (i + 1), OpIn y f2 ∧ y.l.length ≤ 40 := fun y hy => by
       rw [List.take_add_one, hx] at hy
       rcases List.mem_append.1 hy with hy | hy
       ·exact ⟨(hin y hy).1.mono fun k hk => hup k (men_up x f hk), (hin y hy).2⟩
       ·simp at hy
        subst hy
        exact ⟨hop, hl40⟩
      refine WQ.chunks (C' := []) (fun w hS => hS.sublist (List.nil_sublist _)) ?_
      refine WQ.back ((i + 1, f2)) ?_ ?_ ?_ ?_
      ·exact ⟨by (show i + 1 ≤ l.length; omega), hf4, hin2⟩
      ·(show l.length - (i + 1) < l.length - i; omega)
      ·exact ⟨rfl, rfl, rfl, trivial⟩
      ·rfl
    ·have hdn : x.doo = 13 → x.l.length ≤ k ∨ 24 ≤ k := fun _ => .inl (by simp at g65; omega)
     refine jN 33 ?_
     have hop : OpIn x f2 := men_in x f f2 hup fun h13 j hj hne => by
      rcases hdn h13 with h | h
      ·rcases Nat.lt_or_ge j k with h2 | h2
       ·exact hz j h2 hne
       ·exact absurd (by rw [List.getD_eq_getElem?_getD, List.getElem?_eq_none (by omega)]; rfl) hne
      ·exact hz j (by omega) hne
     have hin2 : ∀ y ∈ l.take (i + 1), OpIn y f2 ∧ y.l.length ≤ 40 := fun y hy => by
      rw [List.take_add_one, hx] at hy
      rcases List.mem_append.1 hy with hy | hy
      ·exact ⟨(hin y hy).1.mono fun k hk => hup k (men_up x f hk), (hin y hy).2⟩
      ·simp at hy
       subst hy
       exact ⟨hop, hl40⟩
     refine WQ.chunks (C' := []) (fun w hS => hS.sublist (List.nil_sublist _)) ?_
     refine WQ.back ((i + 1, f2)) ?_ ?_ ?_ ?_
     ·exact ⟨by (show i + 1 ≤ l.length; omega), hf4, hin2⟩
     ·(show l.length - (i + 1) < l.length - i; omega)
     ·exact ⟨rfl, rfl, rfl, trivial⟩
     ·rfl
  ·have hie : i = l.length := by simp at h13; omega
   subst hie
   rw [List.take_length] at hin
   refine jN 10 ?_
   refine jC (β := Option Addr × Nat) (res := fun y => .slice y.1 (featL f).length y.2) (cs := fun y => [rowc (.slice y.1 (featL f).length y.2) (featL f).length 3 1 (nums (featL f))]) F.fun34 rfl (fun w hS _ => Features_c f hf w) (fun ⟨va, vc⟩ => ?_)
   refine jN 9 ?_
   refine WQ.ret (rs := [.tmp 2]) rfl (.tmp rfl .nil) (fun w hS => ⟨⟨_, fun h => ⟨hl12, f, hf, ?_, hin⟩⟩, rfl, hS.sublist (List.nil_sublist _)⟩)
   have h9 : ((featL f).length : Int) ≤ 7 := of_decide_eq_true h
   omega

end Go.Proofs.YtkgllhkhdjodeaaGreat

namespace Go.Proofs.YtkgllhkhdjodeaaGreat
open Go Go.Eng Go.Proofs Dg
structure CubeG where
 m : Nat
 G : List Nat
 l : List Dec
 r : Nat

theorem Cube_c (on off : Nat) (hon : on < 4294967296) (hoff : off < 4294967296) (w : World) : Calls Tryz.prog 107 [.int .u32 (on : Int), .int .u32 (off : Int)].toArray w (DPost (fun c => cubeB on off 0 c) w) := by
 have hon1 : (on &&& 16777215) < 4294967296 := Nat.lt_of_le_of_lt Nat.and_le_left hon
 have hoff1 : (off &&& 16777215) < 4294967296 := Nat.lt_of_le_of_lt Nat.and_le_left hoff
 refine enter Tryz.func107 rfl Tryz.ntmps107 rfl (St.init _) ?_
 refine jN 3 ?_
 refine WL.alloc F.zero35 rfl (fun b4 => ?_)
 refine jN 7 ?_
 refine WL.bin rfl rfl rfl (fun w => run_and (b := 16777215) hon (by decide) _ _ _ w) ?_
 refine jN 3 ?_
 refine WL.bin rfl rfl rfl (fun w => run_and (b := 16777215) hoff (by decide) _ _ _ w) ?_
 refine jN 14 ?_
 refine WL.bin rfl rfl rfl (fun w => run_and hon1 hoff1 _ _ _ w) ?_
 refine jN 4 ?_
 refine WC.cond rfl (fun h15 => ?_) (fun h15 => ?_)
 ·have hcl : (on &&& 16777215) &&& (off &&& 16777215) ≠ 0 := by (intro e; rw [e] at h15; simp at h15)
  refine jN 10 ?_
  refine WQ.ret (rs := [.cell 4 35]) rfl (.cellN F.agg35 rfl jM rfl .nil) (fun w hS => ⟨⟨(.lf false, none, 0), trivial, fun c => (cubeB_clash hcl c).symm⟩, rfl, hS.drop.rowNil _ _⟩)
 ·have hcl : (on &&& 16777215) &&& (off &&& 16777215) = 0 := by (simp at h15; omega)
  refine jN 5 ?_
  refine WL.call0 (β := List Nat × Nat) (res := fun x => .returned (pp x.2)) (cs := fun x => [mkr x.1 x.2 []]) (ψ := fun _ => True) F.fun147 (fun d h => by cases h; rfl) rfl (fun w hS => (newMaker_c w).mono (fun e w2 ⟨x, h1, h2⟩ => ⟨x, trivial, h1, h2⟩)) (fun ⟨G0, bm⟩ _ => ?_)
  refine WL.step ?_
  refine WL.assign rfl rfl ?_
  refine WL.nil ?_
  refine WQ.then_normal ?_
  refine WC.seq ?_
  refine WC.region ?_
  refine WL.step ?_
  refine WL.assign rfl rfl ?_
  refine WL.nil ?_
  refine WQ.then_normal ?_
  refine WC.seq ?_
  refine WC.seq ?_
  refine WC.region ?_
  refine WL.step ?_
  refine WL.assign rfl rfl ?_
  refine WL.nil ?_
  refine WQ.then_normal ?_
  refine WC.block ?_
  refine WC.loop (α := CubeG) (fun g => g.m ≤ 24 ∧ Mk g.l ∧ g.l.length + g.m ≤ 24 ∧ g.r < g.l.length + 2 ∧ (trs g.l g.r).ok g.m ∧ ∀ c, (trs g.l g.r).ev c = cubeB (on &&& 16777215) (off &&& 16777215) g.m c) (fun g => [(0, .int .u32 (((on &&& 16777215) : Nat) : Int)), (1, .int .u32 (((off &&& 16777215) : Nat) : Int)), (4, pp b4), (5, pp bm), (6, .int .i64 (g.r : Int)), (7, .int .i64 ((g.m : Int) - 1))]) (fun g => [mkr g.G bm g.l, pt b4 [.slice none 0 0, .int .i64 0] 35]) (fun g => g.m) (⟨24, G0, [], 1⟩) ?_ ?_ ?_ ?_
  ·exact ⟨Nat.le_refl _, Mk.nil, (by show 0 + 24 ≤ 24; decide), (by show 1 < 0 + 2; decide), trivial, fun c => (cubeB_end _ _ c).symm⟩
  ·exact ⟨rfl, rfl, rfl, rfl, rfl, rfl, trivial⟩
  ·rfl
  rintro ⟨m, G, l, r⟩ ⟨hm24, hm, hlm, hr, hok, hev⟩
  dsimp only at hm24 hm hlm hr hok hev
  show WC _ _ _ _ _ _ _ [(0, .int .u32 (((on &&& 16777215) : Nat) : Int)), (1, .int .u32 (((off &&& 16777215) : Nat) : Int)), (4, pp b4), (5, pp bm), (6, .int .i64 (r : Int)), (7, .int .i64 ((m : Int) - 1))] [mkr G bm l, pt b4 [.slice none 0 0, .int .i64 0] 35]
  refine jN 9 ?_
  refine WC.cond rfl (fun h19 => ?_) (fun h19 => ?_)
  ·obtain ⟨k, rfl⟩ : ∃ k, m = k + 1 := ⟨m - 1, by (simp at h19; omega)⟩
   have hki : (((k + 1 : Nat) : Int) - 1) = (k : Int) := by omega
   refine jN 11 ?_
   refine WA.say 24 (.int .i64 (k : Int)) (by rw [← hki]; rfl) ?_
   refine jN 1 ?_
   refine WL.bin rfl rfl rfl (fun w => run_shr (by omega) _ _ _ w) ?_
   refine jN 1 ?_
   refine WL.bin rfl rfl rfl (fun w => run_and (b := 1) (Nat.lt_of_le_of_lt (by rw [Nat.shiftRight_eq_div_pow]; exact Nat.div_le_self _ _) hon1) (by decide) _ _ _ w) ?_
   refine jN 6 ?_
   refine WC.cond rfl (fun h22 => ?_) (fun h22 => ?_)
   ·rw [Fm.testBit_shift] at h22
    have hb1 : (on &&& 16777215).testBit k = true := h22
    have hb2 : (off &&& 16777215).testBit k = false := by
     have h0 : ((on &&& 16777215) &&& (off &&& 16777215)).testBit k = false := by rw [hcl]; simp
     rw [Nat.testBit_and, hb1] at h0; simpa using h0
    refine jN 5 ?_
    refine WA.say 29 (.int .i64 (k : Int)) (by rw [← hki]; rfl) ?_
    refine jN 3 ?_
    refine WL.callC (β := { z : List Nat × List Dec × Nat // MadeN l z.2.1 z.2.2 (mkN k (trs l 0) (trs l r)) ∧ z.2.1.length ≤ l.length + 1 }) (res := fun z => .int .i64 (z.1.2.2 : Int)) (cs := fun z => [mkr z.1.1 bm z.1.2.1]) (Cs := [mkr G bm l]) (C1 := [pt b4 [.slice none 0 0, .int .i64 0] 35]) (O' := G) F.fun149 (fun d h => by cases h; rfl) rfl (List.Perm.refl _) bun_O1 bun_O2 (fun w hS hS2 => mnode_c G bm l k 0 r w (by omega) hm (by omega) hr (by omega) hS2) (fun ⟨⟨G2, l2, r2⟩, hm2, hl2⟩ => ?_)
    dsimp only at hm2 hl2
    refine jN 9 ?_
    refine WA.say 20 (.int .i64 (k : Int)) (by rw [← hki]; rfl) ?_
    refine jN 5 ?_
    refine WQ.chunks (C' := [mkr G2 bm l2, pt b4 [.slice none 0 0, .int .i64 0] 35]) (fun w hS => (jK hS)) ?_
    refine WQ.back (⟨k, G2, l2, r2⟩) ?_ ?_ ?_ ?_
    ·exact ⟨by show k ≤ 24; omega, hm2.ismk, by dsimp only; omega, hm2.lt, by show (trs l2 r2).ok k; rw [hm2.tree]; exact mkN_ok (Nat.le_refl _) (by omega) (by rw [(trs_zero l).1]; trivial) hok, fun c => by (show (trs l2 r2).ev c = cubeB _ _ k c; rw [cubeB_step (m := k) (by omega) c, hm2.tree, mkN_ev, (trs_zero l).1, hev, hb1, hb2]; cases c k <;> simp [BT.ev])⟩
    ·(show k < k + 1; omega)
    ·exact ⟨rfl, rfl, rfl, rfl, rfl, rfl, trivial⟩
    ·rfl
   ·rw [Fm.testBit_shift] at h22
    have hb1 : (on &&& 16777215).testBit k = false := h22
    refine jN 6 ?_
    refine WA.say 34 (.int .i64 (k : Int)) (by rw [← hki]; rfl) ?_
    refine jN 1 ?_
    refine WL.bin rfl rfl rfl (fun w => run_shr (by omega) _ _ _ w) ?_
    refine jN 1 ?_
    refine WL.bin rfl rfl rfl (fun w => run_and (b := 1) (Nat.lt_of_le_of_lt (by rw [Nat.shiftRight_eq_div_pow]; exact Nat.div_le_self _ _) hoff1) (by decide) _ _ _ w) ?_
    refine jN 6 ?_
    refine WC.cond rfl (fun h32 => ?_) (fun h32 => ?_)
    ·rw [Fm.testBit_shift] at h32
     have hb2 : (off &&& 16777215).testBit k = true := h32
     refine jN 5 ?_
     refine WA.say 39 (.int .i64 (k : Int)) (by rw [← hki]; rfl) ?_
     refine jN 3 ?_
     refine WL.callC (β := { z : List Nat × List Dec × Nat // MadeN l z.2.1 z.2.2 (mkN k (trs l r) (trs l 0)) ∧ z.2.1.length ≤ l.length + 1 }) (res := fun z => .int .i64 (z.1.2.2 : Int)) (cs := fun z => [mkr z.1.1 bm z.1.2.1]) (Cs := [mkr G bm l]) (C1 := [pt b4 [.slice none 0 0, .int .i64 0] 35]) (O' := G) F.fun149 (fun d h => by cases h; rfl) rfl (List.Perm.refl _) bun_O1 bun_O2 (fun w hS hS2 => mnode_c G bm l k r 0 w (by omega) hm hr (by omega) (by omega) hS2) (fun ⟨⟨G2, l2, r2⟩, hm2, hl2⟩ => ?_)
     dsimp only at hm2 hl2
     refine jN 9 ?_
     refine WA.say 20 (.int .i64 (k : Int)) (by rw [← hki]; rfl) ?_
     refine jN 5 ?_
     refine WQ.chunks (C' := [mkr G2 bm l2, pt b4 [.slice none 0 0, .int .i64 0] 35]) (fun w hS => (jK hS)) ?_
     refine WQ.back (⟨k, G2, l2, r2⟩) ?_ ?_ ?_ ?_
     ·exact ⟨by show k ≤ 24; omega, hm2.ismk, by dsimp only; omega, hm2.lt, by show (trs l2 r2).ok k; rw [hm2.tree]; exact mkN_ok (Nat.le_refl _) (by omega) hok (by rw [(trs_zero l).1]; trivial), fun c => by (show (trs l2 r2).ev c = cubeB _ _ k c; rw [cubeB_step (m := k) (by omega) c, hm2.tree, mkN_ev, (trs_zero l).1, hev, hb1, hb2]; cases c k <;> simp [BT.ev])⟩
     ·(show k < k + 1; omega)
     ·exact ⟨rfl, rfl, rfl, rfl, rfl, rfl, trivial⟩
     ·rfl
    ·rw [Fm.testBit_shift] at h32
     have hb2 : (off &&& 16777215).testBit k = false := h32
     refine jN 7 ?_
     refine WA.say 20 (.int .i64 (k : Int)) (by rw [← hki]; rfl) ?_
     refine jN 5 ?_
     refine WQ.chunks (C' := [mkr G bm l, pt b4 [.slice none 0 0, .int .i64 0] 35]) (fun w hS => (jK hS)) ?_
     refine WQ.back (⟨k, G, l, r⟩) ?_ ?_ ?_ ?_
     ·exact ⟨by show k ≤ 24; omega, hm, by dsimp only; omega, hr, BT.ok_mono (n := k + 1) hok (Nat.le_succ _), fun c => by (show (trs l r).ev c = cubeB _ _ k c; rw [cubeB_step (m := k) (by omega) c, hev, hb1, hb2]; simp)⟩
     ·(show k < k + 1; omega)
     ·exact ⟨rfl, rfl, rfl, rfl, rfl, rfl, trivial⟩
     ·rfl
  ·have hm0 : m = 0 := by (simp at h19; omega)
   subst hm0
   refine jN 12 ?_
   refine WL.callC (β := Option Addr × Nat) (res := fun z => dval (trs l r) z.1 z.2) (cs := fun z => [dC z.1 z.2 (trs l r)]) (Cs := [mkr G bm l]) (C1 := [pt b4 [.slice none 0 0, .int .i64 0] 35]) (O' := G) F.fun148 (fun d h => by cases h; rfl) rfl (List.Perm.refl _) bun_O1 bun_O2 (fun w hS hS2 => done_c G bm l r w hm hr hok (by omega) hS2) (fun z3 => ?_)
   refine jN 5 ?_
   refine WQ.ret (rs := [.cell 4 35]) rfl (.cellN F.agg35 rfl jM rfl .nil) (fun w hS => ⟨⟨(trs l r, z3), hok, fun c => by rw [hev, cubeB_mask]⟩, rfl, (jK hS)⟩)

end Go.Proofs.YtkgllhkhdjodeaaGreat

namespace Go.Proofs.YtkgllhkhdjodeaaGreat
open Go Go.Eng Go.Proofs Dg
theorem run_remI {a m : Nat} (ha : a < 4294967296) (hm : 0 < m) (hm2 : m < 4294967296) (t : TypeId) (x y : Operand) (w : World) :
  (do eqGuard .rem t x y (.int .i64 (a : Int)) (.int .i64 (m : Int)); binOp .rem t (.int .i64 (a : Int)) (.int .i64 (m : Int)) : Sem Value).run Tryz.prog w = .ok (.int .i64 ((a % m : Nat) : Int)) w := by
 have h1 : (a : Int).tmod (m : Int) = ((a % m : Nat) : Int) := by
  rw [Int.tmod_eq_emod_of_nonneg (Int.natCast_nonneg _)]; simp
 have h4 : a % m < 4294967296 := Nat.lt_trans (Nat.mod_lt _ hm) hm2
 have h2 : IntKind.i64.wrap ((a % m : Nat) : Int) = ((a % m : Nat) : Int) := wrap_in (by omega) (by omega)
 have h3 : ¬ m = 0 := by omega
 simp only [Int.natCast_emod] at h1 h2
 simp [eqGuard, binOp, Op.intDiv, h1, h2, h3]
theorem RdDL.pos {w : World} {s : List DV} {a : Option Addr} (h : RdDL w s a) (hs : 0 < s.length) : ∃ b off, a = some ⟨b, off, none⟩ ∧ ∀ (i : Nat) (x : DV), s[i]? = some x → ∀ j v, (dvl x)[j]? = some v → w.cell? ⟨b, off + i * 2 + j, none⟩ = some v := by
 obtain ⟨b, off, h1, _⟩ := h.at (List.getElem?_eq_getElem hs)
 refine ⟨b, off, h1, fun i x hx j v hv => ?_⟩
 obtain ⟨b2, off2, h2, h3, _⟩ := h.at hx
 rw [h1] at h2
 simp only [Option.some.injEq, Addr.mk.injEq, and_true] at h2
 obtain ⟨rfl, rfl⟩ := h2
 exact h3 j v hv
theorem evAt_get {s : List DV} {k : Nat} {x : DV} (h : s[k % s.length]? = some x) : evAt (s.map (fun y => y.1.ev)) k = x.1.ev := by
 unfold evAt
 rw [List.length_map, List.getD_eq_getElem?_getD, List.getElem?_map, h]
 rfl
theorem OneP.weak {s : List DV} {f g : Cf → Bool} {w w' : World} {e : Ending} (h : OneP s f w e w') (hf : ∀ cf, f cf = g cf) : OneP s g w e w' := by
 obtain ⟨y, k, h1, h2, h3, h4, h5⟩ := h
 exact ⟨y, k, h1, h2, fun cf => by rw [h3, hf], h4, h5⟩

set_option maxRecDepth 100000 in
theorem opOne_c (x : OpV) (hw : x.wf) (hl40 : x.l.length ≤ 40) (s : List DV) (a : Option Addr) (c : Nat) (hsp : 0 < s.length) (hsl : s.length ≤ 1000) (w : World) (hr : RdDL w s a) (hrl : RdC w x.l x.la) :
  Calls Tryz.prog 51 [x.val, .slice a s.length c].toArray w (OneP s (opD x (s.map (fun y => y.1.ev))) w) := by
 obtain ⟨bs, os, ha, hsc⟩ := hr.pos hsp
 subst ha
 obtain ⟨xa, hxa⟩ : ∃ y, s[x.a % s.length]? = some y := ⟨_, List.getElem?_eq_getElem (Nat.mod_lt _ hsp)⟩
 obtain ⟨xb, hxb⟩ : ∃ y, s[x.b % s.length]? = some y := ⟨_, List.getElem?_eq_getElem (Nat.mod_lt _ hsp)⟩
 obtain ⟨xc, hxc⟩ : ∃ y, s[x.c % s.length]? = some y := ⟨_, List.getElem?_eq_getElem (Nat.mod_lt _ hsp)⟩
 have hea : evAt (s.map (fun y => y.1.ev)) x.a = xa.1.ev := evAt_get hxa
 have heb : evAt (s.map (fun y => y.1.ev)) x.b = xb.1.ev := evAt_get hxb
 have hec : evAt (s.map (fun y => y.1.ev)) x.c = xc.1.ev := evAt_get hxc
 refine enter Tryz.func51 rfl Tryz.ntmps51 rfl (St.init _) ?_
 refine jN 3 ?_
 refine WL.boxN rfl rfl (fun b2 => ?_)
 refine jN 1 ?_
 refine WL.alloc F.zero35 rfl (fun b4 => ?_)
 refine jN 5 ?_
 refine WC.cutPE (α := Nat × Nat × Nat) (fun z => [(2, pp b2), (1, .slice (some ⟨bs, os, none⟩) s.length c), (4, pp b4), (6, pp z.1), (7, pp z.2.1), (8, pp z.2.2)]) (fun z => [pt z.1 (dvl xa) 35, pt z.2.1 (dvl xb) 35, pt z.2.2 (dvl xc) 35, pt b2 x.cells 92, pt b4 [.slice none 0 0, .int .i64 0] 35]) (fun c a d v w h => by cases d <;> exact h) (fun Q' hP hQ => ?_) (fun xE => ?_)
 ·refine WC.drawsL (by kernel_rfl) (FactsOk.cons (ds := [30, 31, 32]) (LoadOk.one (t := 2) (off := 2) rfl jM rfl) (FactsOk.cons (ds := [30, 31, 32]) (LoadOk.by (Y := fun w => ∀ j v, (dvl xa)[j]? = some v → w.cell? ⟨bs, os + (x.a % s.length) * 2 + j, none⟩ = some v) (fun w hS => fun j v hv => hS.oldc (hsc _ _ hxa j v hv) (by simp))) (FactsOk.cons (ds := [31, 32]) (LoadOk.one (t := 2) (off := 3) rfl jM rfl) (FactsOk.cons (ds := [31, 32]) (LoadOk.by (Y := fun w => ∀ j v, (dvl xb)[j]? = some v → w.cell? ⟨bs, os + (x.b % s.length) * 2 + j, none⟩ = some v) (fun w hS => fun j v hv => hS.oldc (hsc _ _ hxb j v hv) (by simp))) (FactsOk.cons (ds := [32]) (LoadOk.one (t := 2) (off := 4) rfl jM rfl) (FactsOk.cons (ds := [32]) (LoadOk.by (Y := fun w => ∀ j v, (dvl xc)[j]? = some v → w.cell? ⟨bs, os + (x.c % s.length) * 2 + j, none⟩ = some v) (fun w hS => fun j v hv => hS.oldc (hsc _ _ hxc j v hv) (by simp))) (FactsOk.nil))))))) ?_
  refine jT 0 rfl (Yl.move rfl) ?_
  refine jT 1 rfl (Yl.fieldAddr0 F.fld92_2 rfl) ?_
  refine jF 2 0 rfl rfl (Yl.load1 F.one5 rfl) ?_
  refine jT 3 rfl (Yl.convert rfl (v := .int .i64 (x.a : Int)) (fun w => conv8 hw.a w)) ?_
  refine jT 4 rfl (Yl.move rfl) ?_
  refine jT 5 rfl (Yl.lenSl F.und48 rfl) ?_
  refine jT 6 rfl (Yl.bin rfl rfl (fun w => run_remI (a := x.a) (m := s.length) (by have := hw.a; omega) hsp (by omega) _ _ _ w)) ?_
  refine jT 7 rfl (Yl.indexAddr (i := x.a % s.length) F.sl48 rfl rfl (Nat.mod_lt _ hsp)) ?_
  refine jF 8 1 rfl rfl (Yl.loadN F.agg35 rfl rfl) ?_
  refine jT 9 rfl (Yl.move rfl) ?_
  refine jT 10 rfl (Yl.fieldAddr0 F.fld92_3 rfl) ?_
  refine jF 11 2 rfl rfl (Yl.load1 F.one5 rfl) ?_
  refine jT 12 rfl (Yl.convert rfl (v := .int .i64 (x.b : Int)) (fun w => conv8 hw.b w)) ?_
  refine jT 13 rfl (Yl.move rfl) ?_
  refine jT 14 rfl (Yl.lenSl F.und48 rfl) ?_
  refine jT 15 rfl (Yl.bin rfl rfl (fun w => run_remI (a := x.b) (m := s.length) (by have := hw.b; omega) hsp (by omega) _ _ _ w)) ?_
  refine jT 16 rfl (Yl.indexAddr (i := x.b % s.length) F.sl48 rfl rfl (Nat.mod_lt _ hsp)) ?_
  refine jF 17 3 rfl rfl (Yl.loadN F.agg35 rfl rfl) ?_
  refine jT 18 rfl (Yl.move rfl) ?_
  refine jT 19 rfl (Yl.fieldAddr0 F.fld92_4 rfl) ?_
  refine jF 20 4 rfl rfl (Yl.load1 F.one5 rfl) ?_
  refine jT 21 rfl (Yl.convert rfl (v := .int .i64 (x.c : Int)) (fun w => conv8 hw.c w)) ?_
  refine jT 22 rfl (Yl.move rfl) ?_
  refine jT 23 rfl (Yl.lenSl F.und48 rfl) ?_
  refine jT 24 rfl (Yl.bin rfl rfl (fun w => run_remI (a := x.c) (m := s.length) (by have := hw.c; omega) hsp (by omega) _ _ _ w)) ?_
  refine jT 25 rfl (Yl.indexAddr (i := x.c % s.length) F.sl48 rfl rfl (Nat.mod_lt _ hsp)) ?_
  refine jF 26 5 rfl rfl (Yl.loadN F.agg35 rfl rfl) ?_
  refine WD.three (i := 27) (j := 28) (l := 29) (by decide +kernel) rfl rfl rfl ?_ ?_ ?_
  ·refine WL.alloc F.zero35 rfl (fun b6 => ?_)
   refine WD.on (closed_of (by decide +kernel)) (fun w hS => Sx.keep (hS.cell jM rfl) (Sx.keep (fun j v hv => hS.oldc (hsc _ _ hxa j v hv) (by simp)) (Sx.keep (hS.cell jM rfl) (Sx.keep (fun j v hv => hS.oldc (hsc _ _ hxb j v hv) (by simp)) (Sx.keep (hS.cell jM rfl) (Sx.keep (fun j v hv => hS.oldc (hsc _ _ hxc j v hv) (by simp)) (Sx.none))))))) ?_
   refine WD.two (i := 28) (j := 29) (by decide +kernel) rfl rfl ?_ ?_
   ·refine WL.alloc F.zero35 rfl (fun b7 => ?_)
    refine WD.on (closed_of (by decide +kernel)) (fun w hS => Sx.keep (hS.cell jM rfl) (Sx.keep (fun j v hv => hS.oldc (hsc _ _ hxa j v hv) (by simp)) (Sx.keep (hS.cell jM rfl) (Sx.keep (fun j v hv => hS.oldc (hsc _ _ hxb j v hv) (by simp)) (Sx.keep (hS.cell jM rfl) (Sx.keep (fun j v hv => hS.oldc (hsc _ _ hxc j v hv) (by simp)) (Sx.none))))))) ?_
    refine jA 29 rfl ?_
    refine WL.alloc F.zero35 rfl (fun b8 => ?_)
    refine WD.on (closed_of (by decide +kernel)) (fun w hS => Sx.keep (hS.cell jM rfl) (Sx.keep (fun j v hv => hS.oldc (hsc _ _ hxa j v hv) (by simp)) (Sx.keep (hS.cell jM rfl) (Sx.keep (fun j v hv => hS.oldc (hsc _ _ hxb j v hv) (by simp)) (Sx.keep (hS.cell jM rfl) (Sx.keep (fun j v hv => hS.oldc (hsc _ _ hxc j v hv) (by simp)) (Sx.none))))))) ?_
    refine jA 30 rfl ?_
    refine WL.storeN F.agg35 rfl rfl rfl jO jU jS ?_
    refine WD.on (closed_of (by decide +kernel)) (fun w hS => Sx.gone rfl (Sx.gone rfl (Sx.keep (hS.cell jM rfl) (Sx.keep (fun j v hv => hS.oldc (hsc _ _ hxb j v hv) (by simp)) (Sx.keep (hS.cell jM rfl) (Sx.keep (fun j v hv => hS.oldc (hsc _ _ hxc j v hv) (by simp)) (Sx.none))))))) ?_
    refine jA 31 rfl ?_
    refine WL.storeN F.agg35 rfl rfl rfl jO jU jS ?_
    refine WD.on (closed_of (by decide +kernel)) (fun w hS => Sx.gone rfl (Sx.gone rfl (Sx.gone rfl (Sx.gone rfl (Sx.keep (hS.cell jM rfl) (Sx.keep (fun j v hv => hS.oldc (hsc _ _ hxc j v hv) (by simp)) (Sx.none))))))) ?_
    refine jA 32 rfl ?_
    refine WL.storeN F.agg35 rfl rfl rfl jO jU jS ?_
    refine jG ?_
    refine jD ?_
    refine WQ.chunks (C' := [pt (b6, b7, b8).1 (dvl xa) 35, pt (b6, b7, b8).2.1 (dvl xb) 35, pt (b6, b7, b8).2.2 (dvl xc) 35, pt b2 x.cells 92, pt b4 [.slice none 0 0, .int .i64 0] 35]) (fun w hS => (jK hS)) ?_
    exact WQ.byCut (hQ (b6, b7, b8)) ⟨rfl, rfl, rfl, rfl, rfl, rfl, trivial⟩
   ·refine WL.alloc F.zero35 rfl (fun b8 => ?_)
    refine WD.on (closed_of (by decide +kernel)) (fun w hS => Sx.keep (hS.cell jM rfl) (Sx.keep (fun j v hv => hS.oldc (hsc _ _ hxa j v hv) (by simp)) (Sx.keep (hS.cell jM rfl) (Sx.keep (fun j v hv => hS.oldc (hsc _ _ hxb j v hv) (by simp)) (Sx.keep (hS.cell jM rfl) (Sx.keep (fun j v hv => hS.oldc (hsc _ _ hxc j v hv) (by simp)) (Sx.none))))))) ?_
    refine jA 28 rfl ?_
    refine WL.alloc F.zero35 rfl (fun b7 => ?_)
    refine WD.on (closed_of (by decide +kernel)) (fun w hS => Sx.keep (hS.cell jM rfl) (Sx.keep (fun j v hv => hS.oldc (hsc _ _ hxa j v hv) (by simp)) (Sx.keep (hS.cell jM rfl) (Sx.keep (fun j v hv => hS.oldc (hsc _ _ hxb j v hv) (by simp)) (Sx.keep (hS.cell jM rfl) (Sx.keep (fun j v hv => hS.oldc (hsc _ _ hxc j v hv) (by simp)) (Sx.none))))))) ?_
    refine jA 30 rfl ?_
    refine WL.storeN F.agg35 rfl rfl rfl jO jU jS ?_
    refine WD.on (closed_of (by decide +kernel)) (fun w hS => Sx.gone rfl (Sx.gone rfl (Sx.keep (hS.cell jM rfl) (Sx.keep (fun j v hv => hS.oldc (hsc _ _ hxb j v hv) (by simp)) (Sx.keep (hS.cell jM rfl) (Sx.keep (fun j v hv => hS.oldc (hsc _ _ hxc j v hv) (by simp)) (Sx.none))))))) ?_
    refine jA 31 rfl ?_
    refine WL.storeN F.agg35 rfl rfl rfl jO jU jS ?_
    refine WD.on (closed_of (by decide +kernel)) (fun w hS => Sx.gone rfl (Sx.gone rfl (Sx.gone rfl (Sx.gone rfl (Sx.keep (hS.cell jM rfl) (Sx.keep (fun j v hv => hS.oldc (hsc _ _ hxc j v hv) (by simp)) (Sx.none))))))) ?_
    refine jA 32 rfl ?_
    refine WL.storeN F.agg35 rfl rfl rfl jO jU jS ?_
    refine jG ?_
    refine jD ?_
    refine WQ.chunks (C' := [pt (b6, b7, b8).1 (dvl xa) 35, pt (b6, b7, b8).2.1 (dvl xb) 35, pt (b6, b7, b8).2.2 (dvl xc) 35, pt b2 x.cells 92, pt b4 [.slice none 0 0, .int .i64 0] 35]) (fun w hS => (jK hS)) ?_
    exact WQ.byCut (hQ (b6, b7, b8)) ⟨rfl, rfl, rfl, rfl, rfl, rfl, trivial⟩
  ·refine WL.alloc F.zero35 rfl (fun b7 => ?_)
   refine WD.on (closed_of (by decide +kernel)) (fun w hS => Sx.keep (hS.cell jM rfl) (Sx.keep (fun j v hv => hS.oldc (hsc _ _ hxa j v hv) (by simp)) (Sx.keep (hS.cell jM rfl) (Sx.keep (fun j v hv => hS.oldc (hsc _ _ hxb j v hv) (by simp)) (Sx.keep (hS.cell jM rfl) (Sx.keep (fun j v hv => hS.oldc (hsc _ _ hxc j v hv) (by simp)) (Sx.none))))))) ?_
   refine WD.two (i := 27) (j := 29) (by decide +kernel) rfl rfl ?_ ?_
   ·refine WL.alloc F.zero35 rfl (fun b6 => ?_)
    refine WD.on (closed_of (by decide +kernel)) (fun w hS => Sx.keep (hS.cell jM rfl) (Sx.keep (fun j v hv => hS.oldc (hsc _ _ hxa j v hv) (by simp)) (Sx.keep (hS.cell jM rfl) (Sx.keep (fun j v hv => hS.oldc (hsc _ _ hxb j v hv) (by simp)) (Sx.keep (hS.cell jM rfl) (Sx.keep (fun j v hv => hS.oldc (hsc _ _ hxc j v hv) (by simp)) (Sx.none))))))) ?_
    refine jA 29 rfl ?_
    refine WL.alloc F.zero35 rfl (fun b8 => ?_)
    refine WD.on (closed_of (by decide +kernel)) (fun w hS => Sx.keep (hS.cell jM rfl) (Sx.keep (fun j v hv => hS.oldc (hsc _ _ hxa j v hv) (by simp)) (Sx.keep (hS.cell jM rfl) (Sx.keep (fun j v hv => hS.oldc (hsc _ _ hxb j v hv) (by simp)) (Sx.keep (hS.cell jM rfl) (Sx.keep (fun j v hv => hS.oldc (hsc _ _ hxc j v hv) (by simp)) (Sx.none))))))) ?_
    refine jA 30 rfl ?_
    refine WL.storeN F.agg35 rfl rfl rfl jO jU jS ?_
    refine WD.on (closed_of (by decide +kernel)) (fun w hS => Sx.gone rfl (Sx.gone rfl (Sx.keep (hS.cell jM rfl) (Sx.keep (fun j v hv => hS.oldc (hsc _ _ hxb j v hv) (by simp)) (Sx.keep (hS.cell jM rfl) (Sx.keep (fun j v hv => hS.oldc (hsc _ _ hxc j v hv) (by simp)) (Sx.none))))))) ?_
    refine jA 31 rfl ?_
    refine WL.storeN F.agg35 rfl rfl rfl jO jU jS ?_
    refine WD.on (closed_of (by decide +kernel)) (fun w hS => Sx.gone rfl (Sx.gone rfl (Sx.gone rfl (Sx.gone rfl (Sx.keep (hS.cell jM rfl) (Sx.keep (fun j v hv => hS.oldc (hsc _ _ hxc j v hv) (by simp)) (Sx.none))))))) ?_
    refine jA 32 rfl ?_
    refine WL.storeN F.agg35 rfl rfl rfl jO jU jS ?_
    refine jG ?_
    refine jD ?_
    refine WQ.chunks (C' := [pt (b6, b7, b8).1 (dvl xa) 35, pt (b6, b7, b8).2.1 (dvl xb) 35, pt (b6, b7, b8).2.2 (dvl xc) 35, pt b2 x.cells 92, pt b4 [.slice none 0 0, .int .i64 0] 35]) (fun w hS => (jK hS)) ?_
    exact WQ.byCut (hQ (b6, b7, b8)) ⟨rfl, rfl, rfl, rfl, rfl, rfl, trivial⟩
   ·refine WL.alloc F.zero35 rfl (fun b8 => ?_)
    refine WD.on (closed_of (by decide +kernel)) (fun w hS => Sx.keep (hS.cell jM rfl) (Sx.keep (fun j v hv => hS.oldc (hsc _ _ hxa j v hv) (by simp)) (Sx.keep (hS.cell jM rfl) (Sx.keep (fun j v hv => hS.oldc (hsc _ _ hxb j v hv) (by simp)) (Sx.keep (hS.cell jM rfl) (Sx.keep (fun j v hv => hS.oldc (hsc _ _ hxc j v hv) (by simp)) (Sx.none))))))) ?_
    refine jA 27 rfl ?_
    refine WL.alloc F.zero35 rfl (fun b6 => ?_)
    refine WD.on (closed_of (by decide +kernel)) (fun w hS => Sx.keep (hS.cell jM rfl) (Sx.keep (fun j v hv => hS.oldc (hsc _ _ hxa j v hv) (by simp)) (Sx.keep (hS.cell jM rfl) (Sx.keep (fun j v hv => hS.oldc (hsc _ _ hxb j v hv) (by simp)) (Sx.keep (hS.cell jM rfl) (Sx.keep (fun j v hv => hS.oldc (hsc _ _ hxc j v hv) (by simp)) (Sx.none))))))) ?_
    refine jA 30 rfl ?_
    refine WL.storeN F.agg35 rfl rfl rfl jO jU jS ?_
    refine WD.on (closed_of (by decide +kernel)) (fun w hS => Sx.gone rfl (Sx.gone rfl (Sx.keep (hS.cell jM rfl) (Sx.keep (fun j v hv => hS.oldc (hsc _ _ hxb j v hv) (by simp)) (Sx.keep (hS.cell jM rfl) (Sx.keep (fun j v hv => hS.oldc (hsc _ _ hxc j v hv) (by simp)) (Sx.none))))))) ?_
    refine jA 31 rfl ?_
    refine WL.storeN F.agg35 rfl rfl rfl jO jU jS ?_
    refine WD.on (closed_of (by decide +kernel)) (fun w hS => Sx.gone rfl (Sx.gone rfl (Sx.gone rfl (Sx.gone rfl (Sx.keep (hS.cell jM rfl) (Sx.keep (fun j v hv => hS.oldc (hsc _ _ hxc j v hv) (by simp)) (Sx.none))))))) ?_
    refine jA 32 rfl ?_
    refine WL.storeN F.agg35 rfl rfl rfl jO jU jS ?_
    refine jG ?_
    refine jD ?_
    refine WQ.chunks (C' := [pt (b6, b7, b8).1 (dvl xa) 35, pt (b6, b7, b8).2.1 (dvl xb) 35, pt (b6, b7, b8).2.2 (dvl xc) 35, pt b2 x.cells 92, pt b4 [.slice none 0 0, .int .i64 0] 35]) (fun w hS => (jK hS)) ?_
    exact WQ.byCut (hQ (b6, b7, b8)) ⟨rfl, rfl, rfl, rfl, rfl, rfl, trivial⟩
  ·refine WL.alloc F.zero35 rfl (fun b8 => ?_)
   refine WD.on (closed_of (by decide +kernel)) (fun w hS => Sx.keep (hS.cell jM rfl) (Sx.keep (fun j v hv => hS.oldc (hsc _ _ hxa j v hv) (by simp)) (Sx.keep (hS.cell jM rfl) (Sx.keep (fun j v hv => hS.oldc (hsc _ _ hxb j v hv) (by simp)) (Sx.keep (hS.cell jM rfl) (Sx.keep (fun j v hv => hS.oldc (hsc _ _ hxc j v hv) (by simp)) (Sx.none))))))) ?_
   refine WD.two (i := 27) (j := 28) (by decide +kernel) rfl rfl ?_ ?_
   ·refine WL.alloc F.zero35 rfl (fun b6 => ?_)
    refine WD.on (closed_of (by decide +kernel)) (fun w hS => Sx.keep (hS.cell jM rfl) (Sx.keep (fun j v hv => hS.oldc (hsc _ _ hxa j v hv) (by simp)) (Sx.keep (hS.cell jM rfl) (Sx.keep (fun j v hv => hS.oldc (hsc _ _ hxb j v hv) (by simp)) (Sx.keep (hS.cell jM rfl) (Sx.keep (fun j v hv => hS.oldc (hsc _ _ hxc j v hv) (by simp)) (Sx.none))))))) ?_
    refine jA 28 rfl ?_
    refine WL.alloc F.zero35 rfl (fun b7 => ?_)
    refine WD.on (closed_of (by decide +kernel)) (fun w hS => Sx.keep (hS.cell jM rfl) (Sx.keep (fun j v hv => hS.oldc (hsc _ _ hxa j v hv) (by simp)) (Sx.keep (hS.cell jM rfl) (Sx.keep (fun j v hv => hS.oldc (hsc _ _ hxb j v hv) (by simp)) (Sx.keep (hS.cell jM rfl) (Sx.keep (fun j v hv => hS.oldc (hsc _ _ hxc j v hv) (by simp)) (Sx.none))))))) ?_
    refine jA 30 rfl ?_
    refine WL.storeN F.agg35 rfl rfl rfl jO jU jS ?_
    refine WD.on (closed_of (by decide +kernel)) (fun w hS => Sx.gone rfl (Sx.gone rfl (Sx.keep (hS.cell jM rfl) (Sx.keep (fun j v hv => hS.oldc (hsc _ _ hxb j v hv) (by simp)) (Sx.keep (hS.cell jM rfl) (Sx.keep (fun j v hv => hS.oldc (hsc _ _ hxc j v hv) (by simp)) (Sx.none))))))) ?_
    refine jA 31 rfl ?_
    refine WL.storeN F.agg35 rfl rfl rfl jO jU jS ?_
    refine WD.on (closed_of (by decide +kernel)) (fun w hS => Sx.gone rfl (Sx.gone rfl (Sx.gone rfl (Sx.gone rfl (Sx.keep (hS.cell jM rfl) (Sx.keep (fun j v hv => hS.oldc (hsc _ _ hxc j v hv) (by simp)) (Sx.none))))))) ?_
    refine jA 32 rfl ?_
    refine WL.storeN F.agg35 rfl rfl rfl jO jU jS ?_
    refine jG ?_
    refine jD ?_
    refine WQ.chunks (C' := [pt (b6, b7, b8).1 (dvl xa) 35, pt (b6, b7, b8).2.1 (dvl xb) 35, pt (b6, b7, b8).2.2 (dvl xc) 35, pt b2 x.cells 92, pt b4 [.slice none 0 0, .int .i64 0] 35]) (fun w hS => (jK hS)) ?_
    exact WQ.byCut (hQ (b6, b7, b8)) ⟨rfl, rfl, rfl, rfl, rfl, rfl, trivial⟩
   ·refine WL.alloc F.zero35 rfl (fun b7 => ?_)
    refine WD.on (closed_of (by decide +kernel)) (fun w hS => Sx.keep (hS.cell jM rfl) (Sx.keep (fun j v hv => hS.oldc (hsc _ _ hxa j v hv) (by simp)) (Sx.keep (hS.cell jM rfl) (Sx.keep (fun j v hv => hS.oldc (hsc _ _ hxb j v hv) (by simp)) (Sx.keep (hS.cell jM rfl) (Sx.keep (fun j v hv => hS.oldc (hsc _ _ hxc j v hv) (by simp)) (Sx.none))))))) ?_
    refine jA 27 rfl ?_
    refine WL.alloc F.zero35 rfl (fun b6 => ?_)
    refine WD.on (closed_of (by decide +kernel)) (fun w hS => Sx.keep (hS.cell jM rfl) (Sx.keep (fun j v hv => hS.oldc (hsc _ _ hxa j v hv) (by simp)) (Sx.keep (hS.cell jM rfl) (Sx.keep (fun j v hv => hS.oldc (hsc _ _ hxb j v hv) (by simp)) (Sx.keep (hS.cell jM rfl) (Sx.keep (fun j v hv => hS.oldc (hsc _ _ hxc j v hv) (by simp)) (Sx.none))))))) ?_
    refine jA 30 rfl ?_
    refine WL.storeN F.agg35 rfl rfl rfl jO jU jS ?_
    refine WD.on (closed_of (by decide +kernel)) (fun w hS => Sx.gone rfl (Sx.gone rfl (Sx.keep (hS.cell jM rfl) (Sx.keep (fun j v hv => hS.oldc (hsc _ _ hxb j v hv) (by simp)) (Sx.keep (hS.cell jM rfl) (Sx.keep (fun j v hv => hS.oldc (hsc _ _ hxc j v hv) (by simp)) (Sx.none))))))) ?_
    refine jA 31 rfl ?_
    refine WL.storeN F.agg35 rfl rfl rfl jO jU jS ?_
    refine WD.on (closed_of (by decide +kernel)) (fun w hS => Sx.gone rfl (Sx.gone rfl (Sx.gone rfl (Sx.gone rfl (Sx.keep (hS.cell jM rfl) (Sx.keep (fun j v hv => hS.oldc (hsc _ _ hxc j v hv) (by simp)) (Sx.none))))))) ?_
    refine jA 32 rfl ?_
    refine WL.storeN F.agg35 rfl rfl rfl jO jU jS ?_
    refine jG ?_
    refine jD ?_
    refine WQ.chunks (C' := [pt (b6, b7, b8).1 (dvl xa) 35, pt (b6, b7, b8).2.1 (dvl xb) 35, pt (b6, b7, b8).2.2 (dvl xc) 35, pt b2 x.cells 92, pt b4 [.slice none 0 0, .int .i64 0] 35]) (fun w hS => (jK hS)) ?_
    exact WQ.byCut (hQ (b6, b7, b8)) ⟨rfl, rfl, rfl, rfl, rfl, rfl, trivial⟩
 obtain ⟨b6, b7, b8⟩ := xE
 show WQ _ _ _ _ _ _ [(2, pp b2), (1, .slice (some ⟨bs, os, none⟩) s.length c), (4, pp b4), (6, pp b6), (7, pp b7), (8, pp b8)] [pt b6 (dvl xa) 35, pt b7 (dvl xb) 35, pt b8 (dvl xc) 35, pt b2 x.cells 92, pt b4 [.slice none 0 0, .int .i64 0] 35]
 refine jN 19 ?_
 refine WC.cond rfl (fun h38 => ?_) (fun h38 => ?_)
 ·have hd : x.doo = 1 := by (simp at h38; omega)
  refine jN 3 ?_
  refine jC (β := DRes (fun _ => true)) (res := fun z => z.v) (cs := fun z => [z.ch]) F.fun74 rfl (fun w hS _ => True_c w) (fun z => ?_)
  refine jN 9 ?_
  refine WQ.ret (rs := [.cell 4 35, .tmp 5]) rfl (.cellN F.agg35 rfl jM rfl (.tmp rfl .nil)) (fun w hS => ?_)
  exact (OneP.of z _ (jK hS)).weak fun cf => by simp [opD, hd]
 ·have hn1 : ¬ x.doo = 1 := by (simp at h38; omega)
  refine jN 8 ?_
  refine WC.cond rfl (fun h41 => ?_) (fun h41 => ?_)
  ·have hd : x.doo = 2 := by (simp at h41; omega)
   refine jN 1 ?_
   rcases (show (0 ≤ x.i ∧ x.i < 24) ∨ (x.i < 0 ∨ 24 ≤ x.i) by omega) with hki | hko
   ·obtain ⟨k, hk⟩ := Int.eq_ofNat_of_zero_le hki.1
    have hk24 : k < 24 := by omega
    refine jN 5 ?_
    refine WA.say 44 (.int .i64 (k : Int)) (by rw [show (k : Int) = x.i from hk.symm]; rfl) ?_
    refine jN 1 ?_
    refine jC (β := DRes (fun c => c k)) (res := fun z => .tuple #[z.v, .int .i64 0]) (cs := fun z => [z.ch]) F.fun99 rfl (fun w hS _ => Var_in k hk24 w) (fun z => ?_)
    refine jN 13 ?_
    refine WQ.ret (rs := [.cell 4 35, .tmp 5]) rfl (.cellN F.agg35 rfl jM rfl (.tmp rfl .nil)) (fun w hS => ?_)
    refine (OneP.of z _ (jK hS)).weak fun cf => ?_
    have e9 : x.i.toNat = k := by rw [hk]; rfl
    have e8 : decide (0 ≤ x.i ∧ x.i < 24) = true := decide_eq_true hki
    simp only [opD, hd]
    simp [e9, hki.1, hki.2]
   ·refine jN 6 ?_
    refine jC (β := DRes (fun _ => false)) (res := fun z => .tuple #[z.v, .int .i64 3]) (cs := fun z => [z.ch]) F.fun99 rfl (fun w hS _ => Var_out x.i hko w) (fun z => ?_)
    refine jN 13 ?_
    refine WQ.ret (rs := [.cell 4 35, .tmp 5]) rfl (.cellN F.agg35 rfl jM rfl (.tmp rfl .nil)) (fun w hS => ?_)
    refine (OneP.of z _ (jK hS)).weak fun cf => ?_
    have e8 : decide (0 ≤ x.i ∧ x.i < 24) = false := decide_eq_false (by omega)
    simp only [opD, hd, e8, Bool.false_and]
    rfl
  ·have hn2 : ¬ x.doo = 2 := by (simp at h41; omega)
   refine jN 8 ?_
   refine WC.cond rfl (fun h48 => ?_) (fun h48 => ?_)
   ·have hd : x.doo = 3 := by (simp at h48; omega)
    refine jN 11 ?_
    refine jC (β := DRes (fun c => cubeB x.f x.g 0 c)) (res := fun z => z.v) (cs := fun z => [z.ch]) F.fun107 rfl (fun w hS _ => Cube_c x.f x.g hw.f hw.g w) (fun z => ?_)
    refine jN 9 ?_
    refine WQ.ret (rs := [.cell 4 35, .tmp 5]) rfl (.cellN F.agg35 rfl jM rfl (.tmp rfl .nil)) (fun w hS => ?_)
    exact (OneP.of z _ (jK hS)).weak fun cf => by simp [opD, hd]
   ·have hn3 : ¬ x.doo = 3 := by (simp at h48; omega)
    refine jN 8 ?_
    refine WC.cond rfl (fun h55 => ?_) (fun h55 => ?_)
    ·have hd : x.doo = 4 := by (simp at h55; omega)
     refine jN 5 ?_
     refine jC (β := DRes (fun c => !xa.1.ev c)) (res := fun z => z.v) (cs := fun z => [z.ch]) F.fun100 rfl (fun w hS _ => Not_c xa.1 xa.2.1 xa.2.2 w ((hr.rd _ (List.mem_of_getElem? hxa)).next0 hS)) (fun z => ?_)
     refine jN 9 ?_
     refine WQ.ret (rs := [.cell 4 35, .tmp 5]) rfl (.cellN F.agg35 rfl jM rfl (.tmp rfl .nil)) (fun w hS => ?_)
     exact (OneP.of z _ (jK hS)).weak fun cf => by simp [opD, hd, hea]
    ·have hn4 : ¬ x.doo = 4 := by (simp at h55; omega)
     refine jN 8 ?_
     refine WC.cond rfl (fun h59 => ?_) (fun h59 => ?_)
     ·have hd : x.doo = 5 := by (simp at h59; omega)
      refine jN 7 ?_
      refine jC (β := DRes (fun c => xa.1.ev c && xb.1.ev c)) (res := fun z => z.v) (cs := fun z => [z.ch]) F.fun75 rfl (fun w hS _ => And_c xa.1 xb.1 xa.2.1 xb.2.1 xa.2.2 xb.2.2 w ((hr.rd _ (List.mem_of_getElem? hxa)).next0 hS) ((hr.rd _ (List.mem_of_getElem? hxb)).next0 hS)) (fun z => ?_)
      refine jN 9 ?_
      refine WQ.ret (rs := [.cell 4 35, .tmp 5]) rfl (.cellN F.agg35 rfl jM rfl (.tmp rfl .nil)) (fun w hS => ?_)
      exact (OneP.of z _ (jK hS)).weak fun cf => by simp [opD, hd, hea, heb]
     ·have hn5 : ¬ x.doo = 5 := by (simp at h59; omega)
      refine jN 8 ?_
      refine WC.cond rfl (fun h64 => ?_) (fun h64 => ?_)
      ·have hd : x.doo = 6 := by (simp at h64; omega)
       refine jN 7 ?_
       refine jC (β := DRes (fun c => xa.1.ev c || xb.1.ev c)) (res := fun z => z.v) (cs := fun z => [z.ch]) F.fun105 rfl (fun w hS _ => Or_c xa.1 xb.1 xa.2.1 xb.2.1 xa.2.2 xb.2.2 w ((hr.rd _ (List.mem_of_getElem? hxa)).next0 hS) ((hr.rd _ (List.mem_of_getElem? hxb)).next0 hS)) (fun z => ?_)
       refine jN 9 ?_
       refine WQ.ret (rs := [.cell 4 35, .tmp 5]) rfl (.cellN F.agg35 rfl jM rfl (.tmp rfl .nil)) (fun w hS => ?_)
       exact (OneP.of z _ (jK hS)).weak fun cf => by simp [opD, hd, hea, heb]
      ·have hn6 : ¬ x.doo = 6 := by (simp at h64; omega)
       refine jN 8 ?_
       refine WC.cond rfl (fun h69 => ?_) (fun h69 => ?_)
       ·have hd : x.doo = 7 := by (simp at h69; omega)
        refine jN 7 ?_
        refine jC (β := DRes (fun c => xa.1.ev c != xb.1.ev c)) (res := fun z => z.v) (cs := fun z => [z.ch]) F.fun104 rfl (fun w hS _ => Xor_c xa.1 xb.1 xa.2.1 xb.2.1 xa.2.2 xb.2.2 w ((hr.rd _ (List.mem_of_getElem? hxa)).next0 hS) ((hr.rd _ (List.mem_of_getElem? hxb)).next0 hS)) (fun z => ?_)
        refine jN 9 ?_
        refine WQ.ret (rs := [.cell 4 35, .tmp 5]) rfl (.cellN F.agg35 rfl jM rfl (.tmp rfl .nil)) (fun w hS => ?_)
        refine (OneP.of z _ (jK hS)).weak fun cf => ?_
        simp only [opD, hd, hea, heb]
        simp
       ·have hn7 : ¬ x.doo = 7 := by (simp at h69; omega)
        refine jN 8 ?_
        refine WC.cond rfl (fun h74 => ?_) (fun h74 => ?_)
        ·have hd : x.doo = 8 := by (simp at h74; omega)
         refine jN 9 ?_
         refine jC (β := DRes (fun cf => bif xa.1.ev cf then xb.1.ev cf else xc.1.ev cf)) (res := fun z => z.v) (cs := fun z => [z.ch]) F.fun106 rfl (fun w hS _ => Ite_c xa.1 xb.1 xc.1 xa.2.1 xb.2.1 xc.2.1 xa.2.2 xb.2.2 xc.2.2 w ((hr.rd _ (List.mem_of_getElem? hxa)).next0 hS) ((hr.rd _ (List.mem_of_getElem? hxb)).next0 hS) ((hr.rd _ (List.mem_of_getElem? hxc)).next0 hS)) (fun z => ?_)
         refine jN 9 ?_
         refine WQ.ret (rs := [.cell 4 35, .tmp 5]) rfl (.cellN F.agg35 rfl jM rfl (.tmp rfl .nil)) (fun w hS => ?_)
         refine (OneP.of z _ (jK hS)).weak fun cf => ?_
         simp only [opD, hd, hea, heb, hec]
         cases xa.1.ev cf <;> simp
        ·have hn8 : ¬ x.doo = 8 := by (simp at h74; omega)
         refine jN 8 ?_
         refine WC.cond rfl (fun h80 => ?_) (fun h80 => ?_)
         ·have hd : x.doo = 9 := by (simp at h80; omega)
          refine jN 13 ?_
          refine jC (β := DRes (fun c => xa.1.ev (updI c x.i x.on))) (res := fun z => z.v) (cs := fun z => [z.ch]) F.fun108 rfl (fun w hS _ => With_c xa.1 xa.2.1 xa.2.2 x.i x.on w ((hr.rd _ (List.mem_of_getElem? hxa)).next0 hS)) (fun z => ?_)
          refine jN 9 ?_
          refine WQ.ret (rs := [.cell 4 35, .tmp 5]) rfl (.cellN F.agg35 rfl jM rfl (.tmp rfl .nil)) (fun w hS => ?_)
          exact (OneP.of z _ (jK hS)).weak fun cf => by simp [opD, hd, hea]
         ·have hn9 : ¬ x.doo = 9 := by (simp at h80; omega)
          refine jN 8 ?_
          refine WC.cond rfl (fun h88 => ?_) (fun h88 => ?_)
          ·have hd : x.doo = 10 := by (simp at h88; omega)
           refine jN 9 ?_
           refine jC (β := EachX xa (eachF (fun p q => p || q) (featL (x.f &&& supT (canon xa.1).1)) xa.1.ev)) (res := fun y => dval y.1.x.1 y.1.x.2.1 y.1.x.2.2) (cs := fun y => [dsC y.1.F y.1.Bs]) F.fun109 rfl (fun w hS _ => (Exists_c xa.1 xa.2.1 xa.2.2 x.f hw.f w ((hr.rd _ (List.mem_of_getElem? hxa)).next0 hS)).mono (fun e w2 ⟨y, h1, h2, h3, h4, h5⟩ => ⟨⟨y, h1, h2, h3⟩, h4, h5⟩)) (fun ⟨y, hy1, hy2, hy3⟩ => ?_)
           refine jN 9 ?_
           refine WQ.ret (rs := [.cell 4 35, .tmp 5]) rfl (.cellN F.agg35 rfl jM rfl (.tmp rfl .nil)) (fun w hS => ?_)
           refine ⟨y, 0, hy1.imp_left (fun e => by rw [e]; exact List.mem_of_getElem? hxa), hy2, fun cf => ?_, rfl, (jK hS)⟩
           rw [hy3, each_sup (by simp) (hr.rd _ (List.mem_of_getElem? hxa)).1]
           simp only [opD, hd, hea]
           rfl
          ·have hn10 : ¬ x.doo = 10 := by (simp at h88; omega)
           refine jN 8 ?_
           refine WC.cond rfl (fun h94 => ?_) (fun h94 => ?_)
           ·have hd : x.doo = 11 := by (simp at h94; omega)
            refine jN 9 ?_
            refine jC (β := EachX xa (eachF (fun p q => p && q) (featL (x.f &&& supT (canon xa.1).1)) xa.1.ev)) (res := fun y => dval y.1.x.1 y.1.x.2.1 y.1.x.2.2) (cs := fun y => [dsC y.1.F y.1.Bs]) F.fun110 rfl (fun w hS _ => (Forall_c xa.1 xa.2.1 xa.2.2 x.f hw.f w ((hr.rd _ (List.mem_of_getElem? hxa)).next0 hS)).mono (fun e w2 ⟨y, h1, h2, h3, h4, h5⟩ => ⟨⟨y, h1, h2, h3⟩, h4, h5⟩)) (fun ⟨y, hy1, hy2, hy3⟩ => ?_)
            refine jN 9 ?_
            refine WQ.ret (rs := [.cell 4 35, .tmp 5]) rfl (.cellN F.agg35 rfl jM rfl (.tmp rfl .nil)) (fun w hS => ?_)
            refine ⟨y, 0, hy1.imp_left (fun e => by rw [e]; exact List.mem_of_getElem? hxa), hy2, fun cf => ?_, rfl, (jK hS)⟩
            rw [hy3, each_sup (by simp) (hr.rd _ (List.mem_of_getElem? hxa)).1]
            simp only [opD, hd, hea]
            rfl
           ·have hn11 : ¬ x.doo = 11 := by (simp at h94; omega)
            refine jN 8 ?_
            refine WC.cond rfl (fun h100 => ?_) (fun h100 => ?_)
            ·have hd : x.doo = 12 := by (simp at h100; omega)
             refine jN 15 ?_
             refine jC (β := DRes (fun cf => inB x.i x.j (selN x.f cf 24))) (res := fun z => z.v) (cs := fun z => [z.ch]) F.fun111 rfl (fun w hS _ => Between_c x.f x.i x.j hw.f w) (fun z => ?_)
             refine jN 9 ?_
             refine WQ.ret (rs := [.cell 4 35, .tmp 5]) rfl (.cellN F.agg35 rfl jM rfl (.tmp rfl .nil)) (fun w hS => ?_)
             exact (OneP.of z _ (jK hS)).weak fun cf => by simp [opD, hd]
            ·have hn12 : ¬ x.doo = 12 := by (simp at h100; omega)
             refine jN 8 ?_
             refine WC.cond rfl (fun h109 => ?_) (fun h109 => ?_)
             ·have hd : x.doo = 13 := by (simp at h109; omega)
              refine jN 1 ?_
              refine WC.chunks (fun w hS => hS.rowNil 2 1) ?_
              refine WC.drawsL (by kernel_rfl) (FactsOk.cons (ds := [2, 7, 10]) (LoadOk.one (t := 2) (off := 10) rfl jM rfl) (FactsOk.cons (ds := [7, 10]) (LoadOk.one (t := 2) (off := 1) rfl jM rfl) (FactsOk.cons (ds := [7, 10]) (LoadOk.one (t := 2) (off := 11) rfl jM rfl) (FactsOk.nil)))) ?_
              refine jT 0 rfl (Yl.fieldAddr0 F.fld92_10 rfl) ?_
              refine jF 1 0 rfl rfl (Yl.load1 F.one90 rfl) ?_
              refine jT 3 rfl (Yl.fieldAddr0 F.fld92_1 rfl) ?_
              refine jF 4 1 rfl rfl (Yl.load1 F.one5 rfl) ?_
              refine jT 5 rfl (Yl.fieldAddr0 F.fld92_11 rfl) ?_
              refine jF 6 2 rfl rfl (Yl.load1 F.one2 rfl) ?_
              refine jA 2 rfl ?_
              refine WL.appendC (n := 0) (v := .slice none 0 0) (xs := []) (news := x.l.map (Value.int .i64)) F.el90 rfl rfl rfl jR (fun w hS hm => (RdC.nextO hrl hS).news hm) (by simp) (ints_one _) (Nat.le_trans (m := 1099511627776) (by omega) (by decide)) (by omega) (fun ad ac => ?_)
              rw [Nat.zero_add, List.nil_append]
              refine WD.on (closed_of (by decide +kernel)) (fun w hS => Sx.gone rfl (Sx.keep (hS.cell jM rfl) (Sx.keep (hS.cell jM rfl) (Sx.none)))) ?_
              refine jA 7 rfl ?_
              refine jC (β := DRes (fun cf => costsB x.l && (decide (1 ≤ x.rel ∧ x.rel ≤ 3) && relB x.rel (tailN x.l cf 24) x.bound))) (res := fun z => .tuple #[z.v, .int .i64 (if linB x.l x.rel then 0 else 2)]) (cs := fun z => [z.ch]) F.fun112 rfl (fun w hS _ => Linear_c x.l x.rel x.bound (by omega) hw.bound ad ac w (RdC.of_row rfl (hS.ok (rowc (.slice ad x.l.length ac) x.l.length 2 1 (x.l.map (Value.int .i64))) jM))) (fun z => ?_)
              refine jG ?_
              refine jT 8 rfl (Yl.extract rfl rfl) ?_
              refine jT 9 rfl (Yl.extract rfl rfl) ?_
              refine jA 10 rfl ?_
              refine WL.storeN F.agg35 rfl rfl rfl jO jU jS ?_
              refine jG ?_
              refine jT 11 rfl (Yl.assign rfl) ?_
              refine jD ?_
              refine jN 4 ?_
              refine WQ.ret (rs := [.cell 4 35, .tmp 5]) rfl (.cellN F.agg35 rfl jM rfl (.tmp rfl .nil)) (fun w hS => ?_)
              refine (OneP.of z _ (jK hS)).weak fun cf => ?_
              simp only [opD, hd, linD]
              rfl
             ·have hn13 : ¬ x.doo = 13 := by (simp at h109; omega)
              refine jN 8 ?_
              refine WC.cond rfl (fun h121 => ?_) (fun h121 => ?_)
              ·have hd : x.doo = 14 := by (simp at h121; omega)
               refine jN 5 ?_
               refine jC (β := DRes (fun cf => s.all (fun x => x.1.ev cf))) (res := fun z => z.v) (cs := fun z => [z.ch]) F.fun101 rfl (fun w hS _ => AndAll_c s (some ⟨bs, os, none⟩) c (by omega) w (hr.next hS)) (fun z => ?_)
               refine jN 9 ?_
               refine WQ.ret (rs := [.cell 4 35, .tmp 5]) rfl (.cellN F.agg35 rfl jM rfl (.tmp rfl .nil)) (fun w hS => ?_)
               refine (OneP.of z _ (jK hS)).weak fun cf => ?_
               simp only [opD, hd]
               simp [Function.comp_def]
              ·have hn14 : ¬ x.doo = 14 := by (simp at h121; omega)
               refine jN 8 ?_
               refine WC.cond rfl (fun h125 => ?_) (fun h125 => ?_)
               ·have hd : x.doo = 15 := by (simp at h125; omega)
                refine jN 5 ?_
                refine jC (β := DRes (fun cf => s.any (fun x => x.1.ev cf))) (res := fun z => z.v) (cs := fun z => [z.ch]) F.fun102 rfl (fun w hS _ => OrAll_c s (some ⟨bs, os, none⟩) c (by omega) w (hr.next hS)) (fun z => ?_)
                refine jN 9 ?_
                refine WQ.ret (rs := [.cell 4 35, .tmp 5]) rfl (.cellN F.agg35 rfl jM rfl (.tmp rfl .nil)) (fun w hS => ?_)
                refine (OneP.of z _ (jK hS)).weak fun cf => ?_
                simp only [opD, hd]
                simp [Function.comp_def]
               ·have hn15 : ¬ x.doo = 15 := by (simp at h125; omega)
                refine jN 6 ?_
                refine jC (β := DRes (fun _ => false)) (res := fun z => z.v) (cs := fun z => [z.ch]) F.fun103 rfl (fun w hS _ => False_c w) (fun z => ?_)
                refine jN 7 ?_
                refine WQ.ret (rs := [.cell 4 35, .tmp 5]) rfl (.cellN F.agg35 rfl jM rfl (.tmp rfl .nil)) (fun w hS => ?_)
                exact (OneP.of z 0 (jK hS)).weak fun cf => by simp only [opD, hn1, hn2, hn3, hn4, hn5, hn6, hn7, hn8, hn9, hn10, hn11, hn12, hn13, hn14, hn15]; simp

end Go.Proofs.YtkgllhkhdjodeaaGreat

namespace Go.Proofs.YtkgllhkhdjodeaaGreat
open Go Go.Eng Go.Proofs Dg
theorem St.dsZero {w0 w : World} {O : List Nat} {C : List Chunk} (h : St w0 O C w) : St w0 O (dsC [] [(.lf false, none, 0)] :: C) w :=
 (St.dsNil h).swap (fun _ x hx => by
  rw [List.mem_singleton.1 hx]
  exact ⟨trivial, fun j u hu => by cases hu⟩) (fun k hk => hk)
structure MkG where
 i : Nat
 ds : List DV
 sa : Option Addr
 sc : Nat
 F : List Nat
abbrev evs' (ds : List DV) : List (Cf → Bool) := ds.map (fun y => y.1.ev)
theorem mk_step {l : List OpV} {i : Nat} {x : OpV} (hx : l[i]? = some x) {ds : List DV} (h : evs' ds = mkD (l.take i)) {y : DV} (hy : ∀ cf, y.1.ev cf = opD x (evs' ds) cf) : evs' (ds ++ [y]) = mkD (l.take (i + 1)) := by
 rw [mkD_take hx, ← h]
 unfold evs'
 rw [List.map_append]
 congr 1
 show [y.1.ev] = _
 congr 1
 funext cf
 exact hy cf
theorem snoc_len {α : Type} (l : List α) (x : α) : (l ++ [x]).length = l.length + 1 := by simp
/-- The sets that a script makes. -/
abbrev MkZ (l : List OpV) : Type := { z : List DV × List Nat × Option Addr × Nat // evs' z.1 = mkD l ∧ z.1.length = l.length + 1 }

end Go.Proofs.YtkgllhkhdjodeaaGreat

/-! Clauses as sets. -/
namespace Dg
def litC (cf : Cf) (x : Int) : Bool := if 0 < x then cf (x - 1).toNat else !cf (-x - 1).toNat
def clauseB (c : List Int) (cf : Cf) : Bool := c.any (litC cf)
def onStep (p : Nat × Nat) (x : Int) : Nat × Nat := if 0 < x then (p.1, p.2 ||| 2 ^ (x - 1).toNat) else (p.1 ||| 2 ^ (-x - 1).toNat, p.2)
def onOff (c : List Int) : Nat × Nat := c.foldl onStep (0, 0)
theorem or_pow_testBit (a k j : Nat) : (a ||| 2 ^ k).testBit j = (a.testBit j || decide (j = k)) := by
 rw [Nat.testBit_or, Nat.testBit_two_pow]
 congr 1
 rw [Bool.eq_iff_iff]; simp; omega
end Dg

/-! Sets of clauses and what the search says of them. -/
namespace Go.Proofs.YtkgllhkhdjodeaaGreat
open Go Go.Eng Go.Proofs Dg
theorem num_of (cf : Cf) : ∀ n : Nat, ∃ M, M < 2 ^ n ∧ ∀ i, i < n → M.testBit i = cf i
 | 0 => ⟨0, by simp, fun i hi => by omega⟩
 | n + 1 => by
  obtain ⟨M, hM, hb⟩ := num_of cf n
  have hp : 2 ^ n < 2 ^ (n + 1) := Nat.pow_lt_pow_right (by decide) (Nat.lt_succ_self _)
  by_cases hc : cf n = true
  ·refine ⟨M ||| 2 ^ n, Nat.or_lt_two_pow (by omega) hp, fun i hi => ?_⟩
   rw [or_pow_testBit]
   by_cases he : i = n
   ·subst he; simp [hc]
   ·simp [he, hb i (by omega)]
  ·refine ⟨M, by omega, fun i hi => ?_⟩
   by_cases he : i = n
   ·subst he
    rw [Nat.testBit_lt_two_pow hM]; simpa using hc
   ·exact hb i (by omega)
end Go.Proofs.YtkgllhkhdjodeaaGreat

/-! The table of a formula, and its set. -/
namespace Go.Proofs.YtkgllhkhdjodeaaGreat
open Go Go.Eng Go.Proofs Dg
abbrev placeV (t : Tree) (names : List (List UInt8)) : List Nat := featL (placeN names (usedF (Fm.rowT t)))
abbrev placeT (t : Tree) (names : List (List UInt8)) : List Bool := tabN (2 ^ (placeV t names).length) (2 ^ (placeV t names).length) (fun k => evT names t (cfg (confN (placeV t names) k)))
theorem sub_bit {M x : Nat} (h : M.testBit x = true) (j : Nat) : (M - 2 ^ x).testBit j = if j = x then false else M.testBit j := by
 have hr : M % 2 ^ x < 2 ^ x := Nat.mod_lt _ (Nat.two_pow_pos x)
 have ha : M / 2 ^ x % 2 = 1 := by
  rw [Nat.testBit_eq_decide_div_mod_eq] at h
  exact of_decide_eq_true h
 obtain ⟨q, hq⟩ : ∃ q, M / 2 ^ x = 2 * q + 1 := ⟨M / 2 ^ x / 2, by omega⟩
 have hM : M = 2 ^ x * (2 * q + 1) + M % 2 ^ x := by rw [← hq]; exact (Nat.div_add_mod M (2 ^ x)).symm
 have hs : M - 2 ^ x = 2 ^ x * (2 * q) + M % 2 ^ x := by
  have e : 2 ^ x * (2 * q + 1) = 2 ^ x * (2 * q) + 2 ^ x := Nat.mul_succ _ _
  omega
 rw [hs, Nat.testBit_two_pow_mul_add _ hr]
 have h2 : M.testBit j = if j < x then (M % 2 ^ x).testBit j else (2 * q + 1).testBit (j - x) := by
  conv => lhs; rw [hM]
  exact Nat.testBit_two_pow_mul_add _ hr j
 by_cases hj : j = x
 ·subst hj
  rw [if_neg (Nat.lt_irrefl _), if_pos rfl, Nat.sub_self]; simp
 ·rw [if_neg hj, h2]
  by_cases hl : j < x
  ·rw [if_pos hl, if_pos hl]
  ·rw [if_neg hl, if_neg hl]
   obtain ⟨n, hn⟩ : ∃ n, j - x = n + 1 := ⟨j - x - 1, by omega⟩
   rw [hn, Nat.testBit_succ, Nat.testBit_succ]
   congr 1
   omega
theorem upd_bit {M x : Nat} (on : Bool) (j : Nat) : (updN M x on).testBit j = if j = x then on else M.testBit j := by
 unfold updN
 cases on with
 | true =>
  rw [if_pos rfl, Nat.testBit_or, Nat.testBit_two_pow]
  by_cases h : j = x
  ·subst h; simp
  ·rw [if_neg h]; simp [Ne.symm h]
 | false =>
  rw [if_neg (by simp)]
  by_cases hb : M.testBit x = true
  ·rw [if_pos hb, sub_bit hb]
  ·rw [if_neg hb]
   by_cases h : j = x
   ·subst h; rw [if_pos rfl]; simpa using hb
   ·rw [if_neg h]
end Go.Proofs.YtkgllhkhdjodeaaGreat

/-! The sets of the document and functions of configurations. -/
namespace Go.Proofs.YtkgllhkhdjodeaaGreat
open Go Go.Eng Go.Proofs Dg
/-- A configuration and a number say the same of the features. -/
def Ag (cf : Cf) (M : Nat) : Prop := ∀ k, k < 24 → cf k = M.testBit k
def RelS (s : SV) (e : Cf → Bool) : Prop := ∀ cf M, Ag cf M → s.has M = e cf
theorem ag_num (cf : Cf) : ∃ M, Ag cf M := by
 obtain ⟨M, _, h⟩ := num_of cf 24
 exact ⟨M, fun k hk => (h k hk).symm⟩
theorem conf_bit {s : SV} (hg : s.good) (M j : Nat) : (confN s.v (hasN s.v M)).testBit j = (decide (j ∈ s.v) && M.testBit j) := conf_has s.v M hg.so j
theorem rel_with {s z : SV} {e : Cf → Bool} {x : Nat} {on : Bool} (hg : s.good) (hx : x < 24) (h : RelS s e) (hz : ∀ M, z.has M = s.has (updN (confN s.v (hasN s.v M)) x on)) : RelS z (fun cf => e (updI cf (x : Int) on)) := by
 intro cf M hM
 rw [hz]
 have e1 : s.has (updN (confN s.v (hasN s.v M)) x on) = s.has (updN M x on) := by
  unfold SV.has
  rw [hasN_eq s.v _ (updN M x on) fun y hy => ?_]
  rw [upd_bit, upd_bit]
  split
  ·rfl
  ·rw [conf_bit hg, decide_eq_true hy, Bool.true_and]
 rw [e1]
 refine h _ _ fun k hk => ?_
 rw [upd_bit]
 unfold updI
 by_cases hkx : k = x
 ·rw [if_pos (by omega), if_pos hkx]
 ·rw [if_neg (by omega), if_neg hkx]; exact hM k hk
theorem rel_with_out {s : SV} {e : Cf → Bool} {i : Int} {on : Bool} (hi : i < 0 ∨ 24 ≤ i) (h : RelS s e) : RelS s (fun cf => e (updI cf i on)) := by
 intro cf M hM
 refine h _ _ fun k hk => ?_
 unfold updI
 rw [if_neg (by omega)]
 exact hM k hk
theorem rel_cube {z : SV} {on off : Nat} (hg : z.good) (hv : z.v = featL (on ||| off)) (hz : ∀ M, z.has M = (decide (confN z.v (hasN z.v M) &&& on = on % 16777216) && decide (confN z.v (hasN z.v M) &&& off = 0))) : RelS z (cubeB on off 0) := by
 intro cf M hM
 rw [hz]
 have hb : ∀ j, (confN z.v (hasN z.v M)).testBit j = (decide (j < 24 ∧ (on.testBit j = true ∨ off.testBit j = true)) && M.testBit j) := fun j => by
  rw [conf_bit hg]
  congr 1
  rw [decide_eq_decide, hv, feat_mem, Nat.testBit_or, Bool.or_eq_true]
 have hm : ∀ j, (on % 16777216).testBit j = (decide (j < 24) && on.testBit j) := fun j => by
  rw [show (16777216 : Nat) = 2 ^ 24 from rfl, Nat.testBit_mod_two_pow]
 generalize hN : confN z.v (hasN z.v M) = N at hb
 rw [Bool.eq_iff_iff, Bool.and_eq_true, decide_eq_true_eq, decide_eq_true_eq]
 unfold cubeB
 rw [List.all_eq_true]
 constructor
 ·rintro ⟨h1, h2⟩ j hj
  have hj := List.mem_range.1 hj
  have e1 := congrArg (fun n => n.testBit j) h1
  have e2 := congrArg (fun n => n.testBit j) h2
  simp only [Nat.testBit_and, hm, hb, Nat.zero_testBit, decide_eq_true hj, Bool.true_and] at e1 e2
  rw [hM j hj]
  cases ho : on.testBit j <;> cases hf : off.testBit j <;> cases hMj : M.testBit j <;> simp_all
 ·intro h
  have hj : ∀ j, j < 24 → (on.testBit j = true → M.testBit j = true) ∧ (off.testBit j = true → M.testBit j = false) := fun j hj => by
   have := h j (List.mem_range.2 hj)
   rw [hM j hj] at this
   cases ho : on.testBit j <;> cases hf : off.testBit j <;> cases hMj : M.testBit j <;> simp_all
  constructor
  ·refine Nat.eq_of_testBit_eq fun j => ?_
   rw [Nat.testBit_and, hm, hb]
   by_cases hj24 : j < 24
   ·have := hj j hj24
    cases ho : on.testBit j <;> cases hf : off.testBit j <;> cases hMj : M.testBit j <;> simp_all
   ·simp [hj24]
  ·refine Nat.eq_of_testBit_eq fun j => ?_
   rw [Nat.testBit_and, hb, Nat.zero_testBit]
   by_cases hj24 : j < 24
   ·have := hj j hj24
    cases ho : on.testBit j <;> cases hf : off.testBit j <;> cases hMj : M.testBit j <;> simp_all
   ·simp [hj24]
theorem cube_one {k : Nat} (hk : k < 24) (cf : Cf) : cubeB (2 ^ k) 0 0 cf = cf k := by
 unfold cubeB
 rw [Bool.eq_iff_iff, List.all_eq_true]
 constructor
 ·intro h
  have := h k (List.mem_range.2 hk)
  simpa [Nat.testBit_two_pow_self] using this
 ·intro h j _
  by_cases hj : k = j
  ·subst hj; simp [h]
  ·simp [Nat.testBit_two_pow_of_ne hj]
/-! ### all changes of some features -/
theorem each_or : ∀ (fs : List Nat) (e : Cf → Bool) (cf : Cf), eachF (fun p q => p || q) fs e cf = true ↔ ∃ c', (∀ j, j ∉ fs → c' j = cf j) ∧ e c' = true
 | [], e, cf => ⟨fun h => ⟨cf, fun _ _ => rfl, h⟩, fun ⟨c', h1, h2⟩ => by
   have : c' = cf := funext fun j => h1 j (by simp)
   rw [this] at h2; exact h2⟩
 | i :: fs, e, cf => by
  have ih := each_or fs (fun c => e (updI c (i : Int) false) || e (updI c (i : Int) true)) cf
  show eachF (fun p q => p || q) fs (fun c => e (updI c (i : Int) false) || e (updI c (i : Int) true)) cf = true ↔ _
  rw [ih]
  constructor
  ·rintro ⟨c', h1, h2⟩
   rw [Bool.or_eq_true] at h2
   have key : ∀ b, e (updI c' (i : Int) b) = true → ∃ c', (∀ j, j ∉ i :: fs → c' j = cf j) ∧ e c' = true := fun b hb => ⟨_, fun j hj => by
    unfold updI
    rw [if_neg (by
     intro hji
     exact hj (by rw [show j = i by omega]; exact List.mem_cons_self ..))]
    exact h1 j fun h => hj (List.mem_cons_of_mem _ h), hb⟩
   exact h2.elim (key _) (key _)
  ·rintro ⟨c', h1, h2⟩
   refine ⟨fun j => if j ∈ fs then c' j else cf j, fun j hj => if_neg hj, ?_⟩
   have hc : ∀ b, b = c' i → updI (fun j => if j ∈ fs then c' j else cf j) (i : Int) b = c' := fun b hb => funext fun j => by
    unfold updI
    by_cases hji : j = i
    ·rw [if_pos (by omega), hb, hji]
    ·rw [if_neg (by omega)]
     show (if j ∈ fs then c' j else cf j) = c' j
     by_cases hjf : j ∈ fs
     ·rw [if_pos hjf]
     ·rw [if_neg hjf, h1 j (by simp [hji, hjf])]
   rw [Bool.or_eq_true]
   cases hb : c' i with
   | false => left; rw [hc false hb.symm]; exact h2
   | true => right; rw [hc true hb.symm]; exact h2
theorem each_dual : ∀ (fs : List Nat) (e : Cf → Bool) (cf : Cf), eachF (fun p q => p && q) fs e cf = !eachF (fun p q => p || q) fs (fun c => !e c) cf
 | [], e, cf => by show e cf = !(!e cf); rw [Bool.not_not]
 | i :: fs, e, cf => by
  show eachF (fun p q => p && q) fs (fun c => e (updI c (i : Int) false) && e (updI c (i : Int) true)) cf = !eachF (fun p q => p || q) fs (fun c => !e (updI c (i : Int) false) || !e (updI c (i : Int) true)) cf
  rw [each_dual fs]
  congr 2
  funext c
  rw [Bool.not_and]
theorem chg_or {F : Nat} {v : List Nat} {bs : List Bool} {k : Nat} : ∀ m, chgF false F v bs k m = true ↔ ∃ j, j < m ∧ andN (confN v k) F = andN (confN v j) F ∧ bs.getD j false = true
 | 0 => ⟨fun h => by simp [chgF] at h, fun ⟨j, hj, _⟩ => by omega⟩
 | m + 1 => by
  have ih := chg_or (F := F) (v := v) (bs := bs) (k := k) m
  rw [chgF]
  by_cases he : andN (confN v k) F = andN (confN v m) F
  ·rw [if_pos he, if_neg (by decide), Bool.or_eq_true, ih]
   constructor
   ·rintro (⟨j, h1, h2⟩ | h)
    ·exact ⟨j, by omega, h2⟩
    ·exact ⟨m, by omega, he, h⟩
   ·rintro ⟨j, h1, h2, h3⟩
    by_cases hj : j = m
    ·subst hj; exact .inr h3
    ·exact .inl ⟨j, by omega, h2, h3⟩
  ·rw [if_neg he, ih]
   constructor
   ·rintro ⟨j, h1, h2⟩
    exact ⟨j, by omega, h2⟩
   ·rintro ⟨j, h1, h2, h3⟩
    by_cases hj : j = m
    ·subst hj; exact absurd h2 he
    ·exact ⟨j, by omega, h2, h3⟩
theorem chg_dual {F : Nat} {v : List Nat} {bs : List Bool} {k : Nat} : ∀ m, m ≤ bs.length → chgF true F v bs k m = !chgF false F v (bs.map (fun b => !b)) k m
 | 0, _ => rfl
 | m + 1, hm => by
  have hg : (bs.map (fun b => !b)).getD m false = !bs.getD m false := by
   rw [List.getD_eq_getElem?_getD, List.getD_eq_getElem?_getD, List.getElem?_map, List.getElem?_eq_getElem (by omega)]
   rfl
  rw [chgF, chgF, chg_dual m (by omega), hg]
  by_cases he : andN (confN v k) F = andN (confN v m) F
  ·rw [if_pos he, if_pos he, if_pos rfl, if_neg (by decide), Bool.not_or, Bool.not_not]
  ·rw [if_neg he, if_neg he]
theorem rel_or {s z : SV} {e : Cf → Bool} {F : Nat} (hg : s.good) (hF : F < 4294967296) (h : RelS s e) (hz : ∀ M, z.has M = chgF false F s.v s.bs (hasN s.v M) s.bs.length) : RelS z (eachF (fun p q => p || q) (featL F) e) := by
 intro cf M hM
 rw [hz, Bool.eq_iff_iff, chg_or, each_or]
 have h32 : ∀ k, confN s.v k < 4294967296 := fun k => Nat.lt_of_lt_of_le (confN_lt s.v k 24 hg.so hg.lt) (by decide)
 constructor
 ·rintro ⟨j, hj, h1, h2⟩
  refine ⟨fun i => if i ∈ featL F then (confN s.v j).testBit i else cf i, fun i hi => if_neg hi, ?_⟩
  obtain ⟨M', hM'⟩ := ag_num (fun i => if i ∈ featL F then (confN s.v j).testBit i else cf i)
  rw [← h _ _ hM', ← h2]
  have hj2 : j < 2 ^ s.v.length := by rw [← hg.bl]; exact hj
  show s.bs.getD (hasN s.v M') false = _
  congr 1
  rw [hasN_eq s.v M' (confN s.v j) fun y hy => ?_, has_conf s.v j hg.so hj2]
  have hy24 := hg.lt y hy
  rw [← hM' y hy24]
  dsimp only
  by_cases hyF : y ∈ featL F
  ·rw [if_pos hyF]
  ·rw [if_neg hyF, hM y hy24]
   have e1 := congrArg (fun n => n.testBit y) h1
   have hFy : F.testBit y = false := by
    cases hq : F.testBit y with
    | false => rfl
    | true => exact absurd (feat_mem.2 ⟨hy24, hq⟩) hyF
   simp only [andN_bit (h32 _), hFy, Bool.not_false, Bool.and_true] at e1
   rw [← e1, conf_bit hg, decide_eq_true hy, Bool.true_and]
 ·rintro ⟨c', h1, h2⟩
  obtain ⟨M', hM'⟩ := ag_num c'
  refine ⟨hasN s.v M', by rw [hg.bl]; exact hasN_lt _ _, ?_, ?_⟩
  ·refine Nat.eq_of_testBit_eq fun y => ?_
   rw [andN_bit (h32 _), andN_bit (h32 _), conf_bit hg, conf_bit hg]
   by_cases hy : y ∈ s.v
   ·have hy24 := hg.lt y hy
    cases hFy : F.testBit y with
    | true => simp
    | false =>
     have : c' y = cf y := h1 y fun hq => by rw [(feat_mem.1 hq).2] at hFy; cases hFy
     rw [← hM y hy24, ← hM' y hy24, this]
   ·simp [hy]
  ·rw [← h2, ← h _ _ hM']; rfl
theorem rel_and {s z : SV} {e : Cf → Bool} {F : Nat} (hg : s.good) (hF : F < 4294967296) (h : RelS s e) (hz : ∀ M, z.has M = chgF true F s.v s.bs (hasN s.v M) s.bs.length) : RelS z (eachF (fun p q => p && q) (featL F) e) := by
 have hn : RelS ⟨s.v, s.a, s.c, s.bs.map (fun b => !b), s.ta, s.tc⟩ (fun c => !e c) := fun cf M hM => by
  have h9 := h cf M hM
  show (s.bs.map (fun b => !b)).getD (hasN s.v M) false = !e cf
  rw [List.getD_eq_getElem?_getD, List.getElem?_map, List.getElem?_eq_getElem (by rw [hg.bl]; exact hasN_lt _ _)]
  unfold SV.has at h9
  rw [List.getD_eq_getElem?_getD, List.getElem?_eq_getElem (by rw [hg.bl]; exact hasN_lt _ _)] at h9
  show (!_) = !_
  rw [← h9]
  rfl
 have hg' : SV.good ⟨s.v, s.a, s.c, s.bs.map (fun b => !b), s.ta, s.tc⟩ := ⟨hg.so, hg.lt, hg.vl, by simpa using hg.bl⟩
 have hr := rel_or (z := ⟨s.v, s.a, s.c, tabN (2 ^ s.v.length) (2 ^ s.v.length) (fun k => chgF false F s.v (s.bs.map (fun b => !b)) k (s.bs.map (fun b => !b)).length), s.ta, s.tc⟩) hg' hF hn (fun M => SV.has_tab _ M)
 intro cf M hM
 rw [hz, each_dual, ← hr cf M hM, SV.has_tab, chg_dual _ (Nat.le_refl _), List.length_map]
/-! ### so many of some features -/
theorem sel_pop {F X : Nat} {cf : Cf} (hX : ∀ k, k < 24 → X.testBit k = (F.testBit k && cf k)) : ∀ d : Nat, d ≤ 24 → selN F cf d + popN (24 - d) X = popN 24 X
 | 0, _ => by simp [selN]
 | d + 1, h => by
  have ih := sel_pop hX d (by omega)
  rw [show 24 - d = 23 - d + 1 by omega, popN_succ, hX (23 - d) (by omega)] at ih
  rw [selN, show 24 - (d + 1) = 23 - d by omega]
  omega
theorem rel_between {z : SV} {F : Nat} {low high : Int} (hg : z.good) (hv : z.v = featL F) (hz : ∀ N, z.has N = (decide (low ≤ ((featL (confN z.v (hasN z.v N))).length : Int)) && decide (((featL (confN z.v (hasN z.v N))).length : Int) ≤ high))) : RelS z (fun cf => inB low high (selN F cf 24)) := by
 intro cf M hM
 rw [hz]
 have e : selN F cf 24 = (featL (confN z.v (hasN z.v M))).length := by
  rw [feat_pop]
  have := sel_pop (F := F) (X := confN z.v (hasN z.v M)) (cf := cf) (fun k hk => by
   rw [conf_bit hg, hM k hk, hv]
   congr 1
   rw [Bool.eq_iff_iff, decide_eq_true_eq, feat_mem]
   exact ⟨fun h => h.2, fun h => ⟨hk, h⟩⟩) 24 (Nat.le_refl _)
  simpa [popN] using this
 show _ = inB low high (selN F cf 24)
 rw [e]
 rfl
/-! ### linear relations -/
theorem tailN_ag {C : List Int} {cf : Cf} {M : Nat} (h : Ag cf M) : ∀ d : Nat, d ≤ 24 → tailN C cf d = tailN C (cfg M) d
 | 0, _ => rfl
 | d + 1, hd => by
  rw [tailN, tailN, tailN_ag h d (by omega), h (23 - d) (by omega)]
  rfl
theorem costN_conf {l : List Int} {M : Nat} : ∀ i : Nat, i ≤ l.length → costN l (confN (nzL l l.length) (hasN (nzL l l.length) M)) i = costN l M i
 | 0, _ => rfl
 | i + 1, hi => by
  rw [costN, costN, costN_conf i (by omega)]
  congr 1
  rw [conf_has (nzL l l.length) M (nzL_sorted l _) i]
  by_cases h0 : l.getD i 0 = 0
  ·simp only [h0]; split <;> split <;> rfl
  ·have hm : i ∈ nzL l l.length := List.mem_filter.2 ⟨List.mem_range.2 (by omega), decide_eq_true h0⟩
   rw [decide_eq_true hm, Bool.true_and]
theorem rel_linear {z : SV} {l : List Int} {rel : Nat} {bound : Int} (hok : costsB l = true) (hrel : 1 ≤ rel ∧ rel ≤ 3) (hv : z.v = nzL l l.length) (hz : ∀ M, z.has M = relB rel (costN l (confN z.v (hasN z.v M)) l.length) bound) : RelS z (fun cf => costsB l && (decide (1 ≤ rel ∧ rel ≤ 3) && relB rel (tailN l cf 24) bound)) := by
 have h24 : l.length ≤ 24 := by
  unfold costsB at hok
  rw [Bool.and_eq_true, decide_eq_true_eq] at hok
  exact hok.2
 intro cf M hM
 rw [hz, hv, costN_conf _ (Nat.le_refl _)]
 dsimp only
 rw [hok, decide_eq_true hrel, Bool.true_and, Bool.true_and, tailN_ag hM 24 (Nat.le_refl _), tailN_all (fun _ => rfl) h24 M]
/-! ### the sets of a script -/
structure RelL (ss : List SV) (eD : List (Cf → Bool)) : Prop where
 len : ss.length = eD.length
 at' : ∀ (i : Nat) (s : SV) (e : Cf → Bool), ss[i]? = some s → eD[i]? = some e → RelS s e
theorem RelL.pick {ss : List SV} {eD : List (Cf → Bool)} (h : RelL ss eD) {k : Nat} {s : SV} (hs : ss[k % ss.length]? = some s) : RelS s (evAt eD k) := by
 have hl := (List.getElem?_eq_some_iff.1 hs).1
 unfold evAt
 rw [List.getD_eq_getElem?_getD, ← h.len, List.getElem?_eq_getElem (by rw [← h.len]; exact hl)]
 exact h.at' _ _ _ hs (List.getElem?_eq_getElem _)
theorem RelL.snoc {ss : List SV} {eD : List (Cf → Bool)} (h : RelL ss eD) {s : SV} {e : Cf → Bool} (hs : RelS s e) : RelL (ss ++ [s]) (eD ++ [e]) := by
 refine ⟨by simp [h.len], fun i t g h1 h2 => ?_⟩
 by_cases hi : i < ss.length
 ·rw [List.getElem?_append_left hi] at h1
  rw [List.getElem?_append_left (by rw [← h.len]; exact hi)] at h2
  exact h.at' _ _ _ h1 h2
 ·rw [List.getElem?_append_right (by omega)] at h1
  rw [List.getElem?_append_right (by rw [← h.len]; omega), ← h.len] at h2
  have hl := (List.getElem?_eq_some_iff.1 h1).1
  simp at hl
  rw [show i - ss.length = 0 by omega] at h1 h2
  cases h1; cases h2
  exact hs
end Go.Proofs.YtkgllhkhdjodeaaGreat

/-
 Rows of sets of the document in memory. By an AI agent.
-/
namespace Go.Proofs.YtkgllhkhdjodeaaGreat
open Go Go.Eng Go.Proofs Dg
abbrev scl (s : SV) : List Value := scells s.v s.a s.c s.bs s.ta s.tc
def svs (l : List SV) : List Value := l.flatMap scl
theorem svs_append (l m : List SV) : svs (l ++ m) = svs l ++ svs m := by simp [svs]
theorem svs_one (s : SV) : svs [s] = scl s := by simp [svs]
theorem svs_at : ∀ {l : List SV} {k : Nat} {x : SV}, l[k]? = some x → ∀ j u, (scl x)[j]? = some u → (svs l)[k * 2 + j]? = some u
 | [], k, x, h, _, _, _ => by simp at h
 | y :: l, 0, x, h, j, u, hj => by
  simp only [List.getElem?_cons_zero, Option.some.injEq] at h
  subst h
  have hjl := (List.getElem?_eq_some_iff.1 hj).1
  show (scl y ++ svs l)[0 * 2 + j]? = _
  rw [Nat.zero_mul, Nat.zero_add, List.getElem?_append_left hjl]
  exact hj
 | y :: l, k + 1, x, h, j, u, hj => by
  simp only [List.getElem?_cons_succ] at h
  have ih := svs_at h j u hj
  show (scl y ++ svs l)[(k + 1) * 2 + j]? = _
  rw [List.getElem?_append_right (by simp; omega)]
  simp only [List.length_cons, List.length_nil]
  rw [show (k + 1) * 2 + j - (0 + 1 + 1) = k * 2 + j by omega]
  exact ih
def RdSL (w : World) (ss : List SV) (a : Option Addr) : Prop := ∀ (i : Nat) (s : SV), ss[i]? = some s → ∃ b off, a = some ⟨b, off, none⟩ ∧ ∀ j v, (scl s)[j]? = some v → w.cell? ⟨b, off + i * 2 + j, none⟩ = some v
theorem RdSL.next {w0 w : World} {C : List Chunk} {ss : List SV} {a : Option Addr} (h : RdSL w0 ss a) (hS : St w0 [] C w) : RdSL w ss a := fun i s hs => by
 obtain ⟨b, off, e1, e2⟩ := h i s hs
 exact ⟨b, off, e1, fun j v hv => hS.oldc (e2 j v hv) (by simp)⟩
theorem RdSL.of_row {w : World} {ss : List SV} {a : Option Addr} {n cap : Nat} {e : TypeId} (hn : n = ss.length) (h : (rowc (.slice a n cap) n e 2 (svs ss)).ok w) : RdSL w ss a := fun i s hs => by
 have hlt := (List.getElem?_eq_some_iff.1 hs).1
 obtain ⟨g, hg, _, _⟩ := rowc_addr h (by omega)
 subst hg
 exact ⟨g, 0, rfl, fun j v hv => by rw [Nat.zero_add]; exact rowc_cells h (svs_at hs j v hv)⟩
theorem RdSL.pos {w : World} {ss : List SV} {a : Option Addr} (h : RdSL w ss a) (hs : 0 < ss.length) : ∃ b off, a = some ⟨b, off, none⟩ ∧ ∀ (i : Nat) (x : SV), ss[i]? = some x → ∀ j v, (scl x)[j]? = some v → w.cell? ⟨b, off + i * 2 + j, none⟩ = some v := by
 obtain ⟨b, off, h1, _⟩ := h 0 _ (List.getElem?_eq_getElem hs)
 refine ⟨b, off, h1, fun i x hx j v hv => ?_⟩
 obtain ⟨b2, off2, h2, h3⟩ := h i x hx
 rw [h1] at h2
 simp only [Option.some.injEq, Addr.mk.injEq, and_true] at h2
 obtain ⟨rfl, rfl⟩ := h2
 exact h3 j v hv
/-- What a step hands back in the document: a set, of rows that were there and of new ones, and an error. -/
def SaidP (Lin : List RowV) (Q : SV → Prop) (w : World) (e : Ending) (w' : World) : Prop :=
 ∃ (z : SV) (F : List Nat) (L : List RowV) (k : Int), z.good ∧ Q z ∧ z.among (Lin ++ L) ∧ e = .returned (.tuple #[z.val, .int .i64 k]) ∧ St w [] [rwC F L] w'
abbrev SaidX (L : List RowV) (Q : SV → Prop) : Type := { y : SV × List Nat × List RowV × Int // y.1.good ∧ Q y.1 ∧ y.1.among (L ++ y.2.2.1) }
theorem SaidP.sx {L : List RowV} {Q : SV → Prop} {w w' : World} {e : Ending} (h : SaidP L Q w e w') : ∃ y : SaidX L Q, e = .returned (.tuple #[y.1.1.val, .int .i64 y.1.2.2.2]) ∧ St w [] [rwC y.1.2.1 y.1.2.2.1] w' := by
 obtain ⟨z, F, M, k, h1, h2, h3, h4, h5⟩ := h
 exact ⟨⟨(z, F, M, k), h1, h2, h3⟩, h4, h5⟩
theorem SaidP.of {L : List RowV} {Q R : SV → Prop} {w w' : World} (y : SX L Q) (k : Int) (hR : y.1.1.good → Q y.1.1 → R y.1.1) (hS : St w [] [rwC y.1.2.1 y.1.2.2] w') : SaidP L R w (.returned (.tuple #[y.1.1.val, .int .i64 k])) w' :=
 ⟨y.1.1, _, _, k, y.2.1, hR y.2.1 y.2.2.1, y.2.2.2, rfl, hS⟩
end Go.Proofs.YtkgllhkhdjodeaaGreat

namespace Go.Proofs.YtkgllhkhdjodeaaGreat
open Go Go.Eng Go.Proofs Dg
theorem rLinear_s (l : List Int) (rel : Nat) (bound : Int) (hll : l.length ≤ 1099511627776) (a : Option Addr) (c : Nat) (L : List RowV) (w : World) (hr : RdC w l a) :
  Calls Tryz.prog 121 [.slice a l.length c, .int .u8 (rel : Int), .int .i64 bound].toArray w (SaidP L (fun z => RelS z (fun cf => costsB l && (decide (1 ≤ rel ∧ rel ≤ 3) && relB rel (tailN l cf 24) bound))) w) := by
 by_cases h : costsB l = true ∧ 1 ≤ rel ∧ rel ≤ 3
 ·obtain ⟨h1, h2⟩ := h
  have h24 : l.length ≤ 24 := by
   have := h1
   unfold costsB at this
   rw [Bool.and_eq_true, decide_eq_true_eq] at this
   exact this.2
  refine (rLinear_ok l rel bound h1 h2 a c w hr).mono ?_
  rintro e w' ⟨y, rfl, hS⟩
  have hS2 : SPost L (fun z => z.v = nzL l l.length ∧ ∀ M, z.has M = relB rel (costN l (confN z.v (hasN z.v M)) l.length) bound) w (.returned (.agg [.slice y.va (nzL l l.length).length y.vc, .slice (some ⟨y.b, 0, none⟩) (2 ^ (nzL l l.length).length) (2 ^ (nzL l l.length).length)].toArray)) w' :=
   SPost.two (v := nzL l l.length) ⟨nzL_sorted _ _, fun x hx => Nat.lt_of_lt_of_le (nzL_lt hx) h24, Nat.le_trans (nzL_len _ _) h24, tabN_len _ _ _⟩ (tabN_len _ _ _) rfl ⟨rfl, fun M => SV.has_tab _ M⟩ hS
  obtain ⟨z, F, M, g1, ⟨g2, g3⟩, g4, g5, g6⟩ := hS2
  refine ⟨z, F, M, 0, g1, rel_linear h1 h2 g2 g3, g4, ?_, g6⟩
  injection g5 with g5
  rw [g5]
 ·have hbad : costsB l = false ∨ rel < 1 ∨ 3 < rel := by
   cases hq : costsB l with
   | false => exact .inl rfl
   | true =>
    rw [hq] at h
    simp at h
    omega
  have hf : (fun cf : Cf => costsB l && (decide (1 ≤ rel ∧ rel ≤ 3) && relB rel (tailN l cf 24) bound)) = fun _ => false := by
   funext cf
   rcases hbad with h1 | h1
   ·rw [h1]; rfl
   ·rw [decide_eq_false (by omega), Bool.false_and, Bool.and_false]
  rw [hf]
  refine (rLinear_bad l rel bound hbad hll a c w hr).mono ?_
  rintro e w' ⟨b, rfl, hS⟩
  have hS2 : St w [] [rowc (.slice none 0 0) 0 3 1 (nums []), rowc (.slice (some ⟨b, 0, none⟩) 1 1) 1 4 1 (bls [false])] w' := hS.rowNil _ _
  have hS3 : SPost L (fun z => ∀ M, z.has M = false) w (.returned (.agg [.slice none 0 0, .slice (some ⟨b, 0, none⟩) 1 1].toArray)) w' := SPost.two (v := []) ⟨.nil, by simp, by simp, rfl⟩ rfl rfl (fun M => rfl) hS2
  obtain ⟨z, F, M, g1, g2, g4, g5, g6⟩ := hS3
  refine ⟨z, F, M, 2, g1, fun cf M _ => g2 M, g4, ?_, g6⟩
  injection g5 with g5
  rw [g5]

theorem rWith_out (s : SV) (i : Int) (on : Bool) (hi : i < 0 ∨ 24 ≤ i) (w : World) : Pure Tryz.prog 61 [s.val, .int .i64 i, .bool on] w s.val := by
 refine enter Tryz.func61 rfl Tryz.ntmps61 rfl (St.init _) ?_
 refine jN 3 ?_
 refine WL.boxN rfl rfl (fun b3 => ?_)
 refine jN 1 ?_
 refine WL.alloc F.zero44 rfl (fun b6 => ?_)
 refine jN 11 ?_
 refine WA.splitB (i := 12) rfl (fun g12 => ?_) (fun g12 => ?_)
 ·refine jN 19 ?_
  exact WQ.ret (rs := [.cell 6 44]) rfl (.cellN F.agg44 rfl jM rfl .nil) (fun w hS => ⟨rfl, hS.sublist (List.nil_sublist _)⟩)
 ·refine jN 10 ?_
  refine WC.cond rfl (fun h15 => ?_) (fun h15 => ?_)
  ·refine jN 10 ?_
   exact WQ.ret (rs := [.cell 6 44]) rfl (.cellN F.agg44 rfl jM rfl .nil) (fun w hS => ⟨rfl, hS.sublist (List.nil_sublist _)⟩)
  ·exfalso; simp at g12 h15; omega

structure AllG where
 i : Nat
 z : SV
 F : List Nat
 M : List RowV
theorem takeD_all {l : List (Cf → Bool)} {i : Nat} {e : Cf → Bool} (h : l[i]? = some e) (cf : Cf) : (l.take (i + 1)).all (fun g => g cf) = ((l.take i).all (fun g => g cf) && e cf) := by
 rw [List.take_add_one, h, List.all_append]; simp
theorem takeD_any {l : List (Cf → Bool)} {i : Nat} {e : Cf → Bool} (h : l[i]? = some e) (cf : Cf) : (l.take (i + 1)).any (fun g => g cf) = ((l.take i).any (fun g => g cf) || e cf) := by
 rw [List.take_add_one, h, List.any_append]; simp

set_option maxRecDepth 100000 in
theorem Said_c (x : OpV) (hw : x.wf) (hl40 : x.l.length ≤ 40) (ss : List SV) (eD : List (Cf → Bool)) (hRL : RelL ss eD) (L : List RowV) (hgd : ∀ s ∈ ss, s.good ∧ s.among L) (a : Option Addr) (c : Nat) (hsp : 0 < ss.length) (hsl : ss.length ≤ 1000) (w : World) (hr : RdSL w ss a) (hL : ∀ q ∈ L, RdRow w q) (hrl : RdC w x.l x.la) :
  Calls Tryz.prog 52 [x.val, .slice a ss.length c].toArray w (SaidP L (fun z => RelS z (opD x eD)) w) := by
 obtain ⟨bs, os, ha, hsc⟩ := hr.pos hsp
 subst ha
 obtain ⟨xa, hxa⟩ : ∃ y, ss[x.a % ss.length]? = some y := ⟨_, List.getElem?_eq_getElem (Nat.mod_lt _ hsp)⟩
 obtain ⟨xb, hxb⟩ : ∃ y, ss[x.b % ss.length]? = some y := ⟨_, List.getElem?_eq_getElem (Nat.mod_lt _ hsp)⟩
 obtain ⟨xc, hxc⟩ : ∃ y, ss[x.c % ss.length]? = some y := ⟨_, List.getElem?_eq_getElem (Nat.mod_lt _ hsp)⟩
 have hra := hRL.pick hxa
 have hrb := hRL.pick hxb
 have hrc2 := hRL.pick hxc
 obtain ⟨hga, haa⟩ := hgd xa (List.mem_of_getElem? hxa)
 obtain ⟨hgb, hab⟩ := hgd xb (List.mem_of_getElem? hxb)
 obtain ⟨hgc, hac⟩ := hgd xc (List.mem_of_getElem? hxc)
 refine enter Tryz.func52 rfl Tryz.ntmps52 rfl (St.init _) ?_
 refine jN 3 ?_
 refine WL.boxN rfl rfl (fun b2 => ?_)
 refine jN 1 ?_
 refine WL.alloc F.zero44 rfl (fun b4 => ?_)
 refine jN 5 ?_
 refine WC.cutPE (α := Nat × Nat × Nat) (fun z => [(2, pp b2), (1, .slice (some ⟨bs, os, none⟩) ss.length c), (4, pp b4), (6, pp z.1), (7, pp z.2.1), (8, pp z.2.2)]) (fun z => [pt z.1 (scl xa) 44, pt z.2.1 (scl xb) 44, pt z.2.2 (scl xc) 44, pt b2 x.cells 92, pt b4 [.slice none 0 0, .slice none 0 0] 44]) (fun c a d v w h => by cases d <;> exact h) (fun Q' hP hQ => ?_) (fun xE => ?_)
 ·refine WC.drawsL (by kernel_rfl) (FactsOk.cons (ds := [30, 31, 32]) (LoadOk.one (t := 2) (off := 2) rfl jM rfl) (FactsOk.cons (ds := [30, 31, 32]) (LoadOk.by (Y := fun w => ∀ j v, (scl xa)[j]? = some v → w.cell? ⟨bs, os + (x.a % ss.length) * 2 + j, none⟩ = some v) (fun w hS => fun j v hv => hS.oldc (hsc _ _ hxa j v hv) (by simp))) (FactsOk.cons (ds := [31, 32]) (LoadOk.one (t := 2) (off := 3) rfl jM rfl) (FactsOk.cons (ds := [31, 32]) (LoadOk.by (Y := fun w => ∀ j v, (scl xb)[j]? = some v → w.cell? ⟨bs, os + (x.b % ss.length) * 2 + j, none⟩ = some v) (fun w hS => fun j v hv => hS.oldc (hsc _ _ hxb j v hv) (by simp))) (FactsOk.cons (ds := [32]) (LoadOk.one (t := 2) (off := 4) rfl jM rfl) (FactsOk.cons (ds := [32]) (LoadOk.by (Y := fun w => ∀ j v, (scl xc)[j]? = some v → w.cell? ⟨bs, os + (x.c % ss.length) * 2 + j, none⟩ = some v) (fun w hS => fun j v hv => hS.oldc (hsc _ _ hxc j v hv) (by simp))) (FactsOk.nil))))))) ?_
  refine jT 0 rfl (Yl.move rfl) ?_
  refine jT 1 rfl (Yl.fieldAddr0 F.fld92_2 rfl) ?_
  refine jF 2 0 rfl rfl (Yl.load1 F.one5 rfl) ?_
  refine jT 3 rfl (Yl.convert rfl (v := .int .i64 (x.a : Int)) (fun w => conv8 hw.a w)) ?_
  refine jT 4 rfl (Yl.move rfl) ?_
  refine jT 5 rfl (Yl.lenSl F.und49 rfl) ?_
  refine jT 6 rfl (Yl.bin rfl rfl (fun w => run_remI (a := x.a) (m := ss.length) (by have := hw.a; omega) hsp (by omega) _ _ _ w)) ?_
  refine jT 7 rfl (Yl.indexAddr (i := x.a % ss.length) F.sl49 rfl rfl (Nat.mod_lt _ hsp)) ?_
  refine jF 8 1 rfl rfl (Yl.loadN F.agg44 rfl rfl) ?_
  refine jT 9 rfl (Yl.move rfl) ?_
  refine jT 10 rfl (Yl.fieldAddr0 F.fld92_3 rfl) ?_
  refine jF 11 2 rfl rfl (Yl.load1 F.one5 rfl) ?_
  refine jT 12 rfl (Yl.convert rfl (v := .int .i64 (x.b : Int)) (fun w => conv8 hw.b w)) ?_
  refine jT 13 rfl (Yl.move rfl) ?_
  refine jT 14 rfl (Yl.lenSl F.und49 rfl) ?_
  refine jT 15 rfl (Yl.bin rfl rfl (fun w => run_remI (a := x.b) (m := ss.length) (by have := hw.b; omega) hsp (by omega) _ _ _ w)) ?_
  refine jT 16 rfl (Yl.indexAddr (i := x.b % ss.length) F.sl49 rfl rfl (Nat.mod_lt _ hsp)) ?_
  refine jF 17 3 rfl rfl (Yl.loadN F.agg44 rfl rfl) ?_
  refine jT 18 rfl (Yl.move rfl) ?_
  refine jT 19 rfl (Yl.fieldAddr0 F.fld92_4 rfl) ?_
  refine jF 20 4 rfl rfl (Yl.load1 F.one5 rfl) ?_
  refine jT 21 rfl (Yl.convert rfl (v := .int .i64 (x.c : Int)) (fun w => conv8 hw.c w)) ?_
  refine jT 22 rfl (Yl.move rfl) ?_
  refine jT 23 rfl (Yl.lenSl F.und49 rfl) ?_
  refine jT 24 rfl (Yl.bin rfl rfl (fun w => run_remI (a := x.c) (m := ss.length) (by have := hw.c; omega) hsp (by omega) _ _ _ w)) ?_
  refine jT 25 rfl (Yl.indexAddr (i := x.c % ss.length) F.sl49 rfl rfl (Nat.mod_lt _ hsp)) ?_
  refine jF 26 5 rfl rfl (Yl.loadN F.agg44 rfl rfl) ?_
  refine WD.three (i := 27) (j := 28) (l := 29) (by decide +kernel) rfl rfl rfl ?_ ?_ ?_
  ·refine WL.alloc F.zero44 rfl (fun b6 => ?_)
   refine WD.on (closed_of (by decide +kernel)) (fun w hS => Sx.keep (hS.cell jM rfl) (Sx.keep (fun j v hv => hS.oldc (hsc _ _ hxa j v hv) (by simp)) (Sx.keep (hS.cell jM rfl) (Sx.keep (fun j v hv => hS.oldc (hsc _ _ hxb j v hv) (by simp)) (Sx.keep (hS.cell jM rfl) (Sx.keep (fun j v hv => hS.oldc (hsc _ _ hxc j v hv) (by simp)) (Sx.none))))))) ?_
   refine WD.two (i := 28) (j := 29) (by decide +kernel) rfl rfl ?_ ?_
   ·refine WL.alloc F.zero44 rfl (fun b7 => ?_)
    refine WD.on (closed_of (by decide +kernel)) (fun w hS => Sx.keep (hS.cell jM rfl) (Sx.keep (fun j v hv => hS.oldc (hsc _ _ hxa j v hv) (by simp)) (Sx.keep (hS.cell jM rfl) (Sx.keep (fun j v hv => hS.oldc (hsc _ _ hxb j v hv) (by simp)) (Sx.keep (hS.cell jM rfl) (Sx.keep (fun j v hv => hS.oldc (hsc _ _ hxc j v hv) (by simp)) (Sx.none))))))) ?_
    refine jA 29 rfl ?_
    refine WL.alloc F.zero44 rfl (fun b8 => ?_)
    refine WD.on (closed_of (by decide +kernel)) (fun w hS => Sx.keep (hS.cell jM rfl) (Sx.keep (fun j v hv => hS.oldc (hsc _ _ hxa j v hv) (by simp)) (Sx.keep (hS.cell jM rfl) (Sx.keep (fun j v hv => hS.oldc (hsc _ _ hxb j v hv) (by simp)) (Sx.keep (hS.cell jM rfl) (Sx.keep (fun j v hv => hS.oldc (hsc _ _ hxc j v hv) (by simp)) (Sx.none))))))) ?_
    refine jA 30 rfl ?_
    refine WL.storeN F.agg44 rfl rfl rfl jO jU jS ?_
    refine WD.on (closed_of (by decide +kernel)) (fun w hS => Sx.gone rfl (Sx.gone rfl (Sx.keep (hS.cell jM rfl) (Sx.keep (fun j v hv => hS.oldc (hsc _ _ hxb j v hv) (by simp)) (Sx.keep (hS.cell jM rfl) (Sx.keep (fun j v hv => hS.oldc (hsc _ _ hxc j v hv) (by simp)) (Sx.none))))))) ?_
    refine jA 31 rfl ?_
    refine WL.storeN F.agg44 rfl rfl rfl jO jU jS ?_
    refine WD.on (closed_of (by decide +kernel)) (fun w hS => Sx.gone rfl (Sx.gone rfl (Sx.gone rfl (Sx.gone rfl (Sx.keep (hS.cell jM rfl) (Sx.keep (fun j v hv => hS.oldc (hsc _ _ hxc j v hv) (by simp)) (Sx.none))))))) ?_
    refine jA 32 rfl ?_
    refine WL.storeN F.agg44 rfl rfl rfl jO jU jS ?_
    refine jG ?_
    refine jD ?_
    refine WQ.chunks (C' := [pt (b6, b7, b8).1 (scl xa) 44, pt (b6, b7, b8).2.1 (scl xb) 44, pt (b6, b7, b8).2.2 (scl xc) 44, pt b2 x.cells 92, pt b4 [.slice none 0 0, .slice none 0 0] 44]) (fun w hS => (jK hS)) ?_
    exact WQ.byCut (hQ (b6, b7, b8)) ⟨rfl, rfl, rfl, rfl, rfl, rfl, trivial⟩
   ·refine WL.alloc F.zero44 rfl (fun b8 => ?_)
    refine WD.on (closed_of (by decide +kernel)) (fun w hS => Sx.keep (hS.cell jM rfl) (Sx.keep (fun j v hv => hS.oldc (hsc _ _ hxa j v hv) (by simp)) (Sx.keep (hS.cell jM rfl) (Sx.keep (fun j v hv => hS.oldc (hsc _ _ hxb j v hv) (by simp)) (Sx.keep (hS.cell jM rfl) (Sx.keep (fun j v hv => hS.oldc (hsc _ _ hxc j v hv) (by simp)) (Sx.none))))))) ?_
    refine jA 28 rfl ?_
    refine WL.alloc F.zero44 rfl (fun b7 => ?_)
    refine WD.on (closed_of (by decide +kernel)) (fun w hS => Sx.keep (hS.cell jM rfl) (Sx.keep (fun j v hv => hS.oldc (hsc _ _ hxa j v hv) (by simp)) (Sx.keep (hS.cell jM rfl) (Sx.keep (fun j v hv => hS.oldc (hsc _ _ hxb j v hv) (by simp)) (Sx.keep (hS.cell jM rfl) (Sx.keep (fun j v hv => hS.oldc (hsc _ _ hxc j v hv) (by simp)) (Sx.none))))))) ?_
    refine jA 30 rfl ?_
    refine WL.storeN F.agg44 rfl rfl rfl jO jU jS ?_
    refine WD.on (closed_of (by decide +kernel)) (fun w hS => Sx.gone rfl (Sx.gone rfl (Sx.keep (hS.cell jM rfl) (Sx.keep (fun j v hv => hS.oldc (hsc _ _ hxb j v hv) (by simp)) (Sx.keep (hS.cell jM rfl) (Sx.keep (fun j v hv => hS.oldc (hsc _ _ hxc j v hv) (by simp)) (Sx.none))))))) ?_
    refine jA 31 rfl ?_
    refine WL.storeN F.agg44 rfl rfl rfl jO jU jS ?_
    refine WD.on (closed_of (by decide +kernel)) (fun w hS => Sx.gone rfl (Sx.gone rfl (Sx.gone rfl (Sx.gone rfl (Sx.keep (hS.cell jM rfl) (Sx.keep (fun j v hv => hS.oldc (hsc _ _ hxc j v hv) (by simp)) (Sx.none))))))) ?_
    refine jA 32 rfl ?_
    refine WL.storeN F.agg44 rfl rfl rfl jO jU jS ?_
    refine jG ?_
    refine jD ?_
    refine WQ.chunks (C' := [pt (b6, b7, b8).1 (scl xa) 44, pt (b6, b7, b8).2.1 (scl xb) 44, pt (b6, b7, b8).2.2 (scl xc) 44, pt b2 x.cells 92, pt b4 [.slice none 0 0, .slice none 0 0] 44]) (fun w hS => (jK hS)) ?_
    exact WQ.byCut (hQ (b6, b7, b8)) ⟨rfl, rfl, rfl, rfl, rfl, rfl, trivial⟩
  ·refine WL.alloc F.zero44 rfl (fun b7 => ?_)
   refine WD.on (closed_of (by decide +kernel)) (fun w hS => Sx.keep (hS.cell jM rfl) (Sx.keep (fun j v hv => hS.oldc (hsc _ _ hxa j v hv) (by simp)) (Sx.keep (hS.cell jM rfl) (Sx.keep (fun j v hv => hS.oldc (hsc _ _ hxb j v hv) (by simp)) (Sx.keep (hS.cell jM rfl) (Sx.keep (fun j v hv => hS.oldc (hsc _ _ hxc j v hv) (by simp)) (Sx.none))))))) ?_
   refine WD.two (i := 27) (j := 29) (by decide +kernel) rfl rfl ?_ ?_
   ·refine WL.alloc F.zero44 rfl (fun b6 => ?_)
    refine WD.on (closed_of (by decide +kernel)) (fun w hS => Sx.keep (hS.cell jM rfl) (Sx.keep (fun j v hv => hS.oldc (hsc _ _ hxa j v hv) (by simp)) (Sx.keep (hS.cell jM rfl) (Sx.keep (fun j v hv => hS.oldc (hsc _ _ hxb j v hv) (by simp)) (Sx.keep (hS.cell jM rfl) (Sx.keep (fun j v hv => hS.oldc (hsc _ _ hxc j v hv) (by simp)) (Sx.none))))))) ?_
    refine jA 29 rfl ?_
    refine WL.alloc F.zero44 rfl (fun b8 => ?_)
    refine WD.on (closed_of (by decide +kernel)) (fun w hS => Sx.keep (hS.cell jM rfl) (Sx.keep (fun j v hv => hS.oldc (hsc _ _ hxa j v hv) (by simp)) (Sx.keep (hS.cell jM rfl) (Sx.keep (fun j v hv => hS.oldc (hsc _ _ hxb j v hv) (by simp)) (Sx.keep (hS.cell jM rfl) (Sx.keep (fun j v hv => hS.oldc (hsc _ _ hxc j v hv) (by simp)) (Sx.none))))))) ?_
    refine jA 30 rfl ?_
    refine WL.storeN F.agg44 rfl rfl rfl jO jU jS ?_
    refine WD.on (closed_of (by decide +kernel)) (fun w hS => Sx.gone rfl (Sx.gone rfl (Sx.keep (hS.cell jM rfl) (Sx.keep (fun j v hv => hS.oldc (hsc _ _ hxb j v hv) (by simp)) (Sx.keep (hS.cell jM rfl) (Sx.keep (fun j v hv => hS.oldc (hsc _ _ hxc j v hv) (by simp)) (Sx.none))))))) ?_
    refine jA 31 rfl ?_
    refine WL.storeN F.agg44 rfl rfl rfl jO jU jS ?_
    refine WD.on (closed_of (by decide +kernel)) (fun w hS => Sx.gone rfl (Sx.gone rfl (Sx.gone rfl (Sx.gone rfl (Sx.keep (hS.cell jM rfl) (Sx.keep (fun j v hv => hS.oldc (hsc _ _ hxc j v hv) (by simp)) (Sx.none))))))) ?_
    refine jA 32 rfl ?_
    refine WL.storeN F.agg44 rfl rfl rfl jO jU jS ?_
    refine jG ?_
    refine jD ?_
    refine WQ.chunks (C' := [pt (b6, b7, b8).1 (scl xa) 44, pt (b6, b7, b8).2.1 (scl xb) 44, pt (b6, b7, b8).2.2 (scl xc) 44, pt b2 x.cells 92, pt b4 [.slice none 0 0, .slice none 0 0] 44]) (fun w hS => (jK hS)) ?_
    exact WQ.byCut (hQ (b6, b7, b8)) ⟨rfl, rfl, rfl, rfl, rfl, rfl, trivial⟩
   ·refine WL.alloc F.zero44 rfl (fun b8 => ?_)
    refine WD.on (closed_of (by decide +kernel)) (fun w hS => Sx.keep (hS.cell jM rfl) (Sx.keep (fun j v hv => hS.oldc (hsc _ _ hxa j v hv) (by simp)) (Sx.keep (hS.cell jM rfl) (Sx.keep (fun j v hv => hS.oldc (hsc _ _ hxb j v hv) (by simp)) (Sx.keep (hS.cell jM rfl) (Sx.keep (fun j v hv => hS.oldc (hsc _ _ hxc j v hv) (by simp)) (Sx.none))))))) ?_
    refine jA 27 rfl ?_
    refine WL.alloc F.zero44 rfl (fun b6 => ?_)
    refine WD.on (closed_of (by decide +kernel)) (fun w hS => Sx.keep (hS.cell jM rfl) (Sx.keep (fun j v hv => hS.oldc (hsc _ _ hxa j v hv) (by simp)) (Sx.keep (hS.cell jM rfl) (Sx.keep (fun j v hv => hS.oldc (hsc _ _ hxb j v hv) (by simp)) (Sx.keep (hS.cell jM rfl) (Sx.keep (fun j v hv => hS.oldc (hsc _ _ hxc j v hv) (by simp)) (Sx.none))))))) ?_
    refine jA 30 rfl ?_
    refine WL.storeN F.agg44 rfl rfl rfl jO jU jS ?_
    refine WD.on (closed_of (by decide +kernel)) (fun w hS => Sx.gone rfl (Sx.gone rfl (Sx.keep (hS.cell jM rfl) (Sx.keep (fun j v hv => hS.oldc (hsc _ _ hxb j v hv) (by simp)) (Sx.keep (hS.cell jM rfl) (Sx.keep (fun j v hv => hS.oldc (hsc _ _ hxc j v hv) (by simp)) (Sx.none))))))) ?_
    refine jA 31 rfl ?_
    refine WL.storeN F.agg44 rfl rfl rfl jO jU jS ?_
    refine WD.on (closed_of (by decide +kernel)) (fun w hS => Sx.gone rfl (Sx.gone rfl (Sx.gone rfl (Sx.gone rfl (Sx.keep (hS.cell jM rfl) (Sx.keep (fun j v hv => hS.oldc (hsc _ _ hxc j v hv) (by simp)) (Sx.none))))))) ?_
    refine jA 32 rfl ?_
    refine WL.storeN F.agg44 rfl rfl rfl jO jU jS ?_
    refine jG ?_
    refine jD ?_
    refine WQ.chunks (C' := [pt (b6, b7, b8).1 (scl xa) 44, pt (b6, b7, b8).2.1 (scl xb) 44, pt (b6, b7, b8).2.2 (scl xc) 44, pt b2 x.cells 92, pt b4 [.slice none 0 0, .slice none 0 0] 44]) (fun w hS => (jK hS)) ?_
    exact WQ.byCut (hQ (b6, b7, b8)) ⟨rfl, rfl, rfl, rfl, rfl, rfl, trivial⟩
  ·refine WL.alloc F.zero44 rfl (fun b8 => ?_)
   refine WD.on (closed_of (by decide +kernel)) (fun w hS => Sx.keep (hS.cell jM rfl) (Sx.keep (fun j v hv => hS.oldc (hsc _ _ hxa j v hv) (by simp)) (Sx.keep (hS.cell jM rfl) (Sx.keep (fun j v hv => hS.oldc (hsc _ _ hxb j v hv) (by simp)) (Sx.keep (hS.cell jM rfl) (Sx.keep (fun j v hv => hS.oldc (hsc _ _ hxc j v hv) (by simp)) (Sx.none))))))) ?_
   refine WD.two (i := 27) (j := 28) (by decide +kernel) rfl rfl ?_ ?_
   ·refine WL.alloc F.zero44 rfl (fun b6 => ?_)
    refine WD.on (closed_of (by decide +kernel)) (fun w hS => Sx.keep (hS.cell jM rfl) (Sx.keep (fun j v hv => hS.oldc (hsc _ _ hxa j v hv) (by simp)) (Sx.keep (hS.cell jM rfl) (Sx.keep (fun j v hv => hS.oldc (hsc _ _ hxb j v hv) (by simp)) (Sx.keep (hS.cell jM rfl) (Sx.keep (fun j v hv => hS.oldc (hsc _ _ hxc j v hv) (by simp)) (Sx.none))))))) ?_
    refine jA 28 rfl ?_
    refine WL.alloc F.zero44 rfl (fun b7 => ?_)
    refine WD.on (closed_of (by decide +kernel)) (fun w hS => Sx.keep (hS.cell jM rfl) (Sx.keep (fun j v hv => hS.oldc (hsc _ _ hxa j v hv) (by simp)) (Sx.keep (hS.cell jM rfl) (Sx.keep (fun j v hv => hS.oldc (hsc _ _ hxb j v hv) (by simp)) (Sx.keep (hS.cell jM rfl) (Sx.keep (fun j v hv => hS.oldc (hsc _ _ hxc j v hv) (by simp)) (Sx.none))))))) ?_
    refine jA 30 rfl ?_
    refine WL.storeN F.agg44 rfl rfl rfl jO jU jS ?_
    refine WD.on (closed_of (by decide +kernel)) (fun w hS => Sx.gone rfl (Sx.gone rfl (Sx.keep (hS.cell jM rfl) (Sx.keep (fun j v hv => hS.oldc (hsc _ _ hxb j v hv) (by simp)) (Sx.keep (hS.cell jM rfl) (Sx.keep (fun j v hv => hS.oldc (hsc _ _ hxc j v hv) (by simp)) (Sx.none))))))) ?_
    refine jA 31 rfl ?_
    refine WL.storeN F.agg44 rfl rfl rfl jO jU jS ?_
    refine WD.on (closed_of (by decide +kernel)) (fun w hS => Sx.gone rfl (Sx.gone rfl (Sx.gone rfl (Sx.gone rfl (Sx.keep (hS.cell jM rfl) (Sx.keep (fun j v hv => hS.oldc (hsc _ _ hxc j v hv) (by simp)) (Sx.none))))))) ?_
    refine jA 32 rfl ?_
    refine WL.storeN F.agg44 rfl rfl rfl jO jU jS ?_
    refine jG ?_
    refine jD ?_
    refine WQ.chunks (C' := [pt (b6, b7, b8).1 (scl xa) 44, pt (b6, b7, b8).2.1 (scl xb) 44, pt (b6, b7, b8).2.2 (scl xc) 44, pt b2 x.cells 92, pt b4 [.slice none 0 0, .slice none 0 0] 44]) (fun w hS => (jK hS)) ?_
    exact WQ.byCut (hQ (b6, b7, b8)) ⟨rfl, rfl, rfl, rfl, rfl, rfl, trivial⟩
   ·refine WL.alloc F.zero44 rfl (fun b7 => ?_)
    refine WD.on (closed_of (by decide +kernel)) (fun w hS => Sx.keep (hS.cell jM rfl) (Sx.keep (fun j v hv => hS.oldc (hsc _ _ hxa j v hv) (by simp)) (Sx.keep (hS.cell jM rfl) (Sx.keep (fun j v hv => hS.oldc (hsc _ _ hxb j v hv) (by simp)) (Sx.keep (hS.cell jM rfl) (Sx.keep (fun j v hv => hS.oldc (hsc _ _ hxc j v hv) (by simp)) (Sx.none))))))) ?_
    refine jA 27 rfl ?_
    refine WL.alloc F.zero44 rfl (fun b6 => ?_)
    refine WD.on (closed_of (by decide +kernel)) (fun w hS => Sx.keep (hS.cell jM rfl) (Sx.keep (fun j v hv => hS.oldc (hsc _ _ hxa j v hv) (by simp)) (Sx.keep (hS.cell jM rfl) (Sx.keep (fun j v hv => hS.oldc (hsc _ _ hxb j v hv) (by simp)) (Sx.keep (hS.cell jM rfl) (Sx.keep (fun j v hv => hS.oldc (hsc _ _ hxc j v hv) (by simp)) (Sx.none))))))) ?_
    refine jA 30 rfl ?_
    refine WL.storeN F.agg44 rfl rfl rfl jO jU jS ?_
    refine WD.on (closed_of (by decide +kernel)) (fun w hS => Sx.gone rfl (Sx.gone rfl (Sx.keep (hS.cell jM rfl) (Sx.keep (fun j v hv => hS.oldc (hsc _ _ hxb j v hv) (by simp)) (Sx.keep (hS.cell jM rfl) (Sx.keep (fun j v hv => hS.oldc (hsc _ _ hxc j v hv) (by simp)) (Sx.none))))))) ?_
    refine jA 31 rfl ?_
    refine WL.storeN F.agg44 rfl rfl rfl jO jU jS ?_
    refine WD.on (closed_of (by decide +kernel)) (fun w hS => Sx.gone rfl (Sx.gone rfl (Sx.gone rfl (Sx.gone rfl (Sx.keep (hS.cell jM rfl) (Sx.keep (fun j v hv => hS.oldc (hsc _ _ hxc j v hv) (by simp)) (Sx.none))))))) ?_
    refine jA 32 rfl ?_
    refine WL.storeN F.agg44 rfl rfl rfl jO jU jS ?_
    refine jG ?_
    refine jD ?_
    refine WQ.chunks (C' := [pt (b6, b7, b8).1 (scl xa) 44, pt (b6, b7, b8).2.1 (scl xb) 44, pt (b6, b7, b8).2.2 (scl xc) 44, pt b2 x.cells 92, pt b4 [.slice none 0 0, .slice none 0 0] 44]) (fun w hS => (jK hS)) ?_
    exact WQ.byCut (hQ (b6, b7, b8)) ⟨rfl, rfl, rfl, rfl, rfl, rfl, trivial⟩
 obtain ⟨b6, b7, b8⟩ := xE
 show WQ _ _ _ _ _ _ [(2, pp b2), (1, .slice (some ⟨bs, os, none⟩) ss.length c), (4, pp b4), (6, pp b6), (7, pp b7), (8, pp b8)] [pt b6 (scl xa) 44, pt b7 (scl xb) 44, pt b8 (scl xc) 44, pt b2 x.cells 92, pt b4 [.slice none 0 0, .slice none 0 0] 44]
 refine jN 19 ?_
 refine WC.cond rfl (fun h40 => ?_) (fun h40 => ?_)
 ·have hd : x.doo = 1 := by (simp at h40; omega)
  refine jN 3 ?_
  refine jC (β := SX (L) (fun z => z.v = [] ∧ ∀ M, z.has M = true)) (res := fun y => y.1.1.val) (cs := fun y => [rwC y.1.2.1 y.1.2.2]) F.fun50 rfl (fun w hS _ => (rConst_s true L w).mono (fun e w2 h => h.sx)) (fun y => ?_)
  refine jN 9 ?_
  refine WQ.ret (rs := [.cell 4 44, .tmp 5]) rfl (.cellN F.agg44 rfl jM rfl (.tmp rfl .nil)) (fun w hS => ?_)
  refine SaidP.of y _ (fun hg hq => ?_) (jK hS)
  intro cf M hM
  rw [hq.2]
  simp only [opD, hd]
  rfl
 ·have hn1 : ¬ x.doo = 1 := by (simp at h40; omega)
  refine jN 8 ?_
  refine WC.cond rfl (fun h43 => ?_) (fun h43 => ?_)
  ·have hd : x.doo = 2 := by (simp at h43; omega)
   refine jN 11 ?_
   refine WA.splitB (i := 48) rfl (fun g48 => ?_) (fun g48 => ?_)
   ·have hko : x.i < 0 ∨ 24 ≤ x.i := .inl (by simpa using g48)
    refine jN 14 ?_
    refine jC (β := SX (L) (fun z => z.v = [] ∧ ∀ M, z.has M = false)) (res := fun y => y.1.1.val) (cs := fun y => [rwC y.1.2.1 y.1.2.2]) F.fun50 rfl (fun w hS _ => (rConst_s false L w).mono (fun e w2 h => h.sx)) (fun y => ?_)
    refine jN 10 ?_
    refine WQ.ret (rs := [.cell 4 44, .tmp 5]) rfl (.cellN F.agg44 rfl jM rfl (.tmp rfl .nil)) (fun w hS => ?_)
    refine SaidP.of y _ (fun hg hq => ?_) (jK hS)
    intro cf M hM
    rw [hq.2]
    have e8 : decide (0 ≤ x.i ∧ x.i < 24) = false := decide_eq_false (by omega)
    simp only [opD, hd, e8, Bool.false_and]
    rfl
   ·refine jN 13 ?_
    refine WC.cond rfl (fun h52 => ?_) (fun h52 => ?_)
    ·have hko : x.i < 0 ∨ 24 ≤ x.i := .inr (by (simp at h52; omega))
     refine jN 3 ?_
     refine jC (β := SX (L) (fun z => z.v = [] ∧ ∀ M, z.has M = false)) (res := fun y => y.1.1.val) (cs := fun y => [rwC y.1.2.1 y.1.2.2]) F.fun50 rfl (fun w hS _ => (rConst_s false L w).mono (fun e w2 h => h.sx)) (fun y => ?_)
     refine jN 10 ?_
     refine WQ.ret (rs := [.cell 4 44, .tmp 5]) rfl (.cellN F.agg44 rfl jM rfl (.tmp rfl .nil)) (fun w hS => ?_)
     refine SaidP.of y _ (fun hg hq => ?_) (jK hS)
     intro cf M hM
     rw [hq.2]
     have e8 : decide (0 ≤ x.i ∧ x.i < 24) = false := decide_eq_false (by omega)
     simp only [opD, hd, e8, Bool.false_and]
     rfl
    ·have hki : 0 ≤ x.i ∧ x.i < 24 := by (simp at g48 h52; omega)
     obtain ⟨k, hk⟩ := Int.eq_ofNat_of_zero_le hki.1
     have hk24 : k < 24 := by omega
     have hp32 : 2 ^ k < 4294967296 := Nat.lt_of_lt_of_le (Nat.pow_lt_pow_right (by decide) (show k < 32 by omega)) (by decide)
     refine jN 8 ?_
     refine WA.say 55 (.int .i64 (k : Int)) (by rw [show (k : Int) = x.i from hk.symm]; rfl) ?_
     refine jN 1 ?_
     refine WL.convert rfl rfl (v := .int .u64 (k : Int)) (fun w hS => conv61 (by omega) w) ?_
     refine jN 1 ?_
     refine WL.bin rfl rfl rfl (fun w => run_shl1U (by omega) _ _ _ w) ?_
     refine jN 1 ?_
     refine jC (β := SX (L) (fun z => z.v = featL ((2 ^ k) ||| 0) ∧ ∀ M, z.has M = (decide (confN z.v (hasN z.v M) &&& (2 ^ k) = (2 ^ k) % 16777216) && decide (confN z.v (hasN z.v M) &&& 0 = 0)))) (res := fun y => y.1.1.val) (cs := fun y => [rwC y.1.2.1 y.1.2.2]) F.fun113 rfl (fun w hS _ => (rCube_s (2 ^ k) 0 hp32 (by decide) L w).mono (fun e w2 h => h.sx)) (fun y => ?_)
     refine jN 9 ?_
     refine WQ.ret (rs := [.cell 4 44, .tmp 5]) rfl (.cellN F.agg44 rfl jM rfl (.tmp rfl .nil)) (fun w hS => ?_)
     refine SaidP.of y _ (fun hg hq => ?_) (jK hS)
     intro cf M hM
     rw [rel_cube hg hq.1 hq.2 cf M hM, cube_one hk24]
     have e9 : x.i.toNat = k := by rw [hk]; rfl
     simp only [opD, hd]
     simp [e9, hki.1, hki.2]
  ·have hn2 : ¬ x.doo = 2 := by (simp at h43; omega)
   refine jN 8 ?_
   refine WC.cond rfl (fun h59 => ?_) (fun h59 => ?_)
   ·have hd : x.doo = 3 := by (simp at h59; omega)
    refine jN 11 ?_
    refine jC (β := SX (L) (fun z => z.v = featL (x.f ||| x.g) ∧ ∀ M, z.has M = (decide (confN z.v (hasN z.v M) &&& x.f = x.f % 16777216) && decide (confN z.v (hasN z.v M) &&& x.g = 0)))) (res := fun y => y.1.1.val) (cs := fun y => [rwC y.1.2.1 y.1.2.2]) F.fun113 rfl (fun w hS _ => (rCube_s x.f x.g hw.f hw.g L w).mono (fun e w2 h => h.sx)) (fun y => ?_)
    refine jN 9 ?_
    refine WQ.ret (rs := [.cell 4 44, .tmp 5]) rfl (.cellN F.agg44 rfl jM rfl (.tmp rfl .nil)) (fun w hS => ?_)
    refine SaidP.of y _ (fun hg hq => ?_) (jK hS)
    intro cf M hM
    rw [rel_cube hg hq.1 hq.2 cf M hM]
    simp only [opD, hd]
    rfl
   ·have hn3 : ¬ x.doo = 3 := by (simp at h59; omega)
    refine jN 8 ?_
    refine WC.cond rfl (fun h66 => ?_) (fun h66 => ?_)
    ·have hd : x.doo = 4 := by (simp at h66; omega)
     refine jN 5 ?_
     refine jC (β := SX (L) (fun z => z.v = xa.v ∧ ∀ M, z.has M = !xa.has M)) (res := fun y => y.1.1.val) (cs := fun y => [rwC y.1.2.1 y.1.2.2]) F.fun114 rfl (fun w hS _ => (rNot_s xa hga L haa w (fun x hx => (hL x hx).next hS)).mono (fun e w2 h => h.sx)) (fun y => ?_)
     refine jN 9 ?_
     refine WQ.ret (rs := [.cell 4 44, .tmp 5]) rfl (.cellN F.agg44 rfl jM rfl (.tmp rfl .nil)) (fun w hS => ?_)
     refine SaidP.of y _ (fun hg hq => ?_) (jK hS)
     intro cf M hM
     rw [hq.2, hra cf M hM]
     simp only [opD, hd]
     rfl
    ·have hn4 : ¬ x.doo = 4 := by (simp at h66; omega)
     refine jN 8 ?_
     refine WC.cond rfl (fun h70 => ?_) (fun h70 => ?_)
     ·have hd : x.doo = 5 := by (simp at h70; omega)
      refine jN 7 ?_
      refine jC (β := SX (L) (fun z => z.v = featL (numN xa.v ||| numN xb.v) ∧ ∀ M, z.has M = (xa.has M && xb.has M))) (res := fun y => y.1.1.val) (cs := fun y => [rwC y.1.2.1 y.1.2.2]) F.fun115 rfl (fun w hS _ => (rAnd_s xa xb hga hgb L haa hab w (fun x hx => (hL x hx).next hS)).mono (fun e w2 h => h.sx)) (fun y => ?_)
      refine jN 9 ?_
      refine WQ.ret (rs := [.cell 4 44, .tmp 5]) rfl (.cellN F.agg44 rfl jM rfl (.tmp rfl .nil)) (fun w hS => ?_)
      refine SaidP.of y _ (fun hg hq => ?_) (jK hS)
      intro cf M hM
      rw [hq.2, hra cf M hM, hrb cf M hM]
      simp only [opD, hd]
      simp
     ·have hn5 : ¬ x.doo = 5 := by (simp at h70; omega)
      refine jN 8 ?_
      refine WC.cond rfl (fun h75 => ?_) (fun h75 => ?_)
      ·have hd : x.doo = 6 := by (simp at h75; omega)
       refine jN 7 ?_
       refine jC (β := SX (L) (fun z => z.v = featL (numN xa.v ||| numN xb.v) ∧ ∀ M, z.has M = (xa.has M || xb.has M))) (res := fun y => y.1.1.val) (cs := fun y => [rwC y.1.2.1 y.1.2.2]) F.fun116 rfl (fun w hS _ => (rOr_s xa xb hga hgb L haa hab w (fun x hx => (hL x hx).next hS)).mono (fun e w2 h => h.sx)) (fun y => ?_)
       refine jN 9 ?_
       refine WQ.ret (rs := [.cell 4 44, .tmp 5]) rfl (.cellN F.agg44 rfl jM rfl (.tmp rfl .nil)) (fun w hS => ?_)
       refine SaidP.of y _ (fun hg hq => ?_) (jK hS)
       intro cf M hM
       rw [hq.2, hra cf M hM, hrb cf M hM]
       simp only [opD, hd]
       simp
      ·have hn6 : ¬ x.doo = 6 := by (simp at h75; omega)
       refine jN 8 ?_
       refine WC.cond rfl (fun h80 => ?_) (fun h80 => ?_)
       ·have hd : x.doo = 7 := by (simp at h80; omega)
        refine jN 7 ?_
        refine jC (β := SX (L) (fun z => z.v = featL (numN xa.v ||| numN xb.v) ∧ ∀ M, z.has M = (xa.has M != xb.has M))) (res := fun y => y.1.1.val) (cs := fun y => [rwC y.1.2.1 y.1.2.2]) F.fun117 rfl (fun w hS _ => (rXor_s xa xb hga hgb L haa hab w (fun x hx => (hL x hx).next hS)).mono (fun e w2 h => h.sx)) (fun y => ?_)
        refine jN 9 ?_
        refine WQ.ret (rs := [.cell 4 44, .tmp 5]) rfl (.cellN F.agg44 rfl jM rfl (.tmp rfl .nil)) (fun w hS => ?_)
        refine SaidP.of y _ (fun hg hq => ?_) (jK hS)
        intro cf M hM
        rw [hq.2, hra cf M hM, hrb cf M hM]
        simp only [opD, hd]
        simp
       ·have hn7 : ¬ x.doo = 7 := by (simp at h80; omega)
        refine jN 8 ?_
        refine WC.cond rfl (fun h85 => ?_) (fun h85 => ?_)
        ·have hd : x.doo = 8 := by (simp at h85; omega)
         refine jN 9 ?_
         refine jC (β := SX (L) (fun z => (∀ q ∈ z.v, q ∈ xa.v ∨ q ∈ xb.v ∨ q ∈ xc.v) ∧ ∀ M, z.has M = ((xa.has M && xb.has M) || (!xa.has M && xc.has M)))) (res := fun y => y.1.1.val) (cs := fun y => [rwC y.1.2.1 y.1.2.2]) F.fun118 rfl (fun w hS _ => (rIte_s xa xb xc hga hgb hgc L haa hab hac w (fun x hx => (hL x hx).next hS)).mono (fun e w2 h => h.sx)) (fun y => ?_)
         refine jN 9 ?_
         refine WQ.ret (rs := [.cell 4 44, .tmp 5]) rfl (.cellN F.agg44 rfl jM rfl (.tmp rfl .nil)) (fun w hS => ?_)
         refine SaidP.of y _ (fun hg hq => ?_) (jK hS)
         intro cf M hM
         rw [hq.2, hra cf M hM, hrb cf M hM, hrc2 cf M hM]
         simp only [opD, hd]
         simp
        ·have hn8 : ¬ x.doo = 8 := by (simp at h85; omega)
         refine jN 8 ?_
         refine WC.cond rfl (fun h91 => ?_) (fun h91 => ?_)
         ·have hd : x.doo = 9 := by (simp at h91; omega)
          refine jN 1 ?_
          rcases (show (0 ≤ x.i ∧ x.i < 24) ∨ (x.i < 0 ∨ 24 ≤ x.i) by omega) with hki | hko
          ·obtain ⟨k, hk⟩ := Int.eq_ofNat_of_zero_le hki.1
           have hk24 : k < 24 := by omega
           refine jN 7 ?_
           refine WA.say 95 (.int .i64 (k : Int)) (by rw [show (k : Int) = x.i from hk.symm]; rfl) ?_
           refine jN 5 ?_
           refine jC (β := SX (L) (fun z => z.v = xa.v ∧ ∀ M, z.has M = xa.has (updN (confN xa.v (hasN xa.v M)) k x.on))) (res := fun y => y.1.1.val) (cs := fun y => [rwC y.1.2.1 y.1.2.2]) F.fun61 rfl (fun w hS _ => (rWith_s xa hga k x.on hk24 L haa w (fun x hx => (hL x hx).next hS)).mono (fun e w2 h => h.sx)) (fun y => ?_)
           refine jN 9 ?_
           refine WQ.ret (rs := [.cell 4 44, .tmp 5]) rfl (.cellN F.agg44 rfl jM rfl (.tmp rfl .nil)) (fun w hS => ?_)
           refine SaidP.of y _ (fun hg hq => ?_) (jK hS)
           intro cf M hM
           rw [rel_with hga hk24 hra hq.2 cf M hM]
           simp only [opD, hd]
           rw [show ((k : Nat) : Int) = x.i from hk.symm]
           simp
          ·refine jN 12 ?_
           refine WL.callV F.fun61 rfl rfl (fun w hS => rWith_out xa x.i x.on hko w) ?_
           refine jN 9 ?_
           refine WQ.ret (rs := [.cell 4 44, .tmp 5]) rfl (.cellN F.agg44 rfl jM rfl (.tmp rfl .nil)) (fun w hS => ?_)
           refine ⟨xa, [], [], 0, hga, ?_, haa.mono (fun q hq => List.mem_append_left _ hq), rfl, St.rwNil (hS.sublist (List.nil_sublist _))⟩
           intro cf M hM
           rw [rel_with_out (on := x.on) hko hra cf M hM]
           simp only [opD, hd]
           simp
         ·have hn9 : ¬ x.doo = 9 := by (simp at h91; omega)
          refine jN 8 ?_
          refine WC.cond rfl (fun h99 => ?_) (fun h99 => ?_)
          ·have hd : x.doo = 10 := by (simp at h99; omega)
           refine jN 9 ?_
           refine jC (β := SX (L) (fun z => z.v = xa.v ∧ ∀ N, z.has N = chgF false x.f xa.v xa.bs (hasN xa.v N) xa.bs.length)) (res := fun y => y.1.1.val) (cs := fun y => [rwC y.1.2.1 y.1.2.2]) F.fun119 rfl (fun w hS _ => (rChanged_s xa hga x.f false L haa w (fun x hx => (hL x hx).next hS)).mono (fun e w2 h => h.sx)) (fun y => ?_)
           refine jN 9 ?_
           refine WQ.ret (rs := [.cell 4 44, .tmp 5]) rfl (.cellN F.agg44 rfl jM rfl (.tmp rfl .nil)) (fun w hS => ?_)
           refine SaidP.of y _ (fun hg hq => ?_) (jK hS)
           intro cf M hM
           rw [rel_or hga hw.f hra hq.2 cf M hM]
           simp only [opD, hd]
           rfl
          ·have hn10 : ¬ x.doo = 10 := by (simp at h99; omega)
           refine jN 8 ?_
           refine WC.cond rfl (fun h105 => ?_) (fun h105 => ?_)
           ·have hd : x.doo = 11 := by (simp at h105; omega)
            refine jN 9 ?_
            refine jC (β := SX (L) (fun z => z.v = xa.v ∧ ∀ N, z.has N = chgF true x.f xa.v xa.bs (hasN xa.v N) xa.bs.length)) (res := fun y => y.1.1.val) (cs := fun y => [rwC y.1.2.1 y.1.2.2]) F.fun119 rfl (fun w hS _ => (rChanged_s xa hga x.f true L haa w (fun x hx => (hL x hx).next hS)).mono (fun e w2 h => h.sx)) (fun y => ?_)
            refine jN 9 ?_
            refine WQ.ret (rs := [.cell 4 44, .tmp 5]) rfl (.cellN F.agg44 rfl jM rfl (.tmp rfl .nil)) (fun w hS => ?_)
            refine SaidP.of y _ (fun hg hq => ?_) (jK hS)
            intro cf M hM
            rw [rel_and hga hw.f hra hq.2 cf M hM]
            simp only [opD, hd]
            rfl
           ·have hn11 : ¬ x.doo = 11 := by (simp at h105; omega)
            refine jN 8 ?_
            refine WC.cond rfl (fun h111 => ?_) (fun h111 => ?_)
            ·have hd : x.doo = 12 := by (simp at h111; omega)
             refine jN 15 ?_
             refine jC (β := SX (L) (fun z => z.v = featL x.f ∧ ∀ N, z.has N = (decide (x.i ≤ ((featL (confN z.v (hasN z.v N))).length : Int)) && decide (((featL (confN z.v (hasN z.v N))).length : Int) ≤ x.j)))) (res := fun y => y.1.1.val) (cs := fun y => [rwC y.1.2.1 y.1.2.2]) F.fun120 rfl (fun w hS _ => (rBetween_s x.f x.i x.j hw.f L w).mono (fun e w2 h => h.sx)) (fun y => ?_)
             refine jN 9 ?_
             refine WQ.ret (rs := [.cell 4 44, .tmp 5]) rfl (.cellN F.agg44 rfl jM rfl (.tmp rfl .nil)) (fun w hS => ?_)
             refine SaidP.of y _ (fun hg hq => ?_) (jK hS)
             intro cf M hM
             rw [rel_between hg hq.1 hq.2 cf M hM]
             simp only [opD, hd]
             rfl
            ·have hn12 : ¬ x.doo = 12 := by (simp at h111; omega)
             refine jN 8 ?_
             refine WC.cond rfl (fun h120 => ?_) (fun h120 => ?_)
             ·have hd : x.doo = 13 := by (simp at h120; omega)
              refine jN 15 ?_
              refine jC (β := SaidX L (fun z => RelS z (fun cf => costsB x.l && (decide (1 ≤ x.rel ∧ x.rel ≤ 3) && relB x.rel (tailN x.l cf 24) x.bound)))) (res := fun y => .tuple #[y.1.1.val, .int .i64 y.1.2.2.2]) (cs := fun y => [rwC y.1.2.1 y.1.2.2.1]) F.fun121 rfl (fun w hS _ => (rLinear_s x.l x.rel x.bound (by omega) x.la x.lc L w (RdC.nextO hrl hS)).mono (fun e w2 h => h.sx)) (fun y => ?_)
              refine jN 13 ?_
              refine WQ.ret (rs := [.cell 4 44, .tmp 5]) rfl (.cellN F.agg44 rfl jM rfl (.tmp rfl .nil)) (fun w hS => ?_)
              refine ⟨y.1.1, _, _, _, y.2.1, ?_, y.2.2.2, rfl, (jK hS)⟩
              intro cf M hM
              rw [y.2.2.1 cf M hM]
              simp only [opD, hd, linD]
              rfl
             ·have hn13 : ¬ x.doo = 13 := by (simp at h120; omega)
              refine jN 9 ?_
              refine WC.splitB (i := 131) rfl (fun h131 => ?_) (fun h131 => ?_)
              ·refine jN 1 ?_
               have hd : x.doo = 14 := by (simp at h131; omega)
               refine jN 11 ?_
               refine WA.say 136 (.bool true) (by rw [hd]; rfl) ?_
               refine jN 1 ?_
               refine jC (β := SX (L) (fun z => z.v = [] ∧ ∀ M, z.has M = true)) (res := fun y => y.1.1.val) (cs := fun y => [rwC y.1.2.1 y.1.2.2]) F.fun50 rfl (fun w hS _ => (rConst_s true L w).mono (fun e w2 h => h.sx)) (fun y => ?_)
               refine jN 1 ?_
               refine WL.alloc F.zero44 rfl (fun b9 => ?_)
               refine jN 12 ?_
               refine WC.chunks (C' := [pt b9 (scl y.1.1) 44, rwC y.1.2.1 y.1.2.2, pt b2 x.cells 92, pt b4 [.slice none 0 0, .slice none 0 0] 44]) (fun w hS => (jK hS)) ?_
               refine WC.loop (α := AllG) (fun g => g.i ≤ ss.length ∧ g.z.good ∧ g.z.among (L ++ g.M) ∧ RelS g.z (fun cf => (eD.take g.i).all (fun e => e cf))) (fun g => [(1, .slice (some ⟨bs, os, none⟩) ss.length c), (2, pp b2), (4, pp b4), (9, pp b9), (10, .int .i64 (g.i : Int))]) (fun g => [pt b9 (scl g.z) 44, rwC g.F g.M, pt b2 x.cells 92, pt b4 [.slice none 0 0, .slice none 0 0] 44]) (fun g => ss.length - g.i) (⟨0, y.1.1, y.1.2.1, y.1.2.2⟩) ?_ ?_ ?_ ?_
               ·exact ⟨Nat.zero_le _, y.2.1, y.2.2.2, fun cf M _ => by rw [y.2.2.1.2]; rfl⟩
               ·exact ⟨rfl, rfl, rfl, rfl, rfl, trivial⟩
               ·rfl
               rintro ⟨i, z, F9, M9⟩ ⟨hi, hgz, haz, hrz⟩
               dsimp only at hi hgz haz hrz
               show WC _ _ _ _ _ _ _ [(1, .slice (some ⟨bs, os, none⟩) ss.length c), (2, pp b2), (4, pp b4), (9, pp b9), (10, .int .i64 (i : Int))] [pt b9 (scl z) 44, rwC F9 M9, pt b2 x.cells 92, pt b4 [.slice none 0 0, .slice none 0 0] 44]
               refine jN 13 ?_
               refine WC.cond rfl (fun h141 => ?_) (fun h141 => ?_)
               ·have hlt : i < ss.length := by simpa using h141
                obtain ⟨s, hs⟩ : ∃ s, ss[i]? = some s := ⟨_, List.getElem?_eq_getElem hlt⟩
                obtain ⟨e, he⟩ : ∃ e, eD[i]? = some e := ⟨_, List.getElem?_eq_getElem (by rw [← hRL.len]; exact hlt)⟩
                have hrs := hRL.at' i s e hs he
                obtain ⟨hgs, has⟩ := hgd s (List.mem_of_getElem? hs)
                refine jN 14 ?_
                refine WC.cond rfl (fun h146 => ?_) (fun h146 => ?_)
                ·refine WC.drawsL (by kernel_rfl) (FactsOk.cons (ds := [5, 6]) (LoadOk.whole (t := 9) rfl jM) (FactsOk.cons (ds := [5, 6]) (LoadOk.by (Y := fun w => ∀ j v, (scl s)[j]? = some v → w.cell? ⟨bs, os + i * 2 + j, none⟩ = some v) (fun w hS => fun j v hv => hS.oldc (hsc _ _ hs j v hv) (by simp))) (FactsOk.nil))) ?_
                 refine jF 0 0 rfl rfl (Yl.loadN F.agg44 rfl rfl) ?_
                 refine jT 1 rfl (Yl.move rfl) ?_
                 refine jT 2 rfl (Yl.move rfl) ?_
                 refine jT 3 rfl (Yl.indexAddr (i := i) F.sl49 rfl rfl hlt) ?_
                 refine jF 4 1 rfl rfl (Yl.loadN F.agg44 rfl rfl) ?_
                 refine jA 5 rfl ?_
                 refine jC (β := SX (L ++ M9) (fun q => q.v = featL (numN z.v ||| numN s.v) ∧ ∀ M, q.has M = (z.has M && s.has M))) (res := fun y => y.1.1.val) (cs := fun y => [rwC y.1.2.1 y.1.2.2]) F.fun115 rfl (fun w hS _ => (rAnd_s z s hgz hgs (L ++ M9) haz (has.mono fun q hq => List.mem_append_left _ hq) w (rows_more hL hS jM)).mono (fun e w2 h => h.sx)) (fun y2 => ?_)
                 refine jG ?_
                 refine jA 6 rfl ?_
                 refine WL.storeN F.agg44 rfl rfl rfl jO jU jS ?_
                 refine jG ?_
                 refine jD ?_
                 refine jN 10 ?_
                 have hst : RelS y2.1.1 (fun cf => (eD.take (i + 1)).all (fun e => e cf)) := fun cf M hM => by
                  rw [y2.2.2.1.2, hrz cf M hM, hrs cf M hM]; exact (takeD_all he cf).symm
                 refine WQ.chunks (C' := [pt b9 (scl y2.1.1) 44, rwC (F9 ++ y2.1.2.1) (M9 ++ y2.1.2.2), pt b2 x.cells 92, pt b4 [.slice none 0 0, .slice none 0 0] 44]) (fun w hS => ?_) ?_
                 ·have hS1 := St.rwJoin (St.pick (St.pick hS (c := rwC y2.1.2.1 y2.1.2.2) jR) (c := rwC F9 M9) jR)
                  exact (jK hS1)
                 refine WQ.back (⟨i + 1, y2.1.1, F9 ++ y2.1.2.1, M9 ++ y2.1.2.2⟩) ?_ ?_ ?_ ?_
                 ·exact ⟨by (show i + 1 ≤ ss.length; omega), y2.2.1, (by rw [← List.append_assoc]; exact y2.2.2.2), hst⟩
                 ·(show ss.length - (i + 1) < ss.length - i; omega)
                 ·exact ⟨rfl, rfl, rfl, rfl, rfl, trivial⟩
                 ·rfl
                ·exfalso; rw [hd] at h146; simp at h146
               ·have hie : i = ss.length := by simp at h141; omega
                subst hie
                rw [hRL.len, List.take_length] at hrz
                refine jN 18 ?_
                refine WQ.ret (rs := [.cell 4 44, .tmp 5]) rfl (.cellN F.agg44 rfl jM rfl (.tmp rfl .nil)) (fun w hS => ?_)
                refine ⟨z, F9, M9, 0, hgz, ?_, haz, rfl, (jK hS)⟩
                intro cf M hM
                rw [hrz cf M hM]
                simp only [opD, hd]
                rfl
              ·refine jN 1 ?_
               have hn14 : ¬ x.doo = 14 := by (simp at h131; omega)
               refine jN 7 ?_
               refine WC.splitB (i := 131) rfl (fun h131b => ?_) (fun h131b => ?_)
               ·refine jN 1 ?_
                have hd : x.doo = 15 := by (simp at h131b; omega)
                refine jN 8 ?_
                refine WA.say 136 (.bool false) (by rw [hd]; rfl) ?_
                refine jN 1 ?_
                refine jC (β := SX (L) (fun z => z.v = [] ∧ ∀ M, z.has M = false)) (res := fun y => y.1.1.val) (cs := fun y => [rwC y.1.2.1 y.1.2.2]) F.fun50 rfl (fun w hS _ => (rConst_s false L w).mono (fun e w2 h => h.sx)) (fun y => ?_)
                refine jN 1 ?_
                refine WL.alloc F.zero44 rfl (fun b9 => ?_)
                refine jN 12 ?_
                refine WC.chunks (C' := [pt b9 (scl y.1.1) 44, rwC y.1.2.1 y.1.2.2, pt b2 x.cells 92, pt b4 [.slice none 0 0, .slice none 0 0] 44]) (fun w hS => (jK hS)) ?_
                refine WC.loop (α := AllG) (fun g => g.i ≤ ss.length ∧ g.z.good ∧ g.z.among (L ++ g.M) ∧ RelS g.z (fun cf => (eD.take g.i).any (fun e => e cf))) (fun g => [(1, .slice (some ⟨bs, os, none⟩) ss.length c), (2, pp b2), (4, pp b4), (9, pp b9), (10, .int .i64 (g.i : Int))]) (fun g => [pt b9 (scl g.z) 44, rwC g.F g.M, pt b2 x.cells 92, pt b4 [.slice none 0 0, .slice none 0 0] 44]) (fun g => ss.length - g.i) (⟨0, y.1.1, y.1.2.1, y.1.2.2⟩) ?_ ?_ ?_ ?_
                ·exact ⟨Nat.zero_le _, y.2.1, y.2.2.2, fun cf M _ => by rw [y.2.2.1.2]; rfl⟩
                ·exact ⟨rfl, rfl, rfl, rfl, rfl, trivial⟩
                ·rfl
                rintro ⟨i, z, F9, M9⟩ ⟨hi, hgz, haz, hrz⟩
                dsimp only at hi hgz haz hrz
                show WC _ _ _ _ _ _ _ [(1, .slice (some ⟨bs, os, none⟩) ss.length c), (2, pp b2), (4, pp b4), (9, pp b9), (10, .int .i64 (i : Int))] [pt b9 (scl z) 44, rwC F9 M9, pt b2 x.cells 92, pt b4 [.slice none 0 0, .slice none 0 0] 44]
                refine jN 13 ?_
                refine WC.cond rfl (fun h141 => ?_) (fun h141 => ?_)
                ·have hlt : i < ss.length := by simpa using h141
                 obtain ⟨s, hs⟩ : ∃ s, ss[i]? = some s := ⟨_, List.getElem?_eq_getElem hlt⟩
                 obtain ⟨e, he⟩ : ∃ e, eD[i]? = some e := ⟨_, List.getElem?_eq_getElem (by rw [← hRL.len]; exact hlt)⟩
                 have hrs := hRL.at' i s e hs he
                 obtain ⟨hgs, has⟩ := hgd s (List.mem_of_getElem? hs)
                 refine jN 14 ?_
                 refine WC.cond rfl (fun h146 => ?_) (fun h146 => ?_)
                 ·exfalso; rw [hd] at h146; simp at h146
                 ·refine WC.drawsL (by kernel_rfl) (FactsOk.cons (ds := [5, 6]) (LoadOk.whole (t := 9) rfl jM) (FactsOk.cons (ds := [5, 6]) (LoadOk.by (Y := fun w => ∀ j v, (scl s)[j]? = some v → w.cell? ⟨bs, os + i * 2 + j, none⟩ = some v) (fun w hS => fun j v hv => hS.oldc (hsc _ _ hs j v hv) (by simp))) (FactsOk.nil))) ?_
                  refine jF 0 0 rfl rfl (Yl.loadN F.agg44 rfl rfl) ?_
                  refine jT 1 rfl (Yl.move rfl) ?_
                  refine jT 2 rfl (Yl.move rfl) ?_
                  refine jT 3 rfl (Yl.indexAddr (i := i) F.sl49 rfl rfl hlt) ?_
                  refine jF 4 1 rfl rfl (Yl.loadN F.agg44 rfl rfl) ?_
                  refine jA 5 rfl ?_
                  refine jC (β := SX (L ++ M9) (fun q => q.v = featL (numN z.v ||| numN s.v) ∧ ∀ M, q.has M = (z.has M || s.has M))) (res := fun y => y.1.1.val) (cs := fun y => [rwC y.1.2.1 y.1.2.2]) F.fun116 rfl (fun w hS _ => (rOr_s z s hgz hgs (L ++ M9) haz (has.mono fun q hq => List.mem_append_left _ hq) w (rows_more hL hS jM)).mono (fun e w2 h => h.sx)) (fun y2 => ?_)
                  refine jG ?_
                  refine jA 6 rfl ?_
                  refine WL.storeN F.agg44 rfl rfl rfl jO jU jS ?_
                  refine jG ?_
                  refine jD ?_
                  refine jN 10 ?_
                  have hst : RelS y2.1.1 (fun cf => (eD.take (i + 1)).any (fun e => e cf)) := fun cf M hM => by
                   rw [y2.2.2.1.2, hrz cf M hM, hrs cf M hM]; exact (takeD_any he cf).symm
                  refine WQ.chunks (C' := [pt b9 (scl y2.1.1) 44, rwC (F9 ++ y2.1.2.1) (M9 ++ y2.1.2.2), pt b2 x.cells 92, pt b4 [.slice none 0 0, .slice none 0 0] 44]) (fun w hS => ?_) ?_
                  ·have hS1 := St.rwJoin (St.pick (St.pick hS (c := rwC y2.1.2.1 y2.1.2.2) jR) (c := rwC F9 M9) jR)
                   exact (jK hS1)
                  refine WQ.back (⟨i + 1, y2.1.1, F9 ++ y2.1.2.1, M9 ++ y2.1.2.2⟩) ?_ ?_ ?_ ?_
                  ·exact ⟨by (show i + 1 ≤ ss.length; omega), y2.2.1, (by rw [← List.append_assoc]; exact y2.2.2.2), hst⟩
                  ·(show ss.length - (i + 1) < ss.length - i; omega)
                  ·exact ⟨rfl, rfl, rfl, rfl, rfl, trivial⟩
                  ·rfl
                ·have hie : i = ss.length := by simp at h141; omega
                 subst hie
                 rw [hRL.len, List.take_length] at hrz
                 refine jN 18 ?_
                 refine WQ.ret (rs := [.cell 4 44, .tmp 5]) rfl (.cellN F.agg44 rfl jM rfl (.tmp rfl .nil)) (fun w hS => ?_)
                 refine ⟨z, F9, M9, 0, hgz, ?_, haz, rfl, (jK hS)⟩
                 intro cf M hM
                 rw [hrz cf M hM]
                 simp only [opD, hd]
                 rfl
               ·refine jN 1 ?_
                have hn15 : ¬ x.doo = 15 := by (simp at h131b; omega)
                refine jN 6 ?_
                refine jC (β := SX (L) (fun z => z.v = [] ∧ ∀ M, z.has M = false)) (res := fun y => y.1.1.val) (cs := fun y => [rwC y.1.2.1 y.1.2.2]) F.fun50 rfl (fun w hS _ => (rConst_s false L w).mono (fun e w2 h => h.sx)) (fun y => ?_)
                refine jN 7 ?_
                refine WQ.ret (rs := [.cell 4 44, .tmp 5]) rfl (.cellN F.agg44 rfl jM rfl (.tmp rfl .nil)) (fun w hS => ?_)
                refine SaidP.of y _ (fun hg hq => ?_) (jK hS)
                intro cf M hM
                rw [hq.2]
                simp only [opD, hn1, hn2, hn3, hn4, hn5, hn6, hn7, hn8, hn9, hn10, hn11, hn12, hn13, hn14, hn15]
                simp

end Go.Proofs.YtkgllhkhdjodeaaGreat

namespace Go.Proofs.YtkgllhkhdjodeaaGreat
open Go Go.Eng Go.Proofs Dg
structure BothG where
 i : Nat
 ds : List DV
 sa : Option Addr
 sc : Nat
 F : List Nat
 ss : List SV
 ta : Option Addr
 tc : Nat
 G : List Nat
 M : List RowV
 b : Bool
/-- The sets that a script makes, in both ways. -/
structure BothZ (l : List OpV) (z : BothG) : Prop where
 ev : evs' z.ds = mkD l
 len : z.ds.length = l.length + 1
 rel : RelL z.ss (mkD l)
 gd : ∀ s ∈ z.ss, s.good ∧ s.among z.M

set_option maxRecDepth 100000 in
theorem Both_c (l : List OpV) (a : Option Addr) (c : Nat) (hwf : ∀ x ∈ l, x.wf) (hl12 : l.length ≤ 12) (f : Nat) (hin : ∀ x ∈ l, OpIn x f ∧ x.l.length ≤ 40) (w : World) (hr : RdOps w l a) :
  Calls Tryz.prog 19 [.slice a l.length c].toArray w fun e w' => ∃ z : { z : BothG // BothZ l z }, e = .returned (.tuple #[.slice z.1.sa z.1.ds.length z.1.sc, .slice z.1.ta z.1.ss.length z.1.tc, .bool z.1.b]) ∧ St w [] [rowc (.slice z.1.sa z.1.ds.length z.1.sc) z.1.ds.length 35 2 (dcs z.1.ds), dsC z.1.F z.1.ds, rowc (.slice z.1.ta z.1.ss.length z.1.tc) z.1.ss.length 44 2 (svs z.1.ss), rwC z.1.G z.1.M] w' := by
 refine enter Tryz.func19 rfl Tryz.ntmps19 rfl (St.init _) ?_
 refine jN 15 ?_
 refine WL.buildSlice F.sl48 F.ez48 rfl rfl rfl rfl jB rfl (fun b14 => ?_)
 refine jN 7 ?_
 refine jC (β := SX ([]) (fun z => z.v = [] ∧ ∀ M, z.has M = false)) (res := fun y => y.1.1.val) (cs := fun y => [rwC y.1.2.1 y.1.2.2]) F.fun50 rfl (fun w hS _ => (rConst_s false [] w).mono (fun e w2 h => h.sx)) (fun y => ?_)
 refine jN 1 ?_
 refine WL.buildSlice F.sl49 F.ez49 rfl rfl rfl rfl jB rfl (fun b16 => ?_)
 refine jN 18 ?_
 have hR0 : RelL [y.1.1] (mkD (l.take 0)) := by
  rw [List.take_zero]
  refine ⟨rfl, fun i s e h1 h2 => ?_⟩
  have hi0 : i = 0 := by have := (List.getElem?_eq_some_iff.1 h1).1; simp at this; exact this
  subst hi0
  cases h1
  cases h2
  intro cf M hM
  exact y.2.2.1.2 M
 have hG0 : ∀ s ∈ [y.1.1], s.good ∧ s.among y.1.2.2 := fun s hs => by rw [List.mem_singleton.1 hs]; exact ⟨y.2.1, y.2.2.2⟩
 refine WC.chunks (C' := [rowc (.slice (⟨0, [(.lf false, none, 0)], some ⟨b14, 0, none⟩, 1, [], [y.1.1], some ⟨b16, 0, none⟩, 1, y.1.2.1, y.1.2.2, true⟩ : BothG).sa (⟨0, [(.lf false, none, 0)], some ⟨b14, 0, none⟩, 1, [], [y.1.1], some ⟨b16, 0, none⟩, 1, y.1.2.1, y.1.2.2, true⟩ : BothG).ds.length (⟨0, [(.lf false, none, 0)], some ⟨b14, 0, none⟩, 1, [], [y.1.1], some ⟨b16, 0, none⟩, 1, y.1.2.1, y.1.2.2, true⟩ : BothG).sc) (⟨0, [(.lf false, none, 0)], some ⟨b14, 0, none⟩, 1, [], [y.1.1], some ⟨b16, 0, none⟩, 1, y.1.2.1, y.1.2.2, true⟩ : BothG).ds.length 35 2 (dcs (⟨0, [(.lf false, none, 0)], some ⟨b14, 0, none⟩, 1, [], [y.1.1], some ⟨b16, 0, none⟩, 1, y.1.2.1, y.1.2.2, true⟩ : BothG).ds), dsC (⟨0, [(.lf false, none, 0)], some ⟨b14, 0, none⟩, 1, [], [y.1.1], some ⟨b16, 0, none⟩, 1, y.1.2.1, y.1.2.2, true⟩ : BothG).F (⟨0, [(.lf false, none, 0)], some ⟨b14, 0, none⟩, 1, [], [y.1.1], some ⟨b16, 0, none⟩, 1, y.1.2.1, y.1.2.2, true⟩ : BothG).ds, rowc (.slice (⟨0, [(.lf false, none, 0)], some ⟨b14, 0, none⟩, 1, [], [y.1.1], some ⟨b16, 0, none⟩, 1, y.1.2.1, y.1.2.2, true⟩ : BothG).ta (⟨0, [(.lf false, none, 0)], some ⟨b14, 0, none⟩, 1, [], [y.1.1], some ⟨b16, 0, none⟩, 1, y.1.2.1, y.1.2.2, true⟩ : BothG).ss.length (⟨0, [(.lf false, none, 0)], some ⟨b14, 0, none⟩, 1, [], [y.1.1], some ⟨b16, 0, none⟩, 1, y.1.2.1, y.1.2.2, true⟩ : BothG).tc) (⟨0, [(.lf false, none, 0)], some ⟨b14, 0, none⟩, 1, [], [y.1.1], some ⟨b16, 0, none⟩, 1, y.1.2.1, y.1.2.2, true⟩ : BothG).ss.length 44 2 (svs (⟨0, [(.lf false, none, 0)], some ⟨b14, 0, none⟩, 1, [], [y.1.1], some ⟨b16, 0, none⟩, 1, y.1.2.1, y.1.2.2, true⟩ : BothG).ss), rwC (⟨0, [(.lf false, none, 0)], some ⟨b14, 0, none⟩, 1, [], [y.1.1], some ⟨b16, 0, none⟩, 1, y.1.2.1, y.1.2.2, true⟩ : BothG).G (⟨0, [(.lf false, none, 0)], some ⟨b14, 0, none⟩, 1, [], [y.1.1], some ⟨b16, 0, none⟩, 1, y.1.2.1, y.1.2.2, true⟩ : BothG).M]) (fun w hS => ?_) ?_
 ·have hS1 := St.dsZero (St.rowOf (n := 1) (sz := 2) ((St.pick hS (c := pt b14 [.slice none 0 0, .int .i64 0] 35) jR)) rfl (by decide))
  have hS2 := St.rowOf (n := 1) (sz := 2) ((St.pick hS1 (c := pt b16 (scl y.1.1) 44) jR)) rfl (by decide)
  exact (jK hS2)
 refine WC.loop (α := BothG) (fun g => g.i ≤ l.length ∧ g.ds.length = g.i + 1 ∧ evs' g.ds = mkD (l.take g.i) ∧ RelL g.ss (mkD (l.take g.i)) ∧ ∀ s ∈ g.ss, s.good ∧ s.among g.M) (fun g => [(0, .slice a l.length c), (5, .slice g.sa g.ds.length g.sc), (6, .slice g.ta g.ss.length g.tc), (7, .bool g.b), (8, .int .i64 (g.i : Int))]) (fun g => [rowc (.slice g.sa g.ds.length g.sc) g.ds.length 35 2 (dcs g.ds), dsC g.F g.ds, rowc (.slice g.ta g.ss.length g.tc) g.ss.length 44 2 (svs g.ss), rwC g.G g.M]) (fun g => l.length - g.i) (⟨0, [(.lf false, none, 0)], some ⟨b14, 0, none⟩, 1, [], [y.1.1], some ⟨b16, 0, none⟩, 1, y.1.2.1, y.1.2.2, true⟩) ?_ ?_ ?_ ?_
 ·exact ⟨Nat.zero_le _, rfl, rfl, hR0, hG0⟩
 ·exact ⟨rfl, rfl, rfl, rfl, rfl, trivial⟩
 ·rfl
 rintro ⟨i, ds, sa, sc, F9, ss, ta, tc, G, M, b⟩ ⟨hi, hdl, hev, hRL, hgd⟩
 dsimp only at hi hdl hev hRL hgd
 show WC _ _ _ _ _ _ _ [(0, .slice a l.length c), (5, .slice sa ds.length sc), (6, .slice ta ss.length tc), (7, .bool b), (8, .int .i64 (i : Int))] [rowc (.slice sa ds.length sc) ds.length 35 2 (dcs ds), dsC F9 ds, rowc (.slice ta ss.length tc) ss.length 44 2 (svs ss), rwC G M]
 have hsl : ss.length = i + 1 := by rw [hRL.len, ← hev]; unfold evs'; rw [List.length_map, hdl]
 refine jN 13 ?_
 refine WC.cond rfl (fun h20 => ?_) (fun h20 => ?_)
 ·have hlt : i < l.length := by simpa using h20
  obtain ⟨x, hx⟩ : ∃ x, l[i]? = some x := ⟨_, List.getElem?_eq_getElem hlt⟩
  obtain ⟨⟨bq, oq, ha, hcell⟩, hrc⟩ := hr i x hx
  subst ha
  have hw := hwf x (List.mem_of_getElem? hx)
  obtain ⟨_, hl40⟩ := hin x (List.mem_of_getElem? hx)
  refine jN 11 ?_
  refine WL.indexAddr F.sl46 rfl rfl rfl hlt ?_
  refine jN 1 ?_
  refine WL.loadN F.agg92 rfl rfl (vs := x.cells) rfl (fun w hS j u hu => hS.oldc (hcell j u hu) (by simp)) ?_
  refine jN 3 ?_
  refine jC (β := OneX ds (opD x (evs' ds))) (res := fun y => .tuple #[dval y.1.1.x.1 y.1.1.x.2.1 y.1.1.x.2.2, .int .i64 y.1.2]) (cs := fun y => [dsC y.1.1.F y.1.1.Bs]) F.fun51 rfl (fun w hS _ => (opOne_c x hw hl40 ds sa sc (by omega) (by omega) w (RdDL.of_row rfl (hS.ok (rowc (.slice sa ds.length sc) ds.length 35 2 (dcs ds)) jM) (hS.ok (dsC F9 ds) jM)) (RdC.nextO hrc hS)).mono (fun e w2 ⟨y, k, h1, h2, h3, h4, h5⟩ => ⟨⟨(y, k), h1, h2, h3⟩, h4, h5⟩)) (fun ⟨⟨y, k⟩, hy1, hy2, hy3⟩ => ?_)
  refine jN 7 ?_
  refine WL.alloc F.zero35 rfl (fun b9 => ?_)
  refine jN 13 ?_
  refine WL.indexAddr F.sl46 rfl rfl rfl hlt ?_
  refine jN 1 ?_
  refine WL.loadN F.agg92 rfl rfl (vs := x.cells) rfl (fun w hS j u hu => hS.oldc (hcell j u hu) (by simp)) ?_
  refine jN 3 ?_
  refine jC (β := SaidX M (fun q => RelS q (opD x (mkD (l.take i))))) (res := fun z => .tuple #[z.1.1.val, .int .i64 z.1.2.2.2]) (cs := fun z => [rwC z.1.2.1 z.1.2.2.1]) F.fun52 rfl (fun w hS _ => (Said_c x hw hl40 ss (mkD (l.take i)) hRL M hgd ta tc (by omega) (by omega) w (RdSL.of_row rfl (hS.ok (rowc (.slice ta ss.length tc) ss.length 44 2 (svs ss)) jM)) (fun q hq => rwC_rd (hS.ok (rwC G M) jM) hq) (RdC.nextO hrc hS)).mono (fun e w2 h => h.sx)) (fun z => ?_)
  refine jN 7 ?_
  refine WL.alloc F.zero44 rfl (fun b11 => ?_)
  refine jN 7 ?_
  refine WC.cutFE (α := Bool) (fun xE => [(0, .slice (some ⟨bq, oq, none⟩) l.length c), (5, .slice sa ds.length sc), (6, .slice ta ss.length tc), (7, .bool xE), (8, .int .i64 (i : Int)), (9, pp b9), (11, pp b11)]) (fun xE => [pt b11 (scl z.1.1) 44, rwC z.1.2.1 z.1.2.2.1, pt b9 (dvl y.x) 35, dsC y.F y.Bs, rowc (.slice sa ds.length sc) ds.length 35 2 (dcs ds), dsC F9 ds, rowc (.slice ta ss.length tc) ss.length 44 2 (svs ss), rwC G M]) (fun Q' hQ => ?_) (fun xE => ?_)
  ·refine jN 5 ?_
   refine WA.splitB (i := 42) rfl (fun g42 => ?_) (fun g42 => ?_)
   ·refine jN 14 ?_
    refine WQ.chunks (C' := [pt b11 (scl z.1.1) 44, rwC z.1.2.1 z.1.2.2.1, pt b9 (dvl y.x) 35, dsC y.F y.Bs, rowc (.slice sa ds.length sc) ds.length 35 2 (dcs ds), dsC F9 ds, rowc (.slice ta ss.length tc) ss.length 44 2 (svs ss), rwC G M]) (fun w hS => (jK hS)) ?_
    first | exact WQ.byCut (hQ (k == z.1.2.2.2)) ⟨rfl, rfl, rfl, rfl, rfl, rfl, rfl, trivial⟩ | exact WQ.byCut (hQ false) ⟨rfl, rfl, rfl, rfl, rfl, rfl, rfl, trivial⟩
   ·refine jN 11 ?_
    refine WQ.chunks (C' := [pt b11 (scl z.1.1) 44, rwC z.1.2.1 z.1.2.2.1, pt b9 (dvl y.x) 35, dsC y.F y.Bs, rowc (.slice sa ds.length sc) ds.length 35 2 (dcs ds), dsC F9 ds, rowc (.slice ta ss.length tc) ss.length 44 2 (svs ss), rwC G M]) (fun w hS => (jK hS)) ?_
    first | exact WQ.byCut (hQ (k == z.1.2.2.2)) ⟨rfl, rfl, rfl, rfl, rfl, rfl, rfl, trivial⟩ | exact WQ.byCut (hQ false) ⟨rfl, rfl, rfl, rfl, rfl, rfl, rfl, trivial⟩
  show WQ _ _ _ _ _ _ [(0, .slice (some ⟨bq, oq, none⟩) l.length c), (5, .slice sa ds.length sc), (6, .slice ta ss.length tc), (7, .bool xE), (8, .int .i64 (i : Int)), (9, pp b9), (11, pp b11)] [pt b11 (scl z.1.1) 44, rwC z.1.2.1 z.1.2.2.1, pt b9 (dvl y.x) 35, dsC y.F y.Bs, rowc (.slice sa ds.length sc) ds.length 35 2 (dcs ds), dsC F9 ds, rowc (.slice ta ss.length tc) ss.length 44 2 (svs ss), rwC G M]
  refine jN 8 ?_
  refine WL.buildSlice F.sl48 F.ez48 rfl rfl rfl rfl jB rfl (fun b49 => ?_)
  refine jN 1 ?_
  refine WL.appendE (news := dvl y.x) F.el48 rfl rfl rfl jR (fun w hS jj u hu => by rw [Nat.zero_add]; exact hS.cell (cs := dvl y.x) jM hu) rfl (by simp [dvl, Value.oneCell']) (Nat.le_trans (m := 1000) (by omega) (by decide)) (by omega) (fun a2 c2 => ?_)
  refine jN 10 ?_
  refine WL.buildSlice F.sl49 F.ez49 rfl rfl rfl rfl jB rfl (fun b53 => ?_)
  refine jN 1 ?_
  refine WL.appendE (news := scl z.1.1) F.el49 rfl rfl rfl jR (fun w hS jj u hu => by rw [Nat.zero_add]; exact hS.cell (cs := scl z.1.1) jM hu) rfl jO (Nat.le_trans (m := 1000) (by omega) (by decide)) (by omega) (fun a3 c3 => ?_)
  refine jN 13 ?_
  have e9 := snoc_len ds y.x
  have e7 := snoc_len ss z.1.1
  refine WQ.chunks (C' := [rowc (.slice a2 (ds ++ [y.x]).length c2) (ds ++ [y.x]).length 35 2 (dcs (ds ++ [y.x])), dsC (F9 ++ y.F) (ds ++ [y.x]), rowc (.slice a3 (ss ++ [z.1.1]).length c3) (ss ++ [z.1.1]).length 44 2 (svs (ss ++ [z.1.1])), rwC (G ++ z.1.2.1) (M ++ z.1.2.2.1)]) (fun w hS => ?_) ?_
  ·have hS1 := St.dsSub (m := ds ++ [y.x]) (St.dsJoin (St.pick (St.pick hS (c := dsC y.F y.Bs) jR) (c := dsC F9 ds) jR)) (fun z hz => (List.mem_append.1 hz).elim (fun h => List.mem_append_left _ h) (fun h => by rw [List.mem_singleton.1 h]; exact hy1.elim (fun h => List.mem_append_left _ h) (fun h => List.mem_append_right _ h)))
   have hS2 := St.rwJoin (St.pick (St.pick hS1 (c := rwC z.1.2.1 z.1.2.2.1) jR) (c := rwC G M) jR)
   have e8 : rowc (.slice a2 (ds ++ [y.x]).length c2) (ds ++ [y.x]).length 35 2 (dcs (ds ++ [y.x])) = rowc (.slice a2 (ds.length + 1) c2) (ds.length + 1) 35 2 (dcs ds ++ dvl y.x) := by rw [e9, dcs_append]; simp [dcs]
   have e6 : rowc (.slice a3 (ss ++ [z.1.1]).length c3) (ss ++ [z.1.1]).length 44 2 (svs (ss ++ [z.1.1])) = rowc (.slice a3 (ss.length + 1) c3) (ss.length + 1) 44 2 (svs ss ++ scl z.1.1) := by rw [e7, svs_append, svs_one]
   rw [e8, e6]
   exact (jK hS2)
  refine WQ.say 5 (.slice a2 (ds ++ [y.x]).length c2) (by rw [e9]; rfl) ?_
  refine WQ.say 6 (.slice a3 (ss ++ [z.1.1]).length c3) (by rw [e7]; rfl) ?_
  have hR2 : RelL (ss ++ [z.1.1]) (mkD (l.take (i + 1))) := by rw [mkD_take hx]; exact hRL.snoc z.2.2.1
  have hG2 : ∀ s ∈ ss ++ [z.1.1], s.good ∧ s.among (M ++ z.1.2.2.1) := fun s hs => by
   rcases List.mem_append.1 hs with h | h
   ·exact ⟨(hgd s h).1, (hgd s h).2.mono fun q hq => List.mem_append_left _ hq⟩
   ·rw [List.mem_singleton.1 h]; exact ⟨z.2.1, z.2.2.2⟩
  refine WQ.back (⟨i + 1, ds ++ [y.x], a2, c2, F9 ++ y.F, ss ++ [z.1.1], a3, c3, G ++ z.1.2.1, M ++ z.1.2.2.1, xE⟩) ?_ ?_ ?_ ?_
  ·exact ⟨by (show i + 1 ≤ l.length; omega), by (show (ds ++ [y.x]).length = i + 1 + 1; omega), mk_step hx hev hy3, hR2, hG2⟩
  ·(show l.length - (i + 1) < l.length - i; omega)
  ·exact ⟨rfl, rfl, rfl, rfl, rfl, trivial⟩
  ·rfl
 ·have hie : i = l.length := by simp at h20; omega
  subst hie
  rw [List.take_length] at hev hRL
  refine jN 22 ?_
  exact WQ.ret (rs := [.tmp 2, .tmp 3, .tmp 4]) rfl (.tmp rfl (.tmp rfl (.tmp rfl .nil))) (fun w hS => ⟨⟨⟨l.length, ds, sa, sc, F9, ss, ta, tc, G, M, b⟩, ⟨hev, hdl, hRL, hgd⟩⟩, rfl, (jK hS)⟩)

end Go.Proofs.YtkgllhkhdjodeaaGreat

/-! Sets of the document that are those of a tree. -/
namespace Go.Proofs.YtkgllhkhdjodeaaGreat
open Go Go.Eng Go.Proofs Dg
theorem rel_sup {s : SV} {t : BT} (hg : s.good) (ho : t.ok 0) (h : RelS s t.ev) : numN (s.v.filter (difB s.v s.bs)) = supT (canon t).1 := by
 apply Nat.eq_of_testBit_eq
 intro j
 rw [Bool.eq_iff_iff, sup_dep ho]
 have hn := numN_bit j (s.v.filter (difB s.v s.bs)) 0
 rw [Nat.zero_testBit] at hn
 unfold numN
 rw [hn]
 have hat : ∀ (M : Nat) (c : Cf) (on : Bool), Ag c M → s.has (updN M j on) = t.ev (upd c j on) := fun M c on hc => h _ _ fun k hk => by
  rw [upd_bit]
  unfold upd
  split
  ·rfl
  ·exact hc k hk
 constructor
 ·rintro (h9 | h9)
  ·cases h9
  ·obtain ⟨hj, hd⟩ := List.mem_filter.1 h9
   obtain ⟨k, _, hne⟩ := (difB_iff hg.so hg.lt _ j).1 hd
   refine ⟨cfg (confN s.v k), fun e => hne ?_⟩
   have e1 := hat (confN s.v k) (cfg (confN s.v k)) true (fun _ _ => rfl)
   have e2 := hat (confN s.v k) (cfg (confN s.v k)) false (fun _ _ => rfl)
   unfold SV.has at e1 e2
   rw [e1, e2, e]
 ·rintro ⟨c, hc⟩
  obtain ⟨M, hM⟩ := ag_num c
  rw [← hat M c false hM, ← hat M c true hM] at hc
  have hj : j ∈ s.v := Classical.byContradiction fun hnj => hc (by
   unfold SV.has
   rw [hasN_eq s.v (updN M j false) (updN M j true) fun y hy => ?_]
   have : y ≠ j := fun e => hnj (e ▸ hy)
   rw [upd_bit, upd_bit, if_neg this, if_neg this])
  refine .inr (List.mem_filter.2 ⟨hj, (difB_iff hg.so hg.lt _ j).2 ⟨hasN s.v M, hasN_lt _ _, ?_⟩⟩)
  have e1 : ∀ on, s.bs.getD (hasN s.v (updN (confN s.v (hasN s.v M)) j on)) false = s.has (updN M j on) := fun on => by
   unfold SV.has
   rw [hasN_eq s.v _ (updN M j on) fun y hy => ?_]
   rw [upd_bit, upd_bit, conf_bit hg, decide_eq_true hy, Bool.true_and]
  rw [e1, e1]
  exact fun e => hc e.symm
theorem has_at {s : SV} (hg : s.good) {k : Nat} {b : Bool} (h : s.bs[k]? = some b) : s.has (confN s.v k) = b := by
 have hk := (List.getElem?_eq_some_iff.1 h).1
 unfold SV.has
 rw [has_conf s.v k hg.so (by rw [← hg.bl]; exact hk), List.getD_eq_getElem?_getD, h]
 rfl
theorem ev_const {t : BT} (ho : t.ok 0) {b : Bool} (h : ∀ cf, t.ev cf = b) : t = .lf b := BT.unique (m := 0) (n := 0) ho trivial h
theorem rel_none {s : SV} {t : BT} (hg : s.good) (ho : t.ok 0) (h : RelS s t.ev) : (!s.bs.any id) = true ↔ t = .lf false := by
 constructor
 ·intro hb
  refine ev_const ho fun cf => ?_
  obtain ⟨M, hM⟩ := ag_num cf
  rw [← h cf M hM]
  have hk : hasN s.v M < s.bs.length := by rw [hg.bl]; exact hasN_lt _ _
  unfold SV.has
  rw [List.getD_eq_getElem?_getD, List.getElem?_eq_getElem hk]
  show s.bs[hasN s.v M] = false
  cases hq : s.bs[hasN s.v M] with
  | false => rfl
  | true =>
   rw [Bool.not_eq_true'] at hb
   have := (List.any_eq_false.1 hb) _ (List.getElem_mem hk)
   rw [hq] at this
   exact absurd rfl this
 ·rintro rfl
  rw [Bool.not_eq_true', List.any_eq_false]
  intro b hb
  obtain ⟨k, hk⟩ := List.getElem?_of_mem hb
  have := has_at hg hk
  rw [h (cfg (confN s.v k)) _ fun _ _ => rfl] at this
  rw [← this]
  exact Bool.false_ne_true
theorem rel_all {s : SV} {t : BT} (hg : s.good) (ho : t.ok 0) (h : RelS s t.ev) : s.bs.all id = true ↔ t = .lf true := by
 constructor
 ·intro hb
  refine ev_const ho fun cf => ?_
  obtain ⟨M, hM⟩ := ag_num cf
  rw [← h cf M hM]
  have hk : hasN s.v M < s.bs.length := by rw [hg.bl]; exact hasN_lt _ _
  unfold SV.has
  rw [List.getD_eq_getElem?_getD, List.getElem?_eq_getElem hk]
  exact (List.all_eq_true.1 hb) _ (List.getElem_mem hk)
 ·rintro rfl
  rw [List.all_eq_true]
  intro b hb
  obtain ⟨k, hk⟩ := List.getElem?_of_mem hb
  have := has_at hg hk
  rw [h (cfg (confN s.v k)) _ fun _ _ => rfl] at this
  rw [← this]
  rfl
theorem hasVar_ge : ∀ {t : BT} {m x : Nat}, t.ok m → hasVar x t → m ≤ x
 | .lf _, _, _, _, h => h.elim
 | .nd v lo hi, m, x, h, hx => by
  rcases hx with rfl | hx | hx
  ·exact h.1
  ·have := hasVar_ge h.2.2.2.1 hx; have := h.1; omega
  ·have := hasVar_ge h.2.2.2.2 hx; have := h.1; omega
theorem head_min : ∀ {l : List Nat} {v : Nat}, l.Pairwise (· < ·) → v ∈ l → (∀ x ∈ l, v ≤ x) → l[0]? = some v
 | [], _, _, h, _ => by cases h
 | x :: l, v, hp, h, hm => by
  rcases List.mem_cons.1 h with rfl | h
  ·rfl
  ·have h1 := (List.pairwise_cons.1 hp).1 v h
   have h2 := hm x (List.mem_cons_self ..)
   omega
theorem root_feat {v : Nat} {lo hi : BT} (ho : (BT.nd v lo hi).ok 0) : (featL (supT (canon (.nd v lo hi)).1))[0]? = some v := by
 refine head_min (featL_sorted _) (feat_mem.2 ⟨ho.2.1, (sup_var ho v).2 (.inl rfl)⟩) fun x hx => ?_
 rcases (sup_var ho x).1 (feat_mem.1 hx).2 with rfl | h | h
 ·exact Nat.le_refl _
 ·have := hasVar_ge ho.2.2.2.1 h; omega
 ·have := hasVar_ge ho.2.2.2.2 h; omega
theorem updI_upd (c : Cf) (v : Nat) (b : Bool) : updI c (v : Int) b = upd c v b := by
 funext j
 unfold updI upd
 by_cases h : j = v
 ·rw [if_pos h, if_pos (by omega)]
 ·rw [if_neg h, if_neg (by omega)]
theorem rel_kid {z : SV} {v : Nat} {lo hi : BT} (ho : (BT.nd v lo hi).ok 0) {b : Bool} (h : RelS z (fun cf => (BT.nd v lo hi).ev (updI cf (v : Int) b))) : RelS z (bif b then hi else lo).ev := by
 have e : (fun cf => (BT.nd v lo hi).ev (updI cf (v : Int) b)) = (bif b then hi else lo).ev := by
  funext cf
  rw [updI_upd]
  cases b
  ·exact BT.ev_lo ho cf
  ·exact BT.ev_hi ho cf
 rwa [e] at h
theorem ok_kid {v : Nat} {lo hi : BT} (ho : (BT.nd v lo hi).ok 0) (b : Bool) : (bif b then hi else lo).ok 0 := by
 cases b
 ·exact BT.ok_mono ho.2.2.2.1 (Nat.zero_le _)
 ·exact BT.ok_mono ho.2.2.2.2 (Nat.zero_le _)
section
variable {w0 : World} {O : List Nat} {C : List Chunk}
theorem St.stepsJoin {w : World} {F G : List Nat} {vs us : List Value} {l m : List (List Int)} (h : St w0 O (stepsC F vs l :: stepsC G us m :: C) w) : St w0 O (stepsC (F ++ G) (vs ++ us) (l ++ m) :: C) w := by
 refine h.join (fun k hk => ?_) (fun hc hd _ => ?_)
 ·rcases List.mem_append.1 hk with hk | hk
  ·exact .inl hk
  ·exact .inr hk
 ·obtain ⟨h1, h2⟩ := hc
  obtain ⟨h3, h4⟩ := hd
  refine ⟨by simp [h1, h3], fun i c u hc hu => ?_⟩
  by_cases hi : i < l.length
  ·rw [List.getElem?_append_left hi] at hc
   rw [List.getElem?_append_left (by omega)] at hu
   obtain ⟨a1, cap, e1, e2⟩ := h2 i c u hc hu
   exact ⟨a1, cap, e1, fun j x hx => by
    obtain ⟨b, g1, g2, g3⟩ := e2 j x hx
    exact ⟨b, g1, List.mem_append_left _ g2, g3⟩⟩
  ·rw [List.getElem?_append_right (by omega)] at hc
   rw [List.getElem?_append_right (by omega), h1] at hu
   obtain ⟨a1, cap, e1, e2⟩ := h4 _ c u hc hu
   exact ⟨a1, cap, e1, fun j x hx => by
    obtain ⟨b, g1, g2, g3⟩ := e2 j x hx
    exact ⟨b, g1, List.mem_append_right _ g2, g3⟩⟩
theorem steps_heads {w : World} {F : List Nat} {vs : List Value} {l : List (List Int)} (h : (stepsC F vs l).ok w) : vs.length = l.length ∧ ∀ u ∈ vs, u.oneCell' = true := by
 obtain ⟨h1, h2⟩ := h
 refine ⟨h1, fun u hu => ?_⟩
 obtain ⟨i, hi⟩ := List.getElem?_of_mem hu
 have hl := (List.getElem?_eq_some_iff.1 hi).1
 obtain ⟨a1, cap, rfl, _⟩ := h2 i _ u (List.getElem?_eq_getElem (by omega)) hi
 rfl
end
end Go.Proofs.YtkgllhkhdjodeaaGreat

/-
 Clauses of a set: the memory of the walk through its paths.
-/
namespace Go.Proofs.YtkgllhkhdjodeaaGreat
open Go Go.Eng Go.Proofs Dg
theorem FpIs.steps {F : List Nat} {vs : List Value} {ss : List (List Int)} : FpIs (stepsC F vs ss) F := fun k => Iff.rfl
abbrev ints (c : List Int) : List Value := c.map (Value.int .i64)
structure TGr where
 oa : Option Addr
 oc : Nat
 vs : List Value
 Fs : List Nat
 pa : Option Addr
 pc : Nat
abbrev thCs (bo bp : Nat) (out : List (List Int)) (path : List Int) (x : TGr) : List Chunk :=
 [pt bo [.slice x.oa out.length x.oc] 52, rowc (.slice x.oa out.length x.oc) out.length 41 1 x.vs, stepsC x.Fs x.vs out, pt bp [.slice x.pa path.length x.pc] 41, rowc (.slice x.pa path.length x.pc) path.length 3 1 (ints path)]
def thr (F : List Nat) (bo bp : Nat) (out : List (List Int)) (path : List Int) : Chunk := bun F (thCs bo bp out path) (fun _ => True)
theorem St.thrClose {w0 w : World} {O : List Nat} {C : List Chunk} {bo bp n m oc pc : Nat} {out : List (List Int)} {path : List Int} {oa pa : Option Addr} {vs xs : List Value} {Fs : List Nat} (hn : n = out.length) (hm : m = path.length) (hx : xs = ints path)
  (h : St w0 O (pt bo [.slice oa n oc] 52 :: rowc (.slice oa n oc) n 41 1 vs :: stepsC Fs vs out :: pt bp [.slice pa m pc] 41 :: rowc (.slice pa m pc) m 3 1 xs :: C) w) : ∃ F, St w0 O (thr F bo bp out path :: C) w := by
 subst hn; subst hm; subst hx
 exact ⟨_, St.bunClose' (Cs := thCs bo bp out path) ⟨oa, oc, vs, Fs, pa, pc⟩ trivial (.cons FpIs.pt (.cons FpIs.rowc (.cons FpIs.steps (.cons FpIs.pt (.cons FpIs.rowc .nil))))) h⟩
abbrev thF (bo bp bn bt : Nat) : Value := .func (.func 56) [].toArray [pp bo, pp bp, pp bn, pp bt].toArray
structure TEnv (w : World) (F : List Nat) (bo bp bn bt : Nat) (l : List Dec) (a : Option Addr) (c : Nat) : Prop where
 no : w.cell? ⟨bn, 0, none⟩ = some (.slice a l.length c)
 no' : bn ∉ F
 th : w.cell? ⟨bt, 0, none⟩ = some (thF bo bp bn bt)
 th' : bt ∉ F
 rd : RdDecO w l a F
theorem TEnv.next {w0 w : World} {F F' : List Nat} {C1 : List Chunk} {bo bp bn bt c : Nat} {l : List Dec} {a : Option Addr} {out : List (List Int)} {path : List Int} (h : TEnv w0 F bo bp bn bt l a c) (hS : St w0 F ([thr F' bo bp out path] ++ C1) w) : TEnv w F' bo bp bn bt l a c := by
 have hap := fun {z : Nat} (h1 : z < w0.heap.size) (h2 : z ∉ F) => hS.apart (F := F') bun_O2 h1 h2
 refine ⟨hS.oldc h.no h.no', hap (World.block_lt_of_cell? w0 _ h.no) h.no', hS.oldc h.th h.th', hap (World.block_lt_of_cell? w0 _ h.th) h.th', fun j u hu => ?_⟩
 obtain ⟨b, off, e1, e2, e3⟩ := h.rd j u hu
 exact ⟨b, off, e1, hS.oldc e2 e3, hap (World.block_lt_of_cell? w0 _ e2) e3⟩
end Go.Proofs.YtkgllhkhdjodeaaGreat

namespace Go.Proofs.YtkgllhkhdjodeaaGreat
open Go Go.Eng Go.Proofs Dg
theorem CloneI_c (k : List Int) (a : Option Addr) (cap : Nat) (hlen : k.length ≤ 1099511627776) (w : World) (hr : RdC w k a) :
  Calls Tryz.prog 57 [.slice a k.length cap].toArray w fun e w' => ∃ x : Option Addr × Nat, e = .returned (.slice x.1 k.length x.2) ∧ St w [] [rowc (.slice x.1 k.length x.2) k.length 3 1 (ints k)] w' := by
 refine enter Tryz.func57 rfl Tryz.ntmps57 rfl (St.init _) ?_
 refine jN 8 ?_
 rcases a with _ | ⟨b, off, st⟩
 ·have hc0 : k = [] := by
   cases k with
   | nil => rfl
   | cons y ys =>
    obtain ⟨_, _, h1, _⟩ := hr 0 y rfl
    cases h1
  subst hc0
  refine jN 4 ?_
  refine WL.bin rfl rfl rfl (v := .bool true) (fun w => by kernel_rfl) ?_
  refine jN 11 ?_
  exact WQ.ret (rs := [.tmp 2]) rfl (.tmp rfl .nil) (fun w hS => ⟨(none, 0), rfl, hS.rowNil 3 1⟩)
 ·refine jN 4 ?_
  refine WL.bin rfl rfl rfl (v := .bool false) (fun w => by kernel_rfl) ?_
  refine jN 8 ?_
  refine WL.buildSlice0 F.sl41 rfl (fun b5 => ?_)
  refine WA.chunks (fun w hS => hS.rowOf (n := 0) (sz := 1) rfl (by decide)) ?_
  refine jN 3 ?_
  refine WL.appendC (n := 0) (xs := []) (news := ints k) F.el41 rfl rfl rfl jR (fun w hS hm => (by obtain ⟨bx, ox, e1, e2⟩ := hr.news (by omega); exact ⟨bx, ox, e1, fun j u hu => hS.oldc (e2 j u hu) (by simp)⟩)) (by simp [ints]) (ints_one k) (Nat.le_trans (m := 1099511627776) (by omega) (by decide)) (by omega) (fun a2 c2 => ?_)
  refine jN 5 ?_
  refine WQ.ret (rs := [.tmp 2]) rfl (.tmp rfl .nil) (fun w hS => ⟨(a2, c2), ?_, ?_⟩)
  ·simp [tup]
  ·simpa using hS

set_option maxRecDepth 100000 in
theorem through_c (bo bp bn bt : Nat) (l : List Dec) (a : Option Addr) (c : Nat) (hl : Mk l) (hll : l.length ≤ 16777216) : ∀ (n r : Nat), r < n → ∀ (Fp : List Nat) (out : List (List Int)) (path : List Int) (w : World) (m : Nat), r < l.length + 2 → (trs l r).ok m → path.length ≤ m → m ≤ 24 → out.length + pathsN (trs l r) ≤ 4096 → TEnv w Fp bo bp bn bt l a c → St w Fp [thr Fp bo bp out path] w →
  Calls Tryz.prog 56 [.int .i64 (r : Int), pp bo, pp bp, pp bn, pp bt].toArray w fun e w' => ∃ x : List Nat, e = .returned (.tuple #[]) ∧ St w Fp [thr x bo bp (out ++ pathsT (trs l r) path) path] w' := by
 intro n
 induction n with
 | zero => intro r hr; omega
 | succ n hrec =>
 intro r hrn Fp out path w m hr hok hpm hm24 hb hE hS0
 obtain ⟨⟨oa, oc, vs, Fs, pa, pc⟩, _, h1, h2, hS0⟩ := hS0.bunOpen
 simp only [thCs, List.cons_append, List.nil_append] at hS0
 refine enter Tryz.func56 rfl Tryz.ntmps56 rfl (C := [pt bo [.slice oa out.length oc] 52, rowc (.slice oa out.length oc) out.length 41 1 vs, stepsC Fs vs out, pt bp [.slice pa path.length pc] 41, rowc (.slice pa path.length pc) path.length 3 1 (ints path)]) hS0 ?_
 refine jN 9 ?_
 refine WC.cond rfl (fun h8 => ?_) (fun h8 => ?_)
 ·have hr0 : r = 0 := by simp at h8; omega
  subst hr0
  refine WC.drawsL (by kernel_rfl) (FactsOk.cons (ds := [4, 5]) (LoadOk.one (t := 1) (off := 0) rfl jM rfl) (FactsOk.cons (ds := [2, 3, 4, 5]) (LoadOk.one (t := 2) (off := 0) rfl jM rfl) (FactsOk.nil))) ?_
  refine jF 0 0 rfl rfl (Yl.load1 F.one52 rfl) ?_
  refine jF 1 1 rfl rfl (Yl.load1 F.one41 rfl) ?_
  refine jA 2 rfl ?_
  refine jC (β := Option Addr × Nat) (res := fun y => .slice y.1 path.length y.2) (cs := fun y => [rowc (.slice y.1 path.length y.2) path.length 3 1 (ints path)]) F.fun57 rfl (fun w hS _ => CloneI_c path pa pc (by omega) w (RdC.of_row rfl (hS.ok (rowc (.slice pa path.length pc) path.length 3 1 (ints path)) jM))) (fun ⟨ca, cc⟩ => ?_)
  refine WD.on (closed_of (by kernel_rfl)) (fun w hS => Sx.keep (hS.cell jM rfl) (Sx.gone rfl (Sx.none))) ?_
  refine jA 3 rfl ?_
  refine WL.buildSlice F.sl52 F.ez52 rfl rfl rfl rfl jB rfl (fun b12 => ?_)
  refine WD.on (closed_of (by kernel_rfl)) (fun w hS => Sx.keep (hS.cell jM rfl) (Sx.gone rfl (Sx.none))) ?_
  refine jA 4 rfl ?_
  refine WL.appendE (news := [.slice ca path.length cc]) F.el52 rfl rfl rfl jR (fun w hS jj u hu => by rw [Nat.zero_add]; exact hS.cell (cs := [.slice ca path.length cc]) jM hu) rfl jO (Nat.le_trans (m := 4097) (by omega) (by decide)) (by omega) (fun oa2 oc2 => ?_)
  refine jG ?_
  refine jA 5 rfl ?_
  refine WL.store1 F.one52 rfl rfl rfl jU jS ?_
  refine jG ?_
  refine jD ?_
  refine jN 13 ?_
  refine WQ.ret (rs := []) rfl .nil (fun w hS => ?_)
  obtain ⟨F8, hF8⟩ := St.stepsSnocR (vs := vs) (ss := out) (a := ca) (cap := cc) (c := path) rfl ((St.pick (St.pick hS (c := rowc (.slice ca path.length cc) path.length 3 1 (ints path)) jR) (c := stepsC Fs vs out) jR))
  obtain ⟨F9, hF9⟩ := St.thrClose (bo := bo) (bp := bp) (out := out ++ [path]) (path := path) (oa := oa2) (oc := oc2) (pa := pa) (pc := pc) (n := out.length + 1) (m := path.length) (vs := vs ++ [.slice ca path.length cc]) (Fs := F8) (xs := ints path) (by simp) rfl rfl (((St.pick (St.pick (St.pick (St.pick (St.pick hF8 (c := rowc (.slice pa path.length pc) path.length 3 1 (ints path)) (by repeat (first | exact Rem.here | apply Rem.there))) (c := pt bp [.slice pa path.length pc] 41) (by repeat (first | exact Rem.here | apply Rem.there))) (c := stepsC F8 (vs ++ [.slice ca path.length cc]) (out ++ [path])) (by repeat (first | exact Rem.here | apply Rem.there))) (c := rowc (.slice oa2 (out.length + 1) oc2) (out.length + 1) 41 1 (vs ++ [.slice ca path.length cc])) (by repeat (first | exact Rem.here | apply Rem.there))) (c := pt bo [.slice oa2 (out.length + 1) oc2] 52) (by repeat (first | exact Rem.here | apply Rem.there)))).sublist (List.Sublist.cons_cons _ (List.Sublist.cons_cons _ (List.Sublist.cons_cons _ (List.Sublist.cons_cons _ (List.Sublist.cons_cons _ (List.nil_sublist _)))))))
  refine ⟨F9, rfl, ?_⟩
  rw [(trs_zero l).1]
  exact hF9
 ·have hr0 : r ≠ 0 := by simp at h8; omega
  refine jN 11 ?_
  refine WC.cond rfl (fun h15 => ?_) (fun h15 => ?_)
  ·have hr1 : r = 1 := by simp at h15; omega
   subst hr1
   refine jN 2 ?_
   refine WQ.ret (rs := []) rfl .nil (fun w hS => ⟨Fp, rfl, ?_⟩)
   rw [(trs_zero l).2]
   have e8 : out ++ pathsT (.lf true) path = out := by (simp [pathsT])
   rw [e8]
   exact hS.bunClose (Cs := thCs bo bp out path) ⟨oa, oc, vs, Fs, pa, pc⟩ trivial h1 h2
  ·have hr2 : 2 ≤ r := by simp at h15; omega
   obtain ⟨x, hx⟩ : ∃ x, l[r - 2]? = some x := ⟨_, List.getElem?_eq_getElem (by omega)⟩
   have hkd := hl.kid _ _ hx
   have htr : trs l r = .nd x.1 (trs l x.2.1) (trs l x.2.2) := by (have := hl.at hx; rwa [show r - 2 + 2 = r by omega] at this)
   rw [htr] at hok hb
   simp only [pathsN] at hb
   have hmx := hok.1
   obtain ⟨bl, off, rfl, hbl, hcx⟩ := hE.rd.at hx
   have hri : ((r - 2 : Nat) : Int) = (r : Int) - 2 := by omega
   refine jN 5 ?_
   refine WL.load1 F.one33 rfl rfl (v := .slice (some ⟨bl, off, none⟩) l.length c) (fun w hS => hS.oldc hE.no hE.no') ?_
   refine jN 4 ?_
   refine WA.say 18 (.int .i64 ((r - 2 : Nat) : Int)) (by rw [hri]; rfl) ?_
   refine jN 1 ?_
   refine WL.indexAddr F.sl33 rfl rfl rfl (List.getElem?_eq_some_iff.1 hx).1 ?_
   refine jN 1 ?_
   refine WL.loadN F.agg104 rfl rfl (vs := [Value.int .i64 (x.1 : Int), .int .i64 (x.2.1 : Int), .int .i64 (x.2.2 : Int)]) rfl (fun w hS j v hv => hS.oldc (hcx j v hv) hbl) ?_
   refine jN 1 ?_
   refine WL.alloc F.zero104 rfl (fun b6 => ?_)
   refine jN 15 ?_
   refine WL.buildSlice F.sl41 F.ez41 rfl rfl rfl rfl jB rfl (fun b25 => ?_)
   refine jN 1 ?_
   refine WL.appendE (news := [.int .i64 ((x.1 : Int) + 1)]) F.el41 rfl rfl rfl jR (fun w hS jj u hu => by rw [Nat.zero_add]; exact hS.cell (cs := [.int .i64 ((x.1 : Int) + 1)]) jM hu) rfl jO (Nat.le_trans (m := 4097) (by omega) (by decide)) (by omega) (fun pa2 pc2 => ?_)
   refine jN 7 ?_
   refine WL.load1 F.one101 rfl rfl (v := thF bo bp bn bt) (fun w hS => hS.oldc hE.th hE.th') ?_
   refine jN 4 ?_
   refine WA.chunksE (C' := fun F1 => [thr F1 bo bp out (path ++ [((x.1 : Int) + 1)]), pt b6 [Value.int .i64 (x.1 : Int), .int .i64 (x.2.1 : Int), .int .i64 (x.2.2 : Int)] 104]) (fun w hS => ?_) (fun F1 => ?_)
   ·exact St.thrClose (bo := bo) (bp := bp) (out := out) (path := (path ++ [((x.1 : Int) + 1)])) (oa := oa) (oc := oc) (pa := pa2) (pc := pc2) (n := out.length) (m := path.length + 1) (vs := vs) (Fs := Fs) (xs := ints path ++ [.int .i64 ((x.1 : Int) + 1)]) rfl (by simp) (by simp [ints]) (jK hS)
   refine jN 1 ?_
   refine WL.callFC (β := List Nat) (us := []) (cap := [pp bo, pp bp, pp bn, pp bt]) (res := fun y => .tuple #[]) (cs := fun y => [thr y bo bp (out ++ pathsT (trs l x.2.1) (path ++ [((x.1 : Int) + 1)])) (path ++ [((x.1 : Int) + 1)])]) (Cs := [thr F1 bo bp out (path ++ [((x.1 : Int) + 1)])]) (C1 := [pt b6 [Value.int .i64 (x.1 : Int), .int .i64 (x.2.1 : Int), .int .i64 (x.2.2 : Int)] 104]) (O' := F1) F.fun56 (fun d h => by cases h; rfl) rfl rfl (List.Perm.refl _) bun_O1 bun_O2 (fun w hS hS2 => hrec x.2.1 (by omega) F1 out (path ++ [((x.1 : Int) + 1)]) w (x.1 + 1) (by omega) hok.2.2.2.1 (by simp; omega) (by omega) (by (try simp only [List.length_append, pathsT_len]); omega) (hE.next hS) hS2) (fun F2 => ?_)
   refine jN 4 ?_
   refine WA.openB (fun y3 _ _ _ => ?_)
   obtain ⟨oa3, oc3, vs3, Fs3, pa3, pc3⟩ := y3
   simp only [thCs, List.cons_append, List.nil_append]
   refine WA.know (φ := ∃ g, pa3 = some ⟨g, 0, none⟩ ∧ (path ++ [((x.1 : Int) + 1)]).length = (path ++ [((x.1 : Int) + 1)]).length ∧ (path ++ [((x.1 : Int) + 1)]).length ≤ pc3) (fun w hS => rowc_addr (hS.ok (rowc (.slice pa3 (path ++ [((x.1 : Int) + 1)]).length pc3) (path ++ [((x.1 : Int) + 1)]).length 3 1 (ints (path ++ [((x.1 : Int) + 1)]))) jM) (by simp)) (fun ⟨g3, hg3, _, _⟩ => ?_)
   subst hg3
   have hpl : (path ++ [((x.1 : Int) + 1)]).length = path.length + 1 := by simp
   refine jN 8 ?_
   refine WA.say 34 (.int .i64 (path.length : Int)) (by rw [show ((path.length : Nat) : Int) = ((path ++ [((x.1 : Int) + 1)]).length : Int) - 1 by (rw [hpl]; omega)]; rfl) ?_
   refine jN 7 ?_
   refine WL.negI rfl rfl (by omega) ?_
   refine jN 1 ?_
   refine WL.indexAddr F.sl41 rfl rfl rfl (by rw [hpl]; omega) ?_
   have setp : SetN (ints (path ++ [((x.1 : Int) + 1)])) path.length [.int .i64 (-((x.1 : Int) + 1))] (ints (path ++ [-((x.1 : Int) + 1)])) := by
    have h9 := setN_set (ints (path ++ [((x.1 : Int) + 1)])) path.length (.int .i64 (-((x.1 : Int) + 1))) (by simp [ints])
    have e9 : (ints (path ++ [((x.1 : Int) + 1)])).set path.length (.int .i64 (-((x.1 : Int) + 1))) = ints (path ++ [-((x.1 : Int) + 1)]) := by (simp [ints])
    rwa [e9] at h9
   refine jN 1 ?_
   refine WL.storeRow1 (xs := ints (path ++ [((x.1 : Int) + 1)])) (xs' := ints (path ++ [-((x.1 : Int) + 1)])) F.one3 rfl rfl rfl jU (by rw [Nat.zero_add, Nat.mul_one]; exact setp) ?_
   refine jN 5 ?_
   refine WL.load1 F.one101 rfl rfl (v := thF bo bp bn bt) (fun w hS => hS.oldc hE.th hE.th') ?_
   refine jN 4 ?_
   refine WA.chunksE (C' := fun F4 => [thr F4 bo bp (out ++ pathsT (trs l x.2.1) (path ++ [((x.1 : Int) + 1)])) (path ++ [-((x.1 : Int) + 1)]), pt b6 [Value.int .i64 (x.1 : Int), .int .i64 (x.2.1 : Int), .int .i64 (x.2.2 : Int)] 104]) (fun w hS => ?_) (fun F4 => ?_)
   ·exact St.thrClose (bo := bo) (bp := bp) (out := (out ++ pathsT (trs l x.2.1) (path ++ [((x.1 : Int) + 1)]))) (path := (path ++ [-((x.1 : Int) + 1)])) (oa := oa3) (oc := oc3) (pa := some ⟨g3, 0, none⟩) (pc := pc3) (n := (out ++ pathsT (trs l x.2.1) (path ++ [((x.1 : Int) + 1)])).length) (m := (path ++ [((x.1 : Int) + 1)]).length) (vs := vs3) (Fs := Fs3) (xs := ints (path ++ [-((x.1 : Int) + 1)])) rfl (by simp) rfl (jK hS)
   refine jN 1 ?_
   refine WL.callFC (β := List Nat) (us := []) (cap := [pp bo, pp bp, pp bn, pp bt]) (res := fun y => .tuple #[]) (cs := fun y => [thr y bo bp ((out ++ pathsT (trs l x.2.1) (path ++ [((x.1 : Int) + 1)])) ++ pathsT (trs l x.2.2) (path ++ [-((x.1 : Int) + 1)])) (path ++ [-((x.1 : Int) + 1)])]) (Cs := [thr F4 bo bp (out ++ pathsT (trs l x.2.1) (path ++ [((x.1 : Int) + 1)])) (path ++ [-((x.1 : Int) + 1)])]) (C1 := [pt b6 [Value.int .i64 (x.1 : Int), .int .i64 (x.2.1 : Int), .int .i64 (x.2.2 : Int)] 104]) (O' := F4) F.fun56 (fun d h => by cases h; rfl) rfl rfl (List.Perm.refl _) bun_O1 bun_O2 (fun w hS hS2 => hrec x.2.2 (by omega) F4 (out ++ pathsT (trs l x.2.1) (path ++ [((x.1 : Int) + 1)])) (path ++ [-((x.1 : Int) + 1)]) w (x.1 + 1) (by omega) hok.2.2.2.2 (by simp; omega) (by omega) (by (try simp only [List.length_append, pathsT_len]); omega) (hE.next hS) hS2) (fun F5 => ?_)
   refine jN 3 ?_
   refine WA.openB (fun y6 _ _ _ => ?_)
   obtain ⟨oa6, oc6, vs6, Fs6, pa6, pc6⟩ := y6
   simp only [thCs, List.cons_append, List.nil_append]
   have hpl2 : (path ++ [-((x.1 : Int) + 1)]).length = path.length + 1 := by simp
   refine jN 8 ?_
   refine WA.say 47 (.int .i64 (path.length : Int)) (by rw [show ((path.length : Nat) : Int) = ((path ++ [-((x.1 : Int) + 1)]).length : Int) - 1 by (rw [hpl2]; omega)]; rfl) ?_
   refine WA.know (φ := path.length ≤ pc6) (fun w hS => (by obtain ⟨_, _, _, hle⟩ := rowc_addr (hS.ok (rowc (.slice pa6 (path ++ [-((x.1 : Int) + 1)]).length pc6) (path ++ [-((x.1 : Int) + 1)]).length 3 1 (ints (path ++ [-((x.1 : Int) + 1)]))) jM) (by rw [hpl2]; omega); omega)) (fun hpc => ?_)
   refine jN 1 ?_
   refine WL.y (F := fun _ => True) (Yl.sliceSlTo (n := path.length) F.sl41 rfl rfl hpc) rfl (fun _ _ => trivial) ?_
   refine jN 3 ?_
   refine WQ.fin (rs := []) rfl .nil (fun w hS => ?_)
   have hS8 := St.rowTake ((St.pick hS (c := rowc (.slice pa6 (path ++ [-((x.1 : Int) + 1)]).length pc6) (path ++ [-((x.1 : Int) + 1)]).length 3 1 (ints (path ++ [-((x.1 : Int) + 1)]))) jR)) (by rw [hpl2]; omega) (k := path.length) (by rw [hpl2]; omega)
   have e9 : (ints (path ++ [-((x.1 : Int) + 1)])).take path.length = ints path := by (simp [ints])
   rw [e9] at hS8
   obtain ⟨F9, hF9⟩ := St.thrClose (bo := bo) (bp := bp) (out := ((out ++ pathsT (trs l x.2.1) (path ++ [((x.1 : Int) + 1)])) ++ pathsT (trs l x.2.2) (path ++ [-((x.1 : Int) + 1)]))) (path := path) (oa := oa6) (oc := oc6) (pa := pa6) (pc := pc6) (n := ((out ++ pathsT (trs l x.2.1) (path ++ [((x.1 : Int) + 1)])) ++ pathsT (trs l x.2.2) (path ++ [-((x.1 : Int) + 1)])).length) (m := path.length) (vs := vs6) (Fs := Fs6) (xs := ints path) rfl rfl rfl (((St.pick (St.pick (St.pick (St.pick (St.pick hS8 (c := rowc (.slice pa6 path.length pc6) path.length 3 1 (ints path)) (by repeat (first | exact Rem.here | apply Rem.there))) (c := pt bp [.slice pa6 path.length pc6] 41) (by repeat (first | exact Rem.here | apply Rem.there))) (c := stepsC Fs6 vs6 ((out ++ pathsT (trs l x.2.1) (path ++ [((x.1 : Int) + 1)])) ++ pathsT (trs l x.2.2) (path ++ [-((x.1 : Int) + 1)]))) (by repeat (first | exact Rem.here | apply Rem.there))) (c := rowc (.slice oa6 ((out ++ pathsT (trs l x.2.1) (path ++ [((x.1 : Int) + 1)])) ++ pathsT (trs l x.2.2) (path ++ [-((x.1 : Int) + 1)])).length oc6) ((out ++ pathsT (trs l x.2.1) (path ++ [((x.1 : Int) + 1)])) ++ pathsT (trs l x.2.2) (path ++ [-((x.1 : Int) + 1)])).length 41 1 vs6) (by repeat (first | exact Rem.here | apply Rem.there))) (c := pt bo [.slice oa6 ((out ++ pathsT (trs l x.2.1) (path ++ [((x.1 : Int) + 1)])) ++ pathsT (trs l x.2.2) (path ++ [-((x.1 : Int) + 1)])).length oc6] 52) (by repeat (first | exact Rem.here | apply Rem.there)))).sublist (List.Sublist.cons_cons _ (List.Sublist.cons_cons _ (List.Sublist.cons_cons _ (List.Sublist.cons_cons _ (List.Sublist.cons_cons _ (List.nil_sublist _)))))))
   refine ⟨F9, rfl, ?_⟩
   rw [htr]
   have e8 : out ++ pathsT (.nd x.1 (trs l x.2.1) (trs l x.2.2)) path = ((out ++ pathsT (trs l x.2.1) (path ++ [((x.1 : Int) + 1)])) ++ pathsT (trs l x.2.2) (path ++ [-((x.1 : Int) + 1)])) := by (simp [pathsT])
   rw [e8]
   exact hF9

end Go.Proofs.YtkgllhkhdjodeaaGreat
