import Derived.Test.YtkgllhkhdjodeaaGreatPaFormulaClauses6
set_option linter.unusedSimpArgs false
set_option linter.unusedVariables false
namespace Go.Proofs.YtkgllhkhdjodeaaGreat
open Go Go.Eng Go.Proofs Dg
theorem CloneD_c (l : List Dec) (a : Option Addr) (cap : Nat) (hlen : l.length ≤ 16777216) (w : World) (hr : RdDec w l a) :
  Calls Tryz.prog 122 [.slice a l.length cap].toArray w fun e w' => ∃ x : Option Addr × Nat, e = .returned (.slice x.1 l.length x.2) ∧ St w [] [rowc (.slice x.1 l.length x.2) l.length 104 3 (decs l)] w' := by
 refine enter Tryz.func122 rfl Tryz.ntmps122 rfl (St.init _) ?_
 refine jN 8 ?_
 rcases a with _ | ⟨b, off, st⟩
 ·have hc0 : l = [] := by
   cases l with
   | nil => rfl
   | cons y ys =>
    obtain ⟨_, _, h1, _⟩ := hr 0 (.int .i64 (y.1 : Int)) (by simp [decs])
    cases h1
  subst hc0
  refine jN 4 ?_
  refine WL.bin rfl rfl rfl (v := .bool true) (fun w => by kernel_rfl) ?_
  refine jN 11 ?_
  exact WQ.ret (rs := [.tmp 2]) rfl (.tmp rfl .nil) (fun w hS => ⟨(none, 0), rfl, hS.rowNil 104 3⟩)
 ·refine jN 4 ?_
  refine WL.bin rfl rfl rfl (v := .bool false) (fun w => by kernel_rfl) ?_
  refine jN 8 ?_
  refine WL.buildSlice0 F.sl33 rfl (fun b5 => ?_)
  refine WA.chunks (fun w hS => hS.rowOf (n := 0) (sz := 3) rfl (by decide)) ?_
  refine jN 3 ?_
  refine WL.appendC (n := 0) (xs := []) (news := decs l) F.el33 rfl rfl rfl jR (fun w hS hm => (by obtain ⟨x, hx⟩ : ∃ x, l[0]? = some x := ⟨_, List.getElem?_eq_getElem (by omega)⟩; obtain ⟨bx, ox, e1, _⟩ := hr.at hx; exact ⟨bx, ox, e1, fun j u hu => by (obtain ⟨b2, o2, e3, e4⟩ := hr j u hu; rw [e1] at e3; injection e3 with e3; injection e3 with e5 e6; subst e5; subst e6; exact hS.oldc e4 (by simp))⟩)) (decs_len l) (decs_one l) (Nat.le_trans (m := 16777216) (by omega) (by decide)) (by omega) (fun a2 c2 => ?_)
  refine jN 5 ?_
  refine WQ.ret (rs := [.tmp 2]) rfl (.tmp rfl .nil) (fun w hS => ⟨(a2, c2), ?_, ?_⟩)
  ·simp [tup]
  ·simpa using hS

theorem Nodes_c (t : BT) (a : Option Addr) (c : Nat) (w : World) (ht : RdD w t a) :
  Calls Tryz.prog 55 [dval t a c].toArray w fun e w' => ∃ x : Option Addr × Nat, e = .returned (.tuple #[.slice x.1 (canon t).1.length x.2, .int .i64 ((canon t).2 : Int)]) ∧ St w [] [rowc (.slice x.1 (canon t).1.length x.2) (canon t).1.length 104 3 (decs (canon t).1)] w' := by
 refine enter Tryz.func55 rfl Tryz.ntmps55 rfl (St.init _) ?_
 refine jN 3 ?_
 refine WL.boxN rfl rfl (fun b1 => ?_)
 refine jN 7 ?_
 refine WC.drawsL (by kernel_rfl) (FactsOk.cons (ds := [2]) (LoadOk.one (t := 1) (off := 0) rfl jM rfl) (FactsOk.cons (ds := []) (LoadOk.one (t := 1) (off := 1) rfl jM rfl) (FactsOk.nil))) ?_
 refine jT 0 rfl (Yl.fieldAddr0 F.fld35_0 rfl) ?_
 refine jF 1 0 rfl rfl (Yl.load1 F.one33 rfl) ?_
 refine jT 3 rfl (Yl.fieldAddr0 F.fld35_1 rfl) ?_
 refine jF 4 1 rfl rfl (Yl.load1 F.one3 rfl) ?_
 refine jA 2 rfl ?_
 refine jC (β := Option Addr × Nat) (res := fun y => .slice y.1 (canon t).1.length y.2) (cs := fun y => [rowc (.slice y.1 (canon t).1.length y.2) (canon t).1.length 104 3 (decs (canon t).1)]) F.fun122 rfl (fun w hS _ => CloneD_c (canon t).1 a c (Nat.le_of_lt (canon_len ht.1)) w (ht.2.next0 hS)) (fun x6 => ?_)
 refine WD.on (closed_of (by kernel_rfl)) (fun w hS => Sx.gone rfl (Sx.keep (hS.cell jM rfl) (Sx.none))) ?_
 refine jT 5 rfl (Yl.assign rfl) ?_
 refine jT 6 rfl (Yl.assign rfl) ?_
 refine jD ?_
 refine jN 2 ?_
 exact WQ.ret (rs := [.tmp 2, .tmp 3]) rfl (.tmp rfl (.tmp rfl .nil)) (fun w hS => ⟨x6, rfl, (jK hS)⟩)

theorem pathsum_c (v z1 z2 : Int) (h1 : 0 ≤ z1 ∧ z1 ≤ 4097) (h2 : 0 ≤ z2 ∧ z2 ≤ 4097) (w : World) : Pure Tryz.prog 54 [.int .i64 v, .int .i64 z1, .int .i64 z2] w (.int .i64 (if z1 + z2 > 4097 then 4097 else z1 + z2)) := by
 refine enter Tryz.func54 rfl Tryz.ntmps54 rfl (St.init _) ?_
 refine jN 15 ?_
 refine WL.minI (r := if z1 + z2 > 4097 then 4097 else z1 + z2) rfl rfl rfl (by (repeat split) <;> omega) ?_
 refine jN 5 ?_
 exact WQ.ret (rs := [.tmp 6]) rfl (.tmp rfl .nil) (fun w hS => ⟨rfl, hS⟩)

theorem path_join (la : List Dec) (hla : Mk la) (out : List Int) (s : Unit) (x : Dec) (z1 z2 : Int) (w : World) (hx : la[out.length - 2]? = some x) (hI : FP la out ∧ 2 ≤ out.length) (h1 : out[x.2.1]? = some z1) (h2 : out[x.2.2]? = some z2) (hS : St w [] [rowc (.slice none 0 0) 0 3 1 []] w) :
  Calls Tryz.prog 54 ([] ++ [Value.int .i64 (x.1 : Int), .int .i64 z1, .int .i64 z2] ++ []).toArray w fun e w' => ∃ y : { y : Unit × Int // FP la (out ++ [y.2]) ∧ 2 ≤ (out ++ [y.2]).length }, e = .returned (.int .i64 y.1.2) ∧ St w [] [rowc (.slice none 0 0) 0 3 1 []] w' := by
 have e1 := hI.1.at' _ _ h1
 have e2 := hI.1.at' _ _ h2
 refine (pathsum_c x.1 z1 z2 (by omega) (by omega) w).mono ?_
 rintro e w' ⟨he, hS'⟩
 exact ⟨⟨((), _), hI.1.step hla hI.2 hx h1 h2 rfl, by have := hI.2; simp; omega⟩, he, hS'.rowNil _ _⟩

theorem tenv_of {w0 w : World} {O : List Nat} {C : List Chunk} {F0 : List Nat} {b5 b7 b8 b9 : Nat} {t : BT} {x4 : Option Addr × Nat} (hS : St w0 O ([thr F0 b7 b8 [] []] ++ (pt b9 [thF b7 b8 b5 b9] 101 :: pt b5 [.slice x4.1 (canon t).1.length x4.2] 33 :: rowc (.slice x4.1 (canon t).1.length x4.2) (canon t).1.length 104 3 (decs (canon t).1) :: C)) w) : TEnv w F0 b7 b8 b5 b9 (canon t).1 x4.1 x4.2 := by
 have hd := hS.disj
 simp only [List.cons_append, List.nil_append, List.pairwise_cons, List.mem_cons, forall_eq_or_imp] at hd
 obtain ⟨⟨d1, d2, d3, _⟩, _⟩ := hd
 have hap : ∀ {b : Nat} {cs : List Value} {e : TypeId}, (∀ k, (thr F0 b7 b8 [] []).fp k → ¬ (pt b cs e).fp k) → b ∉ F0 := fun h hb => h _ hb rfl
 refine ⟨hS.cell (List.mem_cons_of_mem _ (List.mem_cons_of_mem _ (List.mem_cons_self ..))) rfl, hap d2, hS.cell (List.mem_cons_of_mem _ (List.mem_cons_self ..)) rfl, hap d1, fun j u hu => ?_⟩
 have hok := hS.ok (rowc (.slice x4.1 (canon t).1.length x4.2) (canon t).1.length 104 3 (decs (canon t).1)) (List.mem_cons_of_mem _ (List.mem_cons_of_mem _ (List.mem_cons_of_mem _ (List.mem_cons_self ..))))
 obtain ⟨b, off, e1, e2⟩ := RdDec.of_row (l := (canon t).1) (a := x4.1) (cap := x4.2) rfl hok j u hu
 refine ⟨b, off, e1, e2, fun hb => d3 b hb ?_⟩
 show (Value.slice x4.1 (canon t).1.length x4.2).ownBlock = some b
 rw [e1]
 have hpos : 0 < (canon t).1.length := by
  have h1 := (List.getElem?_eq_some_iff.1 hu).1
  rw [decs_len] at h1; omega
 rfl

theorem Clauses_in (t : BT) (a : Option Addr) (c : Nat) (w : World) (ht : RdD w t a) (hp : pathsN t ≤ 4096) :
  Calls Tryz.prog 20 [dval t a c].toArray w fun e w' => ∃ y : TGr, e = .returned (.tuple #[.slice y.oa (pathsT t []).length y.oc, .int .i64 0]) ∧ St w [] [rowc (.slice y.oa (pathsT t []).length y.oc) (pathsT t []).length 41 1 y.vs, stepsC y.Fs y.vs (pathsT t [])] w' := by
 have hmk := canon_mk ht.1
 have hcl := canon_len ht.1
 refine enter Tryz.func20 rfl Tryz.ntmps20 rfl (St.init _) ?_
 refine jN 3 ?_
 refine WL.boxN rfl rfl (fun b1 => ?_)
 refine jN 10 ?_
 refine WA.chunks (fun w hS => (hS.rowNil 3 1)) ?_
 refine jN 1 ?_
 refine WL.callC (β := { y : List Int × Unit × Int // (FP (canon t).1 y.1 ∧ 2 ≤ y.1.length) ∧ y.1.length = (canon t).1.length + 2 ∧ y.1[(canon t).2]? = some y.2.2 }) (res := fun y => .int .i64 y.1.2.2) (cs := fun y => [rowc (.slice none 0 0) 0 3 1 []]) (Cs := [rowc (.slice none 0 0) 0 3 1 []]) (C1 := [pt b1 [.slice a (canon t).1.length c, .int .i64 ((canon t).2 : Int)] 35]) (O' := []) F.fun53 (fun d h => by cases h; rfl) rfl (List.Perm.refl _) (fun c hc k hk => (by rw [List.mem_singleton.1 hc] at hk; cases hk)) (by simp) (fun w hS hS2 => Fold_c (σ := Unit) (fun _ => rowc (.slice none 0 0) 0 3 1 []) (fun _ => []) (fun _ => FpIs.rowc) 54 F.fun54 [] [] (canon t).1 a c (canon t).2 1 0 (fun out _ => FP (canon t).1 out ∧ 2 ≤ out.length) (Nat.le_of_lt hcl) (fun k x hx => ⟨(hmk.kid k x hx).2.1, (hmk.kid k x hx).2.2.1⟩) (canon_at t).1 () ⟨FP.nil _, by simp⟩ (path_join (canon t).1 hmk) w (fun j u hu => (by obtain ⟨b, off, e1, e2⟩ := ht.2 j u hu; exact ⟨b, off, e1, hS.oldc e2 (by simp), by simp⟩)) hS2) (fun ⟨⟨out, _, z⟩, hI, hol, hz⟩ => ?_)
 have hzp := hI.1.at' _ _ hz
 rw [(canon_at t).2] at hzp
 dsimp only at hzp
 refine jN 13 ?_
 refine WC.cond rfl (fun h13 => ?_) (fun h13 => ?_)
 ·exfalso; simp at h13; omega
 ·refine jN 7 ?_
  refine jC (β := Option Addr × Nat) (res := fun y => .tuple #[.slice y.1 (canon t).1.length y.2, .int .i64 ((canon t).2 : Int)]) (cs := fun y => [rowc (.slice y.1 (canon t).1.length y.2) (canon t).1.length 104 3 (decs (canon t).1)]) F.fun55 rfl (fun w hS _ => Nodes_c t a c w (ht.next0 hS)) (fun x4 => ?_)
  refine jN 7 ?_
  refine WL.alloc F.zero33 rfl (fun b5 => ?_)
  refine jN 9 ?_
  refine WL.alloc F.zero52 rfl (fun b7 => ?_)
  refine jN 5 ?_
  refine WL.alloc F.zero41 rfl (fun b8 => ?_)
  refine jN 5 ?_
  refine WL.alloc F.zero101 rfl (fun b9 => ?_)
  refine jN 12 ?_
  refine WA.chunksE (C' := fun F0 => [thr F0 b7 b8 [] [], pt b9 [thF b7 b8 b5 b9] 101, pt b5 [.slice x4.1 (canon t).1.length x4.2] 33, rowc (.slice x4.1 (canon t).1.length x4.2) (canon t).1.length 104 3 (decs (canon t).1)]) (fun w hS => ?_) (fun F0 => ?_)
  ·exact St.thrClose (bo := b7) (bp := b8) (out := []) (path := []) (oa := none) (oc := 0) (pa := none) (pc := 0) (n := 0) (m := 0) (vs := []) (Fs := []) (xs := []) rfl rfl rfl (jK (((hS.rowNil 41 1).rowNil 3 1).stepsNil))
  refine jN 5 ?_
  refine WL.callFC (β := List Nat) (us := []) (cap := [pp b7, pp b8, pp b5, pp b9]) (res := fun y => .tuple #[]) (cs := fun y => [thr y b7 b8 ([] ++ pathsT (trs (canon t).1 (canon t).2) []) []]) (Cs := [thr F0 b7 b8 [] []]) (C1 := [pt b9 [thF b7 b8 b5 b9] 101, pt b5 [.slice x4.1 (canon t).1.length x4.2] 33, rowc (.slice x4.1 (canon t).1.length x4.2) (canon t).1.length 104 3 (decs (canon t).1)]) (O' := F0) F.fun56 (fun d h => by cases h; rfl) rfl rfl (List.Perm.refl _) bun_O1 bun_O2 (fun w hS hS2 => through_c b7 b8 b5 b9 (canon t).1 x4.1 x4.2 hmk (Nat.le_of_lt hcl) ((canon t).2 + 1) (canon t).2 (Nat.lt_succ_self _) F0 [] [] w 0 (canon_at t).1 (by rw [(canon_at t).2]; exact ht.1) (Nat.le_refl _) (by decide) (by rw [(canon_at t).2]; simpa using hp) (tenv_of hS) hS2) (fun F9 => ?_)
  refine jN 4 ?_
  rw [(canon_at t).2, List.nil_append]
  refine WA.openB (fun y6 _ _ _ => ?_)
  obtain ⟨oa6, oc6, vs6, Fs6, pa6, pc6⟩ := y6
  simp only [thCs, List.cons_append, List.nil_append]
  refine jN 9 ?_
  exact WQ.ret (rs := [.tmp 2, .tmp 3]) rfl (.tmp rfl (.tmp rfl .nil)) (fun w hS => ⟨⟨oa6, oc6, vs6, Fs6, none, 0⟩, rfl, (jK hS)⟩)

end Go.Proofs.YtkgllhkhdjodeaaGreat

namespace Go.Proofs.YtkgllhkhdjodeaaGreat
open Go Go.Eng Go.Proofs Dg
theorem rFull_c (v : List Nat) (bs : List Bool) (hll : bs.length ≤ 1099511627776) (a ta : Option Addr) (c tc : Nat) (w : World) (hrb : RdB w bs ta) :
  Pure Tryz.prog 60 [sval v a c bs ta tc] w (.bool (bs.all id)) := by
 refine enter Tryz.func60 rfl Tryz.ntmps60 rfl (St.init _) ?_
 refine jN 3 ?_
 refine WL.boxN rfl rfl (fun b1 => ?_)
 refine jN 5 ?_
 refine WC.drawsL (by kernel_rfl) (FactsOk.cons (ds := [1]) (LoadOk.whole (t := 1) rfl jM) (FactsOk.cons (ds := []) (LoadOk.one (t := 1) (off := 1) rfl jM rfl) (FactsOk.nil))) ?_
 refine jF 0 0 rfl rfl (Yl.loadN F.agg44 rfl rfl) ?_
 refine jT 2 rfl (Yl.fieldAddr0 F.fld44_1 rfl) ?_
 refine jF 3 1 rfl rfl (Yl.load1 F.one42 rfl) ?_
 refine jT 4 rfl (Yl.lenSl F.und42 rfl) ?_
 refine jA 1 rfl ?_
 refine WL.callV F.fun123 rfl rfl (fun w hS => Many_c v bs hll a ta c tc w (hrb.next hS)) ?_
 refine WD.on (closed_of (by kernel_rfl)) (fun w hS => Sx.gone rfl (Sx.keep (hS.cell jM rfl) (Sx.none))) ?_
 refine jT 5 rfl (Yl.eqI rfl rfl) ?_
 refine jT 6 rfl (Yl.assign rfl) ?_
 refine jD ?_
 refine jN 2 ?_
 refine WQ.ret (rs := [.tmp 2]) rfl (.tmp rfl .nil) (fun w hS => ⟨?_, hS.sublist (List.nil_sublist _)⟩)
 have e : ((cntB bs : Int) == (bs.length : Int)) = bs.all id := by
  rw [Bool.eq_iff_iff, beq_iff_eq, ← cnt_all]
  omega
 rw [e]
 rfl

structure PathG where
 oa : Option Addr
 oc : Nat
 vs : List Value
 F : List Nat
theorem SV.good.len {s : SV} (h : s.good) : s.bs.length ≤ 1099511627776 := by
 rw [h.bl]
 exact Nat.le_trans (Nat.pow_le_pow_right (by decide) h.vl) (by decide)

set_option maxRecDepth 100000 in
theorem rPaths_c : ∀ (n : Nat) (t : BT), t.size < n → ∀ (m : Nat) (s : SV) (L : List RowV) (path : List Int) (pa : Option Addr) (pc : Nat) (w : World), t.ok m → s.good → s.among L → RelS s t.ev → (∀ q ∈ L, RdRow w q) → RdC w path pa → path.length ≤ m → m ≤ 24 → pathsN t ≤ 4096 → t.ok 0 →
  Calls Tryz.prog 22 [s.val, .slice pa path.length pc].toArray w fun e w' => ∃ y : PathG, e = .returned (.slice y.oa (pathsT t path).length y.oc) ∧ St w [] [rowc (.slice y.oa (pathsT t path).length y.oc) (pathsT t path).length 41 1 y.vs, stepsC y.F y.vs (pathsT t path)] w' := by
 intro n
 induction n with
 | zero => intro t ht; omega
 | succ n hrec =>
 intro t hsz m s L path pa pc w hok hg ha hR hL hrp hpm hm24 hp ho
 refine enter Tryz.func22 rfl Tryz.ntmps22 rfl (St.init _) ?_
 refine jN 3 ?_
 refine WL.boxN rfl rfl (fun b2 => ?_)
 refine jN 10 ?_
 refine WL.callV F.fun59 rfl rfl (fun w hS => rEmpty_c s.v s.bs hg.len s.a s.ta s.c s.tc w ((ha.rdB hL).next hS)) ?_
 refine jN 2 ?_
 refine WC.cond rfl (fun h8 => ?_) (fun h8 => ?_)
 ·have ht := (rel_none hg ho hR).1 h8
  subst ht
  refine jN 4 ?_
  refine WA.chunks (fun w hS => hS.rowNil 3 1) ?_
  refine jN 1 ?_
  refine WL.appendC (n := 0) (v := .slice none 0 0) (xs := []) (news := ints path) F.el41 rfl rfl rfl jR (fun w hS hm => (RdC.nextO hrp hS).news hm) (by simp [ints]) (ints_one path) (Nat.le_trans (m := 1000) (by omega) (by decide)) (by omega) (fun ca cc => ?_)
  rw [Nat.zero_add, List.nil_append]
  refine jN 1 ?_
  refine WL.buildSlice F.sl52 F.ez52 rfl rfl rfl rfl jB rfl (fun b11 => ?_)
  refine jN 6 ?_
  refine WQ.ret (rs := [.tmp 4]) rfl (.tmp rfl .nil) (fun w hS => ?_)
  obtain ⟨F8, hF8⟩ := St.stepsSnocR (vs := []) (ss := []) (a := ca) (cap := cc) (c := path) rfl (St.stepsNil (St.pick hS (c := rowc (.slice ca path.length cc) path.length 3 1 (ints path)) jR))
  have hS9 := St.rowOf (n := 1) (sz := 1) ((St.pick hF8 (c := pt b11 [.slice ca path.length cc] 41) jR)) rfl (by decide)
  exact ⟨⟨some ⟨b11, 0, none⟩, 1, [.slice ca path.length cc], F8⟩, rfl, (jK hS9)⟩
 ·have hn0 : t ≠ .lf false := fun e => by rw [(rel_none hg ho hR).2 e] at h8; cases h8
  refine jN 8 ?_
  refine WL.callV F.fun60 rfl rfl (fun w hS => rFull_c s.v s.bs hg.len s.a s.ta s.c s.tc w ((ha.rdB hL).next hS)) ?_
  refine jN 2 ?_
  refine WC.cond rfl (fun h13 => ?_) (fun h13 => ?_)
  ·have ht := (rel_all hg ho hR).1 h13
   subst ht
   refine jN 8 ?_
   refine WQ.ret (rs := [.tmp 4]) rfl (.tmp rfl .nil) (fun w hS => ⟨⟨none, 0, [], []⟩, rfl, ?_⟩)
   have hS1 := (St.stepsNil hS).rowNil 41 1
   exact (jK hS1)
  ·have hn1 : t ≠ .lf true := fun e => by rw [(rel_all hg ho hR).2 e] at h13; cases h13
   obtain ⟨v, lo, hi, ht⟩ : ∃ v lo hi, t = .nd v lo hi := by
    cases t with
    | lf b => cases b <;> contradiction
    | nd v lo hi => exact ⟨_, _, _, rfl⟩
   subst ht
   have hv24 : v < 24 := ho.2.1
   have hmv : m ≤ v := hok.1
   have hszz : lo.size + hi.size + 1 < n + 1 := hsz
   have hpp : pathsN lo + pathsN hi ≤ 4096 := hp
   have hrf := root_feat ho
   have hsup32 : supT (canon (.nd v lo hi)).1 < 4294967296 := Nat.lt_of_lt_of_le (supT_24 ho) (by decide)
   refine jN 7 ?_
   refine WL.callV F.fun25 rfl rfl (fun w hS => rSupport_c s.v s.bs hg.so hg.lt hg.vl hg.bl s.a s.ta s.c s.tc w ((ha.rdV hL).next hS) ((ha.rdB hL).next hS)) ?_
   rw [rel_sup hg ho hR]
   refine jN 1 ?_
   refine jC (β := Option Addr × Nat) (res := fun y => .slice y.1 (featL (supT (canon (.nd v lo hi)).1)).length y.2) (cs := fun y => [rowc (.slice y.1 (featL (supT (canon (.nd v lo hi)).1)).length y.2) (featL (supT (canon (.nd v lo hi)).1)).length 3 1 (nums (featL (supT (canon (.nd v lo hi)).1)))]) F.fun34 rfl (fun w hS _ => Features_c (supT (canon (.nd v lo hi)).1) hsup32 w) (fun ⟨fa, fc⟩ => ?_)
   have hfl : 0 < (featL (supT (canon (.nd v lo hi)).1)).length := (List.getElem?_eq_some_iff.1 hrf).1
   refine WA.know (φ := ∃ g, fa = some ⟨g, 0, none⟩ ∧ (featL (supT (canon (.nd v lo hi)).1)).length = (featL (supT (canon (.nd v lo hi)).1)).length ∧ (featL (supT (canon (.nd v lo hi)).1)).length ≤ fc) (fun w hS => rowc_addr (hS.ok (rowc (.slice fa (featL (supT (canon (.nd v lo hi)).1)).length fc) (featL (supT (canon (.nd v lo hi)).1)).length 3 1 (nums (featL (supT (canon (.nd v lo hi)).1)))) jM) hfl) (fun ⟨g, hg9, _, _⟩ => ?_)
   subst hg9
   refine jN 1 ?_
   refine WL.indexAddr (i := 0) F.sl41 rfl rfl rfl hfl ?_
   refine jN 1 ?_
   refine WL.load1 F.one3 rfl rfl (v := .int .i64 (v : Int)) (fun w hS => by rw [Nat.zero_mul]; exact rowc_cell (hS.ok (rowc (.slice (some ⟨g, 0, none⟩) (featL (supT (canon (.nd v lo hi)).1)).length fc) (featL (supT (canon (.nd v lo hi)).1)).length 3 1 (nums (featL (supT (canon (.nd v lo hi)).1)))) jM) (nums_at hrf)) ?_
   refine jN 11 ?_
   refine jC (β := SX (L) (fun z => z.v = s.v ∧ ∀ M, z.has M = s.has (updN (confN s.v (hasN s.v M)) v false))) (res := fun y => y.1.1.val) (cs := fun y => [rwC y.1.2.1 y.1.2.2]) F.fun61 rfl (fun w hS _ => (rWith_s s hg v false hv24 L ha w (fun q hq => (hL q hq).next hS)).mono (fun e w2 h => h.sx)) (fun z1 => ?_)
   have hz1 := rel_kid ho (rel_with hg hv24 hR z1.2.2.1.2)
   dsimp only [cond_false] at hz1
   refine jN 2 ?_
   refine WA.chunks (fun w hS => hS.rowNil 3 1) ?_
   refine jN 1 ?_
   refine WL.appendC (n := 0) (v := .slice none 0 0) (xs := []) (news := ints path) F.el41 rfl rfl rfl jR (fun w hS hm => (RdC.nextO hrp hS).news hm) (by simp [ints]) (ints_one path) (Nat.le_trans (m := 1000) (by omega) (by decide)) (by omega) (fun p1a p1c => ?_)
   rw [Nat.zero_add, List.nil_append]
   refine jN 5 ?_
   refine WL.buildSlice F.sl41 F.ez41 rfl rfl rfl rfl jB rfl (fun b26 => ?_)
   refine jN 1 ?_
   refine WL.appendE (news := [.int .i64 ((v : Int) + 1)]) F.el41 rfl rfl rfl jR (fun w hS jj u hu => by rw [Nat.zero_add]; exact hS.cell (cs := [.int .i64 ((v : Int) + 1)]) jM hu) rfl jO (Nat.le_trans (m := 1000) (by omega) (by decide)) (by omega) (fun p2a p2c => ?_)
   refine jN 1 ?_
   refine jC (β := PathG) (res := fun y => .slice y.oa (pathsT lo (path ++ [((v : Int) + 1)])).length y.oc) (cs := fun y => [rowc (.slice y.oa (pathsT lo (path ++ [((v : Int) + 1)])).length y.oc) (pathsT lo (path ++ [((v : Int) + 1)])).length 41 1 y.vs, stepsC y.F y.vs (pathsT lo (path ++ [((v : Int) + 1)]))]) F.fun22 rfl (fun w hS _ => (show Calls _ _ _ _ _ from by have h9 := hrec lo (by omega) (v + 1) z1.1.1 (L ++ z1.1.2.2) (path ++ [((v : Int) + 1)]) p2a p2c w hok.2.2.2.1 z1.2.1 z1.2.2.2 hz1 (rows_more hL hS jM) (RdC.of_row rfl (by rw [snoc_len]; exact (show (rowc (.slice p2a (path.length + 1) p2c) (path.length + 1) 3 1 (ints (path ++ [((v : Int) + 1)]))).ok w from by (have e9 : ints (path ++ [((v : Int) + 1)]) = ints path ++ [.int .i64 ((v : Int) + 1)] := by simp [ints]); rw [e9]; exact hS.ok (rowc (.slice p2a (path.length + 1) p2c) (path.length + 1) 3 1 (ints path ++ [.int .i64 ((v : Int) + 1)])) jM))) (by rw [snoc_len]; omega) (by omega) (by omega) (ok_kid ho false); rw [snoc_len] at h9; exact h9)) (fun y1 => ?_)
   refine jN 13 ?_
   refine jC (β := SX (L) (fun z => z.v = s.v ∧ ∀ M, z.has M = s.has (updN (confN s.v (hasN s.v M)) v true))) (res := fun y => y.1.1.val) (cs := fun y => [rwC y.1.2.1 y.1.2.2]) F.fun61 rfl (fun w hS _ => (rWith_s s hg v true hv24 L ha w (fun q hq => (hL q hq).next hS)).mono (fun e w2 h => h.sx)) (fun z2 => ?_)
   have hz2 := rel_kid ho (rel_with hg hv24 hR z2.2.2.1.2)
   dsimp only [cond_true] at hz2
   refine jN 2 ?_
   refine WA.chunks (fun w hS => hS.rowNil 3 1) ?_
   refine jN 1 ?_
   refine WL.appendC (n := 0) (v := .slice none 0 0) (xs := []) (news := ints path) F.el41 rfl rfl rfl jR (fun w hS hm => (RdC.nextO hrp hS).news hm) (by simp [ints]) (ints_one path) (Nat.le_trans (m := 1000) (by omega) (by decide)) (by omega) (fun q1a q1c => ?_)
   rw [Nat.zero_add, List.nil_append]
   refine jN 3 ?_
   refine WL.negI rfl rfl (by omega) ?_
   refine jN 2 ?_
   refine WA.say 37 (.int .i64 (-((v : Int) + 1))) (by rw [show -((v : Int) + 1) = -(v : Int) - 1 by omega]; rfl) ?_
   refine jN 1 ?_
   refine WL.buildSlice F.sl41 F.ez41 rfl rfl rfl rfl jB rfl (fun b38 => ?_)
   refine jN 1 ?_
   refine WL.appendE (news := [.int .i64 (-((v : Int) + 1))]) F.el41 rfl rfl rfl jR (fun w hS jj u hu => by rw [Nat.zero_add]; exact hS.cell (cs := [.int .i64 (-((v : Int) + 1))]) jM hu) rfl jO (Nat.le_trans (m := 1000) (by omega) (by decide)) (by omega) (fun q2a q2c => ?_)
   refine jN 1 ?_
   refine jC (β := PathG) (res := fun y => .slice y.oa (pathsT hi (path ++ [-((v : Int) + 1)])).length y.oc) (cs := fun y => [rowc (.slice y.oa (pathsT hi (path ++ [-((v : Int) + 1)])).length y.oc) (pathsT hi (path ++ [-((v : Int) + 1)])).length 41 1 y.vs, stepsC y.F y.vs (pathsT hi (path ++ [-((v : Int) + 1)]))]) F.fun22 rfl (fun w hS _ => (show Calls _ _ _ _ _ from by have h9 := hrec hi (by omega) (v + 1) z2.1.1 (L ++ z2.1.2.2) (path ++ [-((v : Int) + 1)]) q2a q2c w hok.2.2.2.2 z2.2.1 z2.2.2.2 hz2 (rows_more hL hS jM) (RdC.of_row rfl (by rw [snoc_len]; exact (show (rowc (.slice q2a (path.length + 1) q2c) (path.length + 1) 3 1 (ints (path ++ [-((v : Int) + 1)]))).ok w from by (have e9 : ints (path ++ [-((v : Int) + 1)]) = ints path ++ [.int .i64 (-((v : Int) + 1))] := by simp [ints]); rw [e9]; exact hS.ok (rowc (.slice q2a (path.length + 1) q2c) (path.length + 1) 3 1 (ints path ++ [.int .i64 (-((v : Int) + 1))])) jM))) (by rw [snoc_len]; omega) (by omega) (by omega) (ok_kid ho true); rw [snoc_len] at h9; exact h9)) (fun y2 => ?_)
   refine WA.know (φ := y1.vs.length = (pathsT lo (path ++ [((v : Int) + 1)])).length ∧ ∀ u ∈ y1.vs, u.oneCell' = true) (fun w hS => steps_heads (hS.ok (stepsC y1.F y1.vs (pathsT lo (path ++ [((v : Int) + 1)]))) jM)) (fun ⟨hl1, _⟩ => ?_)
   refine WA.know (φ := y2.vs.length = (pathsT hi (path ++ [-((v : Int) + 1)])).length ∧ ∀ u ∈ y2.vs, u.oneCell' = true) (fun w hS => steps_heads (hS.ok (stepsC y2.F y2.vs (pathsT hi (path ++ [-((v : Int) + 1)]))) jM)) (fun ⟨hl2, ho2⟩ => ?_)
   have hpl1 := pathsT_len lo (path ++ [((v : Int) + 1)])
   have hpl2 := pathsT_len hi (path ++ [-((v : Int) + 1)])
   refine jN 1 ?_
   refine WL.appendC (n := (pathsT lo (path ++ [((v : Int) + 1)])).length) (v := .slice y1.oa (pathsT lo (path ++ [((v : Int) + 1)])).length y1.oc) (xs := y1.vs) (news := y2.vs) F.el52 rfl rfl rfl jR (fun w hS hm => (by obtain ⟨g9, e1, _, _⟩ := rowc_addr (hS.ok (rowc (.slice y2.oa (pathsT hi (path ++ [-((v : Int) + 1)])).length y2.oc) (pathsT hi (path ++ [-((v : Int) + 1)])).length 41 1 y2.vs) jM) (by omega); exact ⟨g9, 0, e1, fun j u hu => by rw [Nat.zero_add]; exact rowc_cell (by rw [← e1]; exact hS.ok (rowc (.slice y2.oa (pathsT hi (path ++ [-((v : Int) + 1)])).length y2.oc) (pathsT hi (path ++ [-((v : Int) + 1)])).length 41 1 y2.vs) jM) hu⟩)) (by omega) ho2 (Nat.le_trans (m := 1000000) (by omega) (by decide)) (by omega) (fun a3 c3 => ?_)
   refine jN 5 ?_
   refine WQ.ret (rs := [.tmp 4]) rfl (.tmp rfl .nil) (fun w hS => ?_)
   have hS1 := St.stepsJoin (St.pick (St.pick hS (c := stepsC y2.F y2.vs (pathsT hi (path ++ [-((v : Int) + 1)]))) jR) (c := stepsC y1.F y1.vs (pathsT lo (path ++ [((v : Int) + 1)]))) jR)
   have e9 : pathsT (.nd v lo hi) path = (pathsT lo (path ++ [((v : Int) + 1)])) ++ (pathsT hi (path ++ [-((v : Int) + 1)])) := rfl
   rw [e9]
   have e8 : ((pathsT lo (path ++ [((v : Int) + 1)])) ++ (pathsT hi (path ++ [-((v : Int) + 1)]))).length = (pathsT lo (path ++ [((v : Int) + 1)])).length + (pathsT hi (path ++ [-((v : Int) + 1)])).length := List.length_append
   rw [e8]
   exact ⟨⟨a3, c3, y1.vs ++ y2.vs, y1.F ++ y2.F⟩, rfl, (jK hS1)⟩

end Go.Proofs.YtkgllhkhdjodeaaGreat

namespace Go.Proofs.YtkgllhkhdjodeaaGreat
open Go Go.Eng Go.Proofs Dg
/-- A set that depends on few features has few paths. -/
theorem paths_few {f : Nat} : ∀ {t : BT} {m : Nat}, t.ok m → (∀ x, hasVar x t → f.testBit x = true) → pathsN t ≤ 2 ^ ((featL f).filter (fun x => decide (m ≤ x))).length
 | .lf b, m, _, _ => by
  have h2 : 1 ≤ 2 ^ ((featL f).filter (fun x => decide (m ≤ x))).length := Nat.one_le_two_pow
  cases b
  ·exact h2
  ·exact Nat.zero_le _
 | .nd v lo hi, m, h, hv => by
  have h1 := paths_few (t := lo) h.2.2.2.1 (fun x hx => hv x (.inr (.inl hx)))
  have h2 := paths_few (t := hi) h.2.2.2.2 (fun x hx => hv x (.inr (.inr hx)))
  have hmem : v ∈ (featL f).filter (fun x => decide (m ≤ x)) := List.mem_filter.2 ⟨feat_mem.2 ⟨h.2.1, hv v (.inl rfl)⟩, decide_eq_true h.1⟩
  have hlt : ((featL f).filter (fun x => decide (v + 1 ≤ x))).length + 1 ≤ ((featL f).filter (fun x => decide (m ≤ x))).length := by
   have e : (featL f).filter (fun x => decide (v + 1 ≤ x)) = ((featL f).filter (fun x => decide (m ≤ x))).filter (fun x => decide (v + 1 ≤ x)) := by
    rw [List.filter_filter]
    refine List.filter_congr fun x _ => ?_
    rw [Bool.eq_iff_iff, Bool.and_eq_true, decide_eq_true_eq, decide_eq_true_eq]
    have := h.1
    omega
   rw [e]
   generalize hq : (featL f).filter (fun x => decide (m ≤ x)) = l at hmem
   have key : ∀ l : List Nat, v ∈ l → (l.filter (fun x => decide (v + 1 ≤ x))).length + 1 ≤ l.length := by
    intro l
    induction l with
    | nil => intro h; cases h
    | cons y l ih =>
     intro h
     rcases List.mem_cons.1 h with rfl | h
     ·rw [List.filter_cons, if_neg (by simp), List.length_cons]
      exact Nat.succ_le_succ (List.length_filter_le _ _)
     ·have := ih h
      rw [List.filter_cons]
      split <;> simp only [List.length_cons] <;> omega
   exact key l hmem
  have h3 : 2 ^ (((featL f).filter (fun x => decide (v + 1 ≤ x))).length + 1) ≤ 2 ^ ((featL f).filter (fun x => decide (m ≤ x))).length := Nat.pow_le_pow_right (by decide) hlt
  rw [Nat.pow_succ] at h3
  show pathsN lo + pathsN hi ≤ _
  omega
theorem paths_len : ∀ {t : BT} {m : Nat} {pre : List Int}, t.ok m → pre.length ≤ m → ∀ c ∈ pathsT t pre, c.length ≤ 24 + pre.length
 | .lf b, m, pre, _, _, c, hc => by
  cases b
  ·have : c = pre := by simpa [pathsT] using hc
   rw [this]; omega
  ·simp [pathsT] at hc
 | .nd v lo hi, m, pre, h, hp, c, hc => by
  have hlen : ∀ {t : BT} {k : Nat} {q : List Int}, t.ok k → k ≤ 24 → q.length ≤ k → ∀ c ∈ pathsT t q, c.length ≤ 24 := by
   intro t
   induction t with
   | lf b =>
    intro k q _ hk hq c hc
    cases b
    ·have : c = q := by simpa [pathsT] using hc
     rw [this]; omega
    ·simp [pathsT] at hc
   | nd v lo hi ih1 ih2 =>
    intro k q h hk hq c hc
    have e1 := h.1
    have e2 := h.2.1
    rcases List.mem_append.1 hc with hc | hc
    ·exact ih1 h.2.2.2.1 (by omega) (by simp; omega) c hc
    ·exact ih2 h.2.2.2.2 (by omega) (by simp; omega) c hc
  have e1 := h.1
  have e2 := h.2.1
  have := hlen (t := .nd v lo hi) (k := m) h (by omega) hp c hc
  omega
/-- The last set of a script: of few features. -/
theorem last_few {l : List OpV} {f : Nat} (hin : ∀ x ∈ l, OpIn x f ∧ x.l.length ≤ 40) {ds : List DV} (h : evs' ds = mkD l) {x : DV} (hx : x ∈ ds) (ho : x.1.ok 0) : ∀ k, hasVar k x.1 → f.testBit k = true := fun k hk => by
 have hd : dep f x.1.ev := by
  refine mkD_dep l [fun _ => false] (fun y hy => (hin y hy).1) (fun e he => by rw [List.mem_singleton.1 he]; exact dep_const f false) _ ?_
  have : x.1.ev ∈ evs' ds := List.mem_map.2 ⟨x, hx, rfl⟩
  rw [h] at this
  exact this
 exact sup_in ho hd ((sup_var ho k).2 hk)

set_option maxRecDepth 100000 in
theorem FormulaClauses_c (l : List OpV) (a : Option Addr) (c : Nat) (w : World) (hwf : ∀ x ∈ l, x.wf) (hr : RdOps w l a) :
  Pure Tryz.prog 4 [.slice a l.length c] w (.bool true) := by
 refine enter Tryz.func4 rfl Tryz.ntmps4 rfl (St.init _) ?_
 refine jN 12 ?_
 refine jC (β := { b : Bool // b = true → MentP l }) (res := fun z => .bool z.1) (cs := fun _ => []) F.fun18 rfl (fun w hS _ => Mentioned_c l a c hwf w (hr.next hS)) (fun ⟨b, hb⟩ => ?_)
 dsimp only
 refine jN 4 ?_
 refine WC.cond rfl (fun h10 => ?_) (fun h10 => ?_)
 ·refine jN 3 ?_
  refine WL.callV F.fun9 rfl rfl (fun w _ => wakes_c w) ?_
  refine jN 6 ?_
  exact WQ.ret (rs := [.tmp 2]) rfl (.tmp rfl .nil) (fun w hS => ⟨rfl, hS.sublist (List.nil_sublist _)⟩)
 ·have hbt : b = true := by
   cases b with
   | false => simp at h10
   | true => rfl
  obtain ⟨hl12, f, hf32, hf7, hin⟩ := hb hbt
  refine jN 7 ?_
  refine jC (β := { z : BothG // BothZ l z }) (res := fun z => .tuple #[.slice z.1.sa z.1.ds.length z.1.sc, .slice z.1.ta z.1.ss.length z.1.tc, .bool z.1.b]) (cs := fun z => [rowc (.slice z.1.sa z.1.ds.length z.1.sc) z.1.ds.length 35 2 (dcs z.1.ds), dsC z.1.F z.1.ds, rowc (.slice z.1.ta z.1.ss.length z.1.tc) z.1.ss.length 44 2 (svs z.1.ss), rwC z.1.G z.1.M]) F.fun19 rfl (fun w hS _ => Both_c l a c hwf hl12 f hin w (hr.next hS)) (fun ⟨z, hz⟩ => ?_)
  dsimp only
  refine jN 18 ?_
  obtain ⟨x, hx⟩ : ∃ x, z.ds[l.length]? = some x := ⟨_, List.getElem?_eq_getElem (by have := hz.len; omega)⟩
  have hxm := List.mem_of_getElem? hx
  have hlen := hz.len
  have hdl1 : z.ds.length - 1 = l.length := by omega
  have hsl1 : z.ss.length = z.ds.length := by rw [hz.rel.len, ← hz.ev]; unfold evs'; rw [List.length_map]
  obtain ⟨s, hs⟩ : ∃ s, z.ss[l.length]? = some s := ⟨_, List.getElem?_eq_getElem (by omega)⟩
  obtain ⟨hgs, has⟩ := hz.gd s (List.mem_of_getElem? hs)
  have hev : (evs' z.ds)[l.length]? = some x.1.ev := by unfold evs'; rw [List.getElem?_map, hx]; rfl
  have hrel : RelS s x.1.ev := hz.rel.at' _ _ _ hs (by rw [← hz.ev]; exact hev)
  refine WA.know (φ := ∃ bd, z.sa = some ⟨bd, 0, none⟩ ∧ z.ds.length = z.ds.length ∧ z.ds.length ≤ z.sc) (fun w hS => rowc_addr (hS.ok (rowc (.slice z.sa z.ds.length z.sc) z.ds.length 35 2 (dcs z.ds)) jM) (by omega)) (fun ⟨bd, hbd, _, _⟩ => ?_)
  refine WA.know (φ := x.1.ok 0) (fun w hS => (dsC_rd (hS.ok (dsC z.F z.ds) jM) hxm).1) (fun hok => ?_)
  have hfew := last_few hin hz.ev hxm hok
  have hpn : pathsN x.1 ≤ 4096 := by
   have h1 := paths_few (m := 0) hok hfew
   have h2 : (featL f).filter (fun k => decide (0 ≤ k)) = featL f := List.filter_eq_self.2 (fun k _ => by simp)
   rw [h2] at h1
   have h3 : 2 ^ (featL f).length ≤ 2 ^ 7 := Nat.pow_le_pow_right (by decide) hf7
   omega
  refine jN 8 ?_
  refine WA.say 22 (.int .i64 (l.length : Int)) (by rw [show (l.length : Int) = (z.ds.length : Int) - 1 by omega]; rfl) ?_
  refine WA.say 19 (.slice (some ⟨bd, 0, none⟩) z.ds.length z.sc) (by rw [← hbd]; rfl) ?_
  refine jN 1 ?_
  refine WL.indexAddr (i := l.length) F.sl48 rfl rfl rfl (by omega) ?_
  refine jN 1 ?_
  refine WL.loadN F.agg35 rfl rfl (vs := dvl x) rfl (fun w hS j v hv => by rw [Nat.zero_add]; exact rowc_cells (by rw [← hbd]; exact hS.ok (rowc (.slice z.sa z.ds.length z.sc) z.ds.length 35 2 (dcs z.ds)) jM) (dcs_at hx j v hv)) ?_
  refine jN 1 ?_
  refine jC (β := TGr) (res := fun y => .tuple #[.slice y.oa (pathsT x.1 []).length y.oc, .int .i64 0]) (cs := fun y => [rowc (.slice y.oa (pathsT x.1 []).length y.oc) (pathsT x.1 []).length 41 1 y.vs, stepsC y.Fs y.vs (pathsT x.1 [])]) F.fun20 rfl (fun w hS _ => Clauses_in x.1 x.2.1 x.2.2 w (dsC_rd (hS.ok (dsC z.F z.ds) jM) hxm) hpn) (fun y => ?_)
  refine jN 20 ?_
  refine WA.splitB (i := 30) rfl (fun g30 => ?_) (fun g30 => ?_)
  ·refine jN 15 ?_
   refine WA.say 35 (.int .i64 (l.length : Int)) (by rw [show (l.length : Int) = (z.ss.length : Int) - 1 by omega]; rfl) ?_
   refine WA.know (φ := ∃ be, z.ta = some ⟨be, 0, none⟩ ∧ z.ss.length = z.ss.length ∧ z.ss.length ≤ z.tc) (fun w hS => rowc_addr (hS.ok (rowc (.slice z.ta z.ss.length z.tc) z.ss.length 44 2 (svs z.ss)) jM) (by omega)) (fun ⟨be, hbe, _, _⟩ => ?_)
   refine WA.say 32 (.slice (some ⟨be, 0, none⟩) z.ss.length z.tc) (by rw [← hbe]; rfl) ?_
   refine jN 2 ?_
   refine WL.indexAddr (i := l.length) F.sl49 rfl rfl rfl (by omega) ?_
   refine jN 2 ?_
   refine WL.loadN F.agg44 rfl rfl (vs := scl s) rfl (fun w hS j v hv => by rw [Nat.zero_add]; exact rowc_cells (by rw [← hbe]; exact hS.ok (rowc (.slice z.ta z.ss.length z.tc) z.ss.length 44 2 (svs z.ss)) jM) (svs_at hs j v hv)) ?_
   refine jN 2 ?_
   refine jC (β := PathG) (res := fun q => .slice q.oa (pathsT x.1 []).length q.oc) (cs := fun q => [rowc (.slice q.oa (pathsT x.1 []).length q.oc) (pathsT x.1 []).length 41 1 q.vs, stepsC q.F q.vs (pathsT x.1 [])]) F.fun22 rfl (fun w hS _ => rPaths_c (x.1.size + 1) x.1 (Nat.lt_succ_self _) 0 s z.M [] none 0 w hok hgs has hrel (fun r hr2 => rwC_rd (hS.ok (rwC z.G z.M) jM) hr2) (fun j u hu => by cases hu) (Nat.le_refl _) (by decide) hpn hok) (fun q => ?_)
   refine jN 2 ?_
   refine WL.callV F.fun21 rfl rfl (fun w hS => lsame_c (pathsT x.1 []) y.oa q.oa y.oc q.oc y.vs q.vs (by rw [pathsT_len]; omega) (fun c hc => by have := paths_len (pre := []) hok (Nat.le_refl _) c hc; simp at this; omega) w (RdLL.made rfl (hS.ok (rowc (.slice y.oa (pathsT x.1 []).length y.oc) (pathsT x.1 []).length 41 1 y.vs) jM) (hS.ok (stepsC y.Fs y.vs (pathsT x.1 [])) jM)) (RdLL.made rfl (hS.ok (rowc (.slice q.oa (pathsT x.1 []).length q.oc) (pathsT x.1 []).length 41 1 q.vs) jM) (hS.ok (stepsC q.F q.vs (pathsT x.1 [])) jM))) ?_
   refine jN 4 ?_
   refine WA.splitB (i := 41) rfl (fun g41 => ?_) (fun g41 => ?_)
   ·refine jN 2 ?_
    refine WL.callV F.fun9 rfl rfl (fun w _ => wakes_c w) ?_
    refine jN 7 ?_
    exact WQ.ret (rs := [.tmp 2]) rfl (.tmp rfl .nil) (fun w hS => ⟨rfl, hS.sublist (List.nil_sublist _)⟩)
   ·exfalso; cases g41
  ·exfalso; cases g30

end Go.Proofs.YtkgllhkhdjodeaaGreat
