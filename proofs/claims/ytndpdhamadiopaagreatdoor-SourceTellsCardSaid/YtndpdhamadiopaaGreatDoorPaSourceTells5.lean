/- Parts of the walk, put together by a program. By an AI agent. -/
import Derived.Test.YtndpdhamadiopaaGreatDoorPaSourceTells4
import Derived.Laws.CopyRow
import Derived.Laws.IdiomStrings
import Derived.Lib.AppendZeros
set_option linter.unusedSimpArgs false
set_option linter.unusedVariables false
namespace Go.Proofs.YtndpdhamadiopaaGreatDoor
open Go Go.Eng Go.Proofs Dg
theorem RdSl.of_pt {α : Type} {cells : α → List Value} {sz : Nat} {w : World} {l : List α} {b : Nat} {e : TypeId} (hl : ∀ x ∈ l, (cells x).length = sz) (h : (pt b (l.flatMap cells) e).ok w) : RdSl cells sz w l (some ⟨b, 0, none⟩) := fun i x hx => by
 refine ⟨b, 0, rfl, fun j u hu => ?_⟩
 rw [Nat.zero_add]
 exact cell_of_heap h (flat_at hl hx j u hu)
structure TwoR (x y : RwV) (u : Nat) : Prop where
 uu : u < 4294967296
 xi : x.i.length < 300
 xn : x.n.length < 300
 yi : y.i.length < 300
 yn : y.n.length < 300
 xp : ∀ z ∈ x.i, z.p.length ≤ 1000000000
 xq : ∀ z ∈ x.n, z.p.length ≤ 1000000000
 yp : ∀ z ∈ y.i, z.p.length ≤ 1000000000
 yq : ∀ z ∈ y.n, z.p.length ≤ 1000000000
 xt : ∀ z ∈ x.i, z.t.length ≤ 31000
 xu : ∀ z ∈ x.i, inU z.q u
 xv : ∀ z ∈ x.n, inU z.q u
 yu : ∀ z ∈ y.i, inU z.q u
 yv : ∀ z ∈ y.n, inU z.q u
theorem TwoR.of {x y : RwV} {uu n : Nat} (hu : uu < 16777216) (hn : n < 300) (h : ∀ z ∈ [x, y], RbR uu n z) : TwoR x y uu := by
 have hx := h x (by simp)
 have hy := h y (by simp)
 have nx := hx.nn
 have ny := hy.nn
 exact {
  uu := by omega
  xi := by omega
  xn := by omega
  yi := by omega
  yn := by omega
  xp := fun z hz => by have := (hx.i z hz).nn; omega
  xq := fun z hz => by have := (hx.o z hz).nn; omega
  yp := fun z hz => by have := (hy.i z hz).nn; omega
  yq := fun z hz => by have := (hy.o z hz).nn; omega
  xt := fun z hz => by have := (hx.i z hz).nn; omega
  xu := fun z hz => (hx.i z hz).b.inU
  xv := fun z hz => (hx.o z hz).b.inU
  yu := fun z hz => (hy.i z hz).b.inU
  yv := fun z hz => (hy.o z hz).b.inU }
theorem RdSl.at_ {α : Type} {cells : α → List Value} {sz : Nat} {w : World} {l : List α} {a : Option Addr} {b o : Nat} (h : RdSl cells sz w l a) (ha : a = some ⟨b, o, none⟩) {i : Nat} {x : α} (hx : l[i]? = some x) {j : Nat} {u : Value} (hu : (cells x)[j]? = some u) : w.cell? ⟨b, o + i * sz + j, none⟩ = some u := by
 obtain ⟨b2, o2, e, hc⟩ := h i x hx
 rw [ha] at e
 cases e
 exact hc j u hu
theorem eqBy_refl {α : Type} {f : α → α → Bool} (h : ∀ x, f x x = true) : ∀ l : List α, eqBy f l l = true
 | [] => rfl
 | x :: l => by rw [eqBy, h, eqBy_refl h l]; rfl
def ptR (rs : List RtV) : Nat → List RtV
 | 0 => []
 | k + 1 => match rs[k]? with
  | none => ptR rs k
  | some y => if (ptR rs k).any (fun z => decide (z.c = y.c)) then ptR rs k else ptR rs k ++ [y]
theorem ptR_T {rs : List RtV} {k : Nat} {y : RtV} (h : rs[k]? = some y) (hb : (ptR rs k).any (fun z => decide (z.c = y.c)) = true) : ptR rs (k + 1) = ptR rs k := by
 rw [ptR, h]
 exact if_pos hb
theorem ptR_F {rs : List RtV} {k : Nat} {y : RtV} (h : rs[k]? = some y) (hb : (ptR rs k).any (fun z => decide (z.c = y.c)) = false) : ptR rs (k + 1) = ptR rs k ++ [y] := by
 rw [ptR, h]
 exact if_neg (by simp [hb])
theorem ptR_len (rs : List RtV) : ∀ k, (ptR rs k).length ≤ k ∧ ∀ z ∈ ptR rs k, z ∈ rs
 | 0 => by simp [ptR]
 | k + 1 => by
  have ih := ptR_len rs k
  cases hk : rs[k]? with
  | none =>
   have e : ptR rs (k + 1) = ptR rs k := by rw [ptR, hk]
   rw [e]
   exact ⟨by omega, ih.2⟩
  | some y =>
   cases hb : (ptR rs k).any (fun z => decide (z.c = y.c)) with
   | true => rw [ptR_T hk hb]; exact ⟨by omega, ih.2⟩
   | false =>
    rw [ptR_F hk hb]
    refine ⟨by rw [List.length_append, List.length_singleton]; omega, fun z hz => ?_⟩
    rcases List.mem_append.1 hz with hz | hz
    ·exact ih.2 z hz
    ·rw [List.mem_singleton.1 hz]; exact List.mem_of_getElem? hk
theorem ptR_pt {u : Nat} {l : List ItV} {ts : List TkV} {rs : List RtV} {cs : List (List Nat × Option Addr)} (h1 : ts.map (·.x) = l) (h2 : RtG u l rs cs) : ∀ k, (ptR rs k).map (·.c) = (ptK u ts k).map (fun y => thoseL y.x.q u)
 | 0 => rfl
 | k + 1 => by
  have ih := ptR_pt h1 h2 k
  have e1 : (ts[k]?).map (·.x) = l[k]? := by rw [← h1, List.getElem?_map]
  have e2 : (rs[k]?).map (·.x) = l[k]? := by rw [← h2.x, List.getElem?_map]
  cases hk : ts[k]? with
  | none =>
   rw [hk] at e1
   have hr : rs[k]? = none := by
    rw [← e1] at e2
    simpa using e2
   rw [ptR, ptK, hk, hr]
   exact ih
  | some y =>
   obtain ⟨r, hr, hrx⟩ : ∃ r, rs[k]? = some r ∧ r.x = y.x := by
    rw [← e1, hk] at e2
    simpa using e2
   have hrc : r.c = thoseL y.x.q u := by rw [(h2.d r (List.mem_of_getElem? hr)).1, hrx]
   have key : (ptR rs k).any (fun z => decide (z.c = r.c)) = (ptK u ts k).any (fun z => decide (thoseL z.x.q u = thoseL y.x.q u)) := by
    have h9 := congrArg (fun l => l.any (fun c => decide (c = r.c))) ih
    simp only [List.any_map] at h9
    rw [hrc] at h9 ⊢
    exact h9
   cases hb : (ptK u ts k).any (fun z => decide (thoseL z.x.q u = thoseL y.x.q u)) with
   | true => rw [ptK_T hk hb, ptR_T hr (key.trans hb), ih]
   | false => rw [ptK_F hk hb, ptR_F hr (key.trans hb), List.map_append, List.map_append, ih, List.map_singleton, List.map_singleton, hrc]
abbrev crC (y : RtV) : List Value := [.slice y.ca y.c.length y.cc]
theorem thoseL_32 {q : List QB} {u : Nat} : ∀ z ∈ thoseL q u, z < 4294967296 := fun z hz => cfgsN_32 (Nat.le_refl 32) (List.mem_filter.1 hz).1
theorem two_same {u : Nat} (hu : u < 4294967296) {l m : List ItV} {n o : List NoV} {ts ss : List TkV} {ds es : List DV} {rs qs : List RtV} {cs fs : List (List Nat × Option Addr)} {gs is : List DgV} {hs js : List RgV}
  (t1 : TkG l ts ds) (t2 : TkG m ss es) (r1 : RtG u l rs cs) (r2 : RtG u m qs fs) (g1 : DgG n gs ds) (g2 : DgG o is es) (h1 : RgG u n hs cs) (h2 : RgG u o js fs)
  (i1 : ∀ y ∈ l, inU y.q u) (i2 : ∀ y ∈ m, inU y.q u) (k1 : ∀ y ∈ n, inU y.q u) (k2 : ∀ y ∈ o, inU y.q u) :
  (eqBy sameTB ts ss && eqBy sameDB gs is) = (eqBy sameRt rs qs && eqBy sameRg hs js) := by
 rw [sameTB_it hu t1 t2 i1 i2, sameDB_no hu g1 g2 k1 k2, sameRt_it r1 r2, sameRg_no h1 h2]
theorem self_same {u : Nat} (hu : u < 4294967296) {l : List ItV} {n : List NoV} {ts : List TkV} {ds : List DV} {gs : List DgV}
  (t1 : TkG l ts ds) (g1 : DgG n gs ds) (i1 : ∀ y ∈ l, inU y.q u) (k1 : ∀ y ∈ n, inU y.q u) : (eqBy sameTB ts ts && eqBy sameDB gs gs) = true := by
 rw [sameTB_it hu t1 t1 i1 i1, sameDB_no hu g1 g1 k1 k1, eqBy_refl (fun x => by simp [itB]), eqBy_refl (fun x => by simp [noB])]
 rfl
structure TeLG where
 i : Nat
 ca : Option Addr
 cc : Nat
 fa : Option Addr
 fc : Nat
set_option maxRecDepth 100000 in
theorem SourceTells_c (x y : RwV) (f ln : Int) (w : World) (hl : LibW w) (hg : SgW w) (haw : ∀ w, LibW w → SgW w → Pure Tryz.prog 8 [] w (.bool true)) (hx : RwR w x) (hy : RwR w y) :
  Pure Tryz.prog 5 [.agg (rwC x).toArray, .agg (rwC y).toArray, .int .i64 f, .int .i64 ln] w (.bool true) := by
 have hxy : ∀ a ∈ [x, y], RwR w a := by
  intro a ha
  rcases List.mem_cons.1 ha with rfl | ha
  ·exact hx
  ·rw [List.mem_singleton.1 ha]; exact hy
 refine enter Tryz.func5 rfl Tryz.ntmps5 rfl (St.init _) ?_
 refine jN 3 ?_
 refine WL.boxN rfl rfl (fun b4 => ?_)
 refine jN 1 ?_
 refine WL.boxN rfl rfl (fun b5 => ?_)
 refine jN 11 ?_
 refine WL.buildSlice F.sl22 F.ez22 rfl rfl rfl rfl jB rfl (fun b24 => ?_)
 refine jN 1 ?_
 refine WL.call0 (β := Nat × Nat × Bool) (res := fun z => .returned (.tuple #[.int .u32 (z.1 : Int), .bool z.2.2])) (cs := fun _ => []) (ψ := fun z => z.1 < 16777216 ∧ (z.2.2 = true → z.2.1 < 300 ∧ ∀ a ∈ [x, y], RbR z.1 z.2.1 a)) F.fun7 (fun d h => by cases h; rfl) rfl (fun w hS => (rowBits_c [x, y] (some ⟨b24, 0, none⟩) 2 [] none 0 6 w (by (show 2 ≤ LM); decide) (RdSl.of_pt (fun _ _ => rfl) (hS.ok (pt b24 ([x, y].flatMap rwC) 43) jM)) (fun a ha => (hxy a ha).next hS) (by decide) (fun i x hx => by simp at hx) (by simp)).mono (fun e w2 ⟨u, n, b, h1, h2, h3, h4⟩ => ⟨(u, n, b), ⟨h1, fun hb => ⟨(h2 hb).1, (h2 hb).2.2.2.2⟩⟩, h3, h4⟩)) (fun ⟨u, n, b⟩ ⟨hu, hub⟩ => ?_)
 dsimp only at hu hub
 show WA _ _ _ _ _ ((25, .tuple #[.int .u32 (u : Int), .bool b]) :: _) _
 refine jN 21 ?_
 refine WC.cond rfl (fun h29 => ?_) (fun h29 => ?_)
 ·refine jN 3 ?_
  refine WL.callV F.fun8 rfl rfl (fun w hS => haw w (hl.next hS) (hg.next hS)) ?_
  refine jN 6 ?_
  exact WQ.ret (rs := [.tmp 8]) rfl (.tmp rfl .nil) (fun w hS => ⟨rfl, hS.sublist (List.nil_sublist _)⟩)
 ·have hb : b = true := by simpa using h29
  obtain ⟨hn, hrb⟩ := hub hb
  have htw := TwoR.of hu hn hrb
  have huu := htw.uu
  refine jN 9 ?_
  refine WL.call0 (β := MdV) (res := fun m => .returned (.tuple #[.agg (mdA m).toArray, .agg (mdB m).toArray])) (cs := fun m => [mdT m, mdR m, mdD m, mdH m, dsC m.F m.ds, insC m.G m.cs]) (ψ := fun m => MdG u x x.i.length x.n.length m) F.fun9 (fun d h => by cases h; rfl) rfl (fun w hS => (made_c x u htw.uu htw.xi htw.xn w (hx.next hS)).mono (fun e w2 ⟨m, h1, h2, h3⟩ => ⟨m, h1, h2, h3⟩)) (fun ⟨ts, ta, tc, rs, ra, rc, gs, ga, gc, hs, ha, hc, F9, ds, G9, cs⟩ hm1 => ?_)
  have t1 : TkG x.i ts ds := by have := hm1.t; rwa [List.take_length] at this
  have r1 : RtG u x.i rs cs := by have := hm1.r; rwa [List.take_length] at this
  have g1 : DgG x.n gs ds := by have := hm1.g; rwa [List.take_length] at this
  have k1 : RgG u x.n hs cs := by have := hm1.h; rwa [List.take_length] at this
  have l1 : ts.length = x.i.length := by rw [← t1.x, List.length_map]
  have l2 : rs.length = x.i.length := by rw [← r1.x, List.length_map]
  have l3 : gs.length = x.n.length := by rw [← g1.x, List.length_map]
  have l4 : hs.length = x.n.length := by rw [← k1.x, List.length_map]
  have hx3 := htw.xi
  have hx4 := htw.xn
  show WA _ _ _ _ _ ((34, .tuple #[.agg [.slice ta ts.length tc, .slice ga gs.length gc].toArray, .agg [.slice ra rs.length rc, .slice ha hs.length hc].toArray]) :: _) ((rowc (.slice ta ts.length tc) ts.length 105 7 (ts.flatMap tkC)) :: (rowc (.slice ra rs.length rc) rs.length 73 6 (rs.flatMap rtC)) :: mdD (⟨ts, ta, tc, rs, ra, rc, gs, ga, gc, hs, ha, hc, F9, ds, G9, cs⟩ : MdV) :: mdH (⟨ts, ta, tc, rs, ra, rc, gs, ga, gc, hs, ha, hc, F9, ds, G9, cs⟩ : MdV) :: dsC F9 ds :: insC G9 cs :: _)
  refine jN 7 ?_
  refine WL.alloc F.zero33 rfl (fun b11 => ?_)
  refine jN 1 ?_
  refine WL.alloc F.zero37 rfl (fun b12 => ?_)
  refine jN 13 ?_
  refine WL.call0 (β := MdV) (res := fun m => .returned (.tuple #[.agg (mdA m).toArray, .agg (mdB m).toArray])) (cs := fun m => [mdT m, mdR m, mdD m, mdH m, dsC m.F m.ds, insC m.G m.cs]) (ψ := fun m => MdG u y y.i.length y.n.length m) F.fun9 (fun d h => by cases h; rfl) rfl (fun w hS => (made_c y u htw.uu htw.yi htw.yn w (hy.next hS)).mono (fun e w2 ⟨m, h1, h2, h3⟩ => ⟨m, h1, h2, h3⟩)) (fun m2 hm2 => ?_)
  have t2 : TkG y.i m2.ts m2.ds := by have := hm2.t; rwa [List.take_length] at this
  have r2 : RtG u y.i m2.rs m2.cs := by have := hm2.r; rwa [List.take_length] at this
  have g2 : DgG y.n m2.gs m2.ds := by have := hm2.g; rwa [List.take_length] at this
  have k2 : RgG u y.n m2.hs m2.cs := by have := hm2.h; rwa [List.take_length] at this
  have l5 : m2.ts.length = y.i.length := by rw [← t2.x, List.length_map]
  have l6 : m2.rs.length = y.i.length := by rw [← r2.x, List.length_map]
  have l7 : m2.gs.length = y.n.length := by rw [← g2.x, List.length_map]
  have l8 : m2.hs.length = y.n.length := by rw [← k2.x, List.length_map]
  have hx5 := htw.yi
  have hx6 := htw.yn
  have hsame := two_same htw.uu t1 t2 r1 r2 g1 g2 k1 k2 htw.xu htw.yu htw.xv htw.yv
  have hself := self_same htw.uu t1 g1 htw.xu htw.xv
  show WA _ _ _ _ _ ((40, .tuple #[.agg (mdA m2).toArray, .agg (mdB m2).toArray]) :: _) _
  refine jN 7 ?_
  refine WL.alloc F.zero33 rfl (fun b13 => ?_)
  refine jN 1 ?_
  refine WL.alloc F.zero37 rfl (fun b14 => ?_)
  refine jN 8 ?_
  refine WC.cutP [(63, .bool false), (2, .int .i64 f), (3, .int .i64 ln), (9, .int .u32 (u : Int)), (11, pp b11), (12, pp b12)] (fun c a d v w h => by cases d <;> exact h) (fun Q' hP hQ => ?_) ?_
  ·refine WC.drawsL (by kernel_rfl) (FactsOk.cons (ds := [2, 5, 10, 15, 18]) (LoadOk.whole (t := 11) rfl jM) (FactsOk.cons (ds := [2, 5, 10, 15, 18]) (LoadOk.whole (t := 13) rfl jM) (FactsOk.cons (ds := [5, 10, 15, 18]) (LoadOk.whole (t := 12) rfl jM) (FactsOk.cons (ds := [5, 10, 15, 18]) (LoadOk.whole (t := 14) rfl jM) (FactsOk.cons (ds := [10, 15, 18]) (LoadOk.whole (t := 11) rfl jM) (FactsOk.cons (ds := [10, 15, 18]) (LoadOk.whole (t := 11) rfl jM) (FactsOk.cons (ds := [15, 18]) (LoadOk.whole (t := 11) rfl jM) (FactsOk.cons (ds := [18]) (LoadOk.one (t := 12) (off := 0) rfl jM rfl) (FactsOk.nil))))))))) ?_
   refine jF 0 0 rfl rfl (Yl.loadN F.agg33 rfl rfl) ?_
   refine jF 1 1 rfl rfl (Yl.loadN F.agg33 rfl rfl) ?_
   refine jF 3 2 rfl rfl (Yl.loadN F.agg37 rfl rfl) ?_
   refine jF 4 3 rfl rfl (Yl.loadN F.agg37 rfl rfl) ?_
   refine jA 2 rfl ?_
   refine WL.callV F.fun25 rfl rfl (fun w hS => Same6_c ts m2.ts ta m2.ta tc m2.tc gs m2.gs ga m2.ga gc m2.gc (by omega) (by omega) (by omega) (by omega) w (hm1.tsR hx htw.xp hS jM jM) (hm2.tsR hy htw.yp hS jM jM) (hm1.dsR hx htw.xq hS jM jM) (hm2.dsR hy htw.yq hS jM jM)) ?_
   refine WD.on (closed_of (by decide +kernel)) (fun w hS => Sx.gone rfl (Sx.gone rfl (Sx.keep ((fun j v hv => by rw [Nat.zero_add]; exact hS.cell jM hv)) (Sx.keep ((fun j v hv => by rw [Nat.zero_add]; exact hS.cell jM hv)) (Sx.keep ((fun j v hv => by rw [Nat.zero_add]; exact hS.cell jM hv)) (Sx.keep ((fun j v hv => by rw [Nat.zero_add]; exact hS.cell jM hv)) (Sx.keep ((fun j v hv => by rw [Nat.zero_add]; exact hS.cell jM hv)) (Sx.keep (hS.cell jM rfl) (Sx.none))))))))) ?_
   refine jA 5 rfl ?_
   refine WL.callV F.fun26 rfl rfl (fun w hS => same6_c rs m2.rs ra m2.ra rc m2.rc hs m2.hs ha m2.ha hc m2.hc (by omega) (by omega) (by omega) (by omega) w (hm1.rsR hx htw.xp hS jM jM) (hm2.rsR hy htw.yp hS jM jM) (hm1.hsR hx htw.xq hS jM jM) (hm2.hsR hy htw.yq hS jM jM)) ?_
   refine WD.on (closed_of (by decide +kernel)) (fun w hS => Sx.gone rfl (Sx.gone rfl (Sx.gone rfl (Sx.gone rfl (Sx.keep ((fun j v hv => by rw [Nat.zero_add]; exact hS.cell jM hv)) (Sx.keep ((fun j v hv => by rw [Nat.zero_add]; exact hS.cell jM hv)) (Sx.keep ((fun j v hv => by rw [Nat.zero_add]; exact hS.cell jM hv)) (Sx.keep (hS.cell jM rfl) (Sx.none))))))))) ?_
   refine jT 6 rfl (Yl.bin rfl rfl (fun w => run_neR _ _ w)) ?_
   refine jT 7 rfl (Yl.move rfl) ?_
   refine fun hcl => WA.splitB (i := 50) rfl (fun g50 => ?_) (fun g50 => ?_)
   ·refine (show WD _ _ _ _ _ _ _ _ _ _ _ _ from ?_) hcl
    exfalso; rw [hsame] at g50; simp at g50
   ·refine (show WD _ _ _ _ _ _ _ _ _ _ _ _ from ?_) hcl
    refine WD.takeG (i := 8) rfl rfl rfl rfl rfl rfl (by decide +kernel) (by decide +kernel) (by decide +kernel) (fun _ _ _ h => hP _ _ _ _ _ h) (by kernel_rfl) (need_at2 4 rfl (by decide +kernel)) (Yl.loadN F.agg33 rfl rfl) ?_
    refine WD.takeG (i := 9) rfl rfl rfl rfl rfl rfl (by decide +kernel) (by decide +kernel) (by decide +kernel) (fun _ _ _ h => hP _ _ _ _ _ h) (by kernel_rfl) (need_at2 5 rfl (by decide +kernel)) (Yl.loadN F.agg33 rfl rfl) ?_
    refine jA 10 rfl ?_
    refine WL.guardT rfl rfl rfl ?_
    refine WL.callV F.fun25 rfl rfl (fun w hS => Same6_c ts ts ta ta tc tc gs gs ga ga gc gc (by omega) (by omega) (by omega) (by omega) w (hm1.tsR hx htw.xp hS jM jM) (hm1.tsR hx htw.xp hS jM jM) (hm1.dsR hx htw.xq hS jM jM) (hm1.dsR hx htw.xq hS jM jM)) ?_
    refine WD.on (closed_of (by decide +kernel)) (fun w hS => Sx.gone rfl (Sx.gone rfl (Sx.gone rfl (Sx.gone rfl (Sx.gone rfl (Sx.gone rfl (Sx.keep ((fun j v hv => by rw [Nat.zero_add]; exact hS.cell jM hv)) (Sx.keep (hS.cell jM rfl) (Sx.none))))))))) ?_
    refine WD.takeG (i := 11) rfl rfl rfl rfl rfl rfl (by decide +kernel) (by decide +kernel) (by decide +kernel) (fun _ _ _ h => hP _ _ _ _ _ h) (by kernel_rfl) need_none (Yl.not rfl) ?_
    refine jT 12 rfl (Yl.pickF rfl rfl) ?_
    refine jT 13 rfl (Yl.move rfl) ?_
    refine fun hcl => WA.splitB (i := 56) rfl (fun g56 => ?_) (fun g56 => ?_)
    ·refine (show WD _ _ _ _ _ _ _ _ _ _ _ _ from ?_) hcl
     exfalso; rw [hself] at g56; simp at g56
    ·refine (show WD _ _ _ _ _ _ _ _ _ _ _ _ from ?_) hcl
     refine WD.takeG (i := 14) rfl rfl rfl rfl rfl rfl (by decide +kernel) (by decide +kernel) (by decide +kernel) (fun _ _ _ h => hP _ _ _ _ _ h) (by kernel_rfl) (need_at2 6 rfl (by decide +kernel)) (Yl.loadN F.agg33 rfl rfl) ?_
     refine WD.takeG (i := 16) rfl rfl rfl rfl rfl rfl (by decide +kernel) (by decide +kernel) (by decide +kernel) (fun _ _ _ h => hP _ _ _ _ _ h) (by kernel_rfl) need_none (Yl.fieldAddr0 F.fld37_0 rfl) ?_
     refine WD.takeG (i := 17) rfl rfl rfl rfl rfl rfl (by decide +kernel) (by decide +kernel) (by decide +kernel) (fun _ _ _ h => hP _ _ _ _ _ h) (by kernel_rfl) (need_at2 7 rfl (by decide +kernel)) (Yl.load1 F.one34 rfl) ?_
     refine jA 15 rfl ?_
     refine WL.guardT rfl rfl rfl ?_
     refine WL.callV F.fun27 rfl rfl (fun w hS => Text_c ts x.i t1.x (by omega) htw.xt ta tc (.slice ga gs.length gc) rfl w (hm1.tsR hx htw.xp hS jM jM).r) ?_
     refine WD.on (closed_of (by decide +kernel)) (fun w hS => Sx.gone rfl (Sx.gone rfl (Sx.gone rfl (Sx.gone rfl (Sx.gone rfl (Sx.gone rfl (Sx.gone rfl (Sx.keep (hS.cell jM rfl) (Sx.none))))))))) ?_
     refine jA 18 rfl ?_
     refine WL.guardT rfl rfl rfl ?_
     refine WL.callV F.fun28 rfl rfl (fun w hS => rText_c rs x.i r1.x (by omega) htw.xt ra rc w (hm1.rsR hx htw.xp hS jM jM).r) ?_
     refine jG ?_
     refine WD.takeG (i := 19) rfl rfl rfl rfl rfl rfl (by decide +kernel) (by decide +kernel) (by decide +kernel) (fun _ _ _ h => hP _ _ _ _ _ h) (by kernel_rfl) need_none (Yl.neS rfl rfl) ?_
     refine jT 20 rfl (Yl.pickF rfl rfl) ?_
     refine jD ?_
     refine WQ.byCut hQ (subF_bool ?_ ⟨rfl, rfl, rfl, rfl, rfl, trivial⟩ rfl)
     simp
  refine jN 24 ?_
  refine WC.chunks (C' := [pt b11 [.slice ta ts.length tc, .slice ga gs.length gc] 33, pt b12 [.slice ra rs.length rc, .slice ha hs.length hc] 37, rowc (.slice ta ts.length tc) ts.length 105 7 (ts.flatMap tkC), rowc (.slice ra rs.length rc) rs.length 73 6 (rs.flatMap rtC), dsC F9 ds, insC G9 cs, rowc (.slice none 0 0) 0 53 1 [], rowc (.slice none 0 0) 0 3 1 []]) (fun w hS => (jK (St.rowNil (St.rowNil hS 3 1) 53 1))) ?_
  refine WC.loop (α := TeLG) (fun g => g.i ≤ rs.length) (fun g => [(2, .int .i64 f), (3, .int .i64 ln), (9, .int .u32 (u : Int)), (11, pp b11), (12, pp b12), (15, .slice g.ca (ptR rs g.i).length g.cc), (16, .slice g.fa (findK x.i f ln g.i).length g.fc), (17, .int .i64 (g.i : Int))]) (fun g => [pt b11 [.slice ta ts.length tc, .slice ga gs.length gc] 33, pt b12 [.slice ra rs.length rc, .slice ha hs.length hc] 37, rowc (.slice ta ts.length tc) ts.length 105 7 (ts.flatMap tkC), rowc (.slice ra rs.length rc) rs.length 73 6 (rs.flatMap rtC), dsC F9 ds, insC G9 cs, rowc (.slice g.ca (ptR rs g.i).length g.cc) (ptR rs g.i).length 53 1 ((ptR rs g.i).flatMap crC), rowc (.slice g.fa (findK x.i f ln g.i).length g.fc) (findK x.i f ln g.i).length 3 1 ((findK x.i f ln g.i).map (Value.int .i64))]) (fun g => rs.length - g.i) (⟨0, none, 0, none, 0⟩) ?_ ?_ ?_ ?_
  ·exact Nat.zero_le _
  ·exact ⟨rfl, rfl, rfl, rfl, rfl, rfl, rfl, rfl, trivial⟩
  ·rfl
  rintro ⟨i, ca, cc, fa, fc⟩ hi
  dsimp only at hi
  show WC _ _ _ _ _ _ _ [(2, .int .i64 f), (3, .int .i64 ln), (9, .int .u32 (u : Int)), (11, pp b11), (12, pp b12), (15, .slice ca (ptR rs i).length cc), (16, .slice fa (findK x.i f ln i).length fc), (17, .int .i64 (i : Int))] [pt b11 [.slice ta ts.length tc, .slice ga gs.length gc] 33, pt b12 [.slice ra rs.length rc, .slice ha hs.length hc] 37, rowc (.slice ta ts.length tc) ts.length 105 7 (ts.flatMap tkC), rowc (.slice ra rs.length rc) rs.length 73 6 (rs.flatMap rtC), dsC F9 ds, insC G9 cs, rowc (.slice ca (ptR rs i).length cc) (ptR rs i).length 53 1 ((ptR rs i).flatMap crC), rowc (.slice fa (findK x.i f ln i).length fc) (findK x.i f ln i).length 3 1 ((findK x.i f ln i).map (Value.int .i64))]
  refine jN 15 ?_
  refine WC.cond rfl (fun h68 => ?_) (fun h68 => ?_)
  ·have hlt : i < rs.length := by simpa using h68
   obtain ⟨r, hr⟩ : ∃ r, rs[i]? = some r := ⟨_, List.getElem?_eq_getElem hlt⟩
   have hrm := List.mem_of_getElem? hr
   have hyi : x.i[i]? = some r.x := by rw [← r1.x, List.getElem?_map, hr]; rfl
   have hfl := findK_len x.i f ln i
   have hpl := ptR_len rs i
   refine WC.know (φ := ∃ g o, ra = some ⟨g, o, none⟩) (fun w hS => by obtain ⟨b, o, e, _⟩ := (RdSl.of_row (cells := rtC) (fun _ _ => rfl) (fun h => h) (Nat.le_refl _) (hS.ok (rowc (.slice ra rs.length rc) rs.length 73 6 (rs.flatMap rtC)) jM)) i r hr; exact ⟨b, o, e⟩) (fun ⟨gr, gro, hra⟩ => ?_)
   subst hra
   refine jN 12 ?_
   refine WC.loop (α := Nat) (fun k => k ≤ (ptR rs i).length ∧ ((ptR rs i).take k).any (fun z => decide (z.c = r.c)) = false) (fun k => [(2, .int .i64 f), (3, .int .i64 ln), (9, .int .u32 (u : Int)), (11, pp b11), (12, pp b12), (15, .slice ca (ptR rs i).length cc), (16, .slice fa (findK x.i f ln i).length fc), (17, .int .i64 (i : Int)), (18, .int .i64 (k : Int))]) (fun _ => [pt b11 [.slice ta ts.length tc, .slice ga gs.length gc] 33, pt b12 [.slice (some ⟨gr, gro, none⟩) rs.length rc, .slice ha hs.length hc] 37, rowc (.slice ta ts.length tc) ts.length 105 7 (ts.flatMap tkC), rowc (.slice (some ⟨gr, gro, none⟩) rs.length rc) rs.length 73 6 (rs.flatMap rtC), dsC F9 ds, insC G9 cs, rowc (.slice ca (ptR rs i).length cc) (ptR rs i).length 53 1 ((ptR rs i).flatMap crC), rowc (.slice fa (findK x.i f ln i).length fc) (findK x.i f ln i).length 3 1 ((findK x.i f ln i).map (Value.int .i64))]) (fun k => (ptR rs i).length - k) (0) ?_ ?_ ?_ ?_
   ·exact ⟨Nat.zero_le _, rfl⟩
   ·exact ⟨rfl, rfl, rfl, rfl, rfl, rfl, rfl, rfl, rfl, trivial⟩
   ·rfl
   rintro k ⟨hk, hno⟩
   show WC _ _ _ _ _ _ _ [(2, .int .i64 f), (3, .int .i64 ln), (9, .int .u32 (u : Int)), (11, pp b11), (12, pp b12), (15, .slice ca (ptR rs i).length cc), (16, .slice fa (findK x.i f ln i).length fc), (17, .int .i64 (i : Int)), (18, .int .i64 (k : Int))] [pt b11 [.slice ta ts.length tc, .slice ga gs.length gc] 33, pt b12 [.slice (some ⟨gr, gro, none⟩) rs.length rc, .slice ha hs.length hc] 37, rowc (.slice ta ts.length tc) ts.length 105 7 (ts.flatMap tkC), rowc (.slice (some ⟨gr, gro, none⟩) rs.length rc) rs.length 73 6 (rs.flatMap rtC), dsC F9 ds, insC G9 cs, rowc (.slice ca (ptR rs i).length cc) (ptR rs i).length 53 1 ((ptR rs i).flatMap crC), rowc (.slice fa (findK x.i f ln i).length fc) (findK x.i f ln i).length 3 1 ((findK x.i f ln i).map (Value.int .i64))]
   refine jN 2 ?_
   by_cases hkl : k < (ptR rs i).length
   ·obtain ⟨z, hz⟩ : ∃ z, (ptR rs i)[k]? = some z := ⟨_, List.getElem?_eq_getElem hkl⟩
    have hzm := hpl.2 z (List.mem_of_getElem? hz)
    refine WC.know (φ := ∃ g, ca = some ⟨g, 0, none⟩ ∧ (ptR rs i).length = (ptR rs i).length ∧ (ptR rs i).length ≤ cc) (fun w hS => rowc_addr (hS.ok (rowc (.slice ca (ptR rs i).length cc) (ptR rs i).length 53 1 ((ptR rs i).flatMap crC)) jM) (by omega)) (fun ⟨g9, hg9, _, _⟩ => ?_)
    subst hg9
    refine WC.drawsL (by kernel_rfl) (FactsOk.cons (ds := [15]) (LoadOk.by (Y := fun w => w.cell? ⟨g9, 0 + k * 1, none⟩ = some (.slice z.ca z.c.length z.cc)) (fun w hS => (by rw [Nat.zero_add]; exact rowc_cells (hS.ok (rowc (.slice (some ⟨g9, 0, none⟩) (ptR rs i).length cc) (ptR rs i).length 53 1 ((ptR rs i).flatMap crC)) jM) (flat_at (cells := crC) (sz := 1) (fun _ _ => rfl) hz 0 _ rfl)))) (FactsOk.cons (ds := [15]) (LoadOk.one (t := 12) (off := 0) rfl jM rfl) (FactsOk.cons (ds := [15]) (LoadOk.by (Y := fun w => w.cell? ⟨gr, gro + i * 6 + 5, none⟩ = some (.slice r.ca r.c.length r.cc)) (fun w hS => ((RdSl.of_row (cells := rtC) (fun _ _ => rfl) (fun h => h) (Nat.le_refl _) (hS.ok (rowc (.slice (some ⟨gr, gro, none⟩) rs.length rc) rs.length 73 6 (rs.flatMap rtC)) jM)).at_ rfl hr (j := 5) rfl))) (FactsOk.nil)))) ?_
    refine jT 0 rfl (Yl.move rfl) ?_
    refine jT 1 rfl (Yl.move rfl) ?_
    refine jT 2 rfl (Yl.lenSl F.und69 rfl) ?_
    refine jT 3 rfl (Yl.ltI rfl rfl) ?_
    refine jT 4 rfl (Yl.move rfl) ?_
    refine fun hcl => WA.splitB (i := 75) rfl (fun g74 => ?_) (fun g74 => ?_)
    ·refine (show WD _ _ _ _ _ _ _ _ _ _ _ _ from ?_) hcl
     refine WD.takeG (i := 5) rfl rfl rfl rfl rfl rfl (by decide +kernel) (by decide +kernel) (by decide +kernel) (fun _ _ _ h => h) (by kernel_rfl) need_none (Yl.move rfl) ?_
     refine WD.takeG (i := 6) rfl rfl rfl rfl rfl rfl (by decide +kernel) (by decide +kernel) (by decide +kernel) (fun _ _ _ h => h) (by kernel_rfl) need_none (Yl.move rfl) ?_
     refine WD.takeG (i := 7) rfl rfl rfl rfl rfl rfl (by decide +kernel) (by decide +kernel) (by decide +kernel) (fun _ _ _ h => h) (by kernel_rfl) need_none (Yl.indexAddr F.sl69 rfl rfl hkl) ?_
     refine WD.takeG (i := 8) rfl rfl rfl rfl rfl rfl (by decide +kernel) (by decide +kernel) (by decide +kernel) (fun _ _ _ h => h) (by kernel_rfl) (need_at2 0 rfl (by decide +kernel)) (Yl.load1 F.one53 rfl) ?_
     refine WD.takeG (i := 9) rfl rfl rfl rfl rfl rfl (by decide +kernel) (by decide +kernel) (by decide +kernel) (fun _ _ _ h => h) (by kernel_rfl) need_none (Yl.fieldAddr0 F.fld37_0 rfl) ?_
     refine WD.takeG (i := 10) rfl rfl rfl rfl rfl rfl (by decide +kernel) (by decide +kernel) (by decide +kernel) (fun _ _ _ h => h) (by kernel_rfl) (need_at2 1 rfl (by decide +kernel)) (Yl.load1 F.one34 rfl) ?_
     refine WD.takeG (i := 11) rfl rfl rfl rfl rfl rfl (by decide +kernel) (by decide +kernel) (by decide +kernel) (fun _ _ _ h => h) (by kernel_rfl) need_none (Yl.move rfl) ?_
     refine WD.takeG (i := 12) rfl rfl rfl rfl rfl rfl (by decide +kernel) (by decide +kernel) (by decide +kernel) (fun _ _ _ h => h) (by kernel_rfl) need_none (Yl.indexAddr F.sl34 rfl rfl hlt) ?_
     refine WD.takeG (i := 13) rfl rfl rfl rfl rfl rfl (by decide +kernel) (by decide +kernel) (by decide +kernel) (fun _ _ _ h => h) (by kernel_rfl) need_none (Yl.fieldAddr F.fld73_5 rfl) ?_
     refine WD.takeG (i := 14) rfl rfl rfl rfl rfl rfl (by decide +kernel) (by decide +kernel) (by decide +kernel) (fun _ _ _ h => h) (by kernel_rfl) (need_at2 2 rfl (by decide +kernel)) (Yl.load1 F.one53 rfl) ?_
     refine jA 15 rfl ?_
     refine WL.guardT rfl rfl rfl ?_
     refine WL.callV F.fun29 rfl rfl (fun w hS => configs_c z.c r.c z.ca r.ca z.cc r.cc (by rw [(r1.d z hzm).1]; exact Nat.le_trans thoseL_len (by decide)) w (insC_rd (hS.ok (insC G9 cs) jM) (r1.d z hzm).2) (insC_rd (hS.ok (insC G9 cs) jM) (r1.d r hrm).2)) ?_
     refine jG ?_
     refine WD.takeG (i := 16) rfl rfl rfl rfl rfl rfl (by decide +kernel) (by decide +kernel) (by decide +kernel) (fun _ _ _ h => h) (by kernel_rfl) need_none (Yl.not rfl) ?_
     refine jT 17 rfl (Yl.pickT rfl rfl) ?_
     refine jD ?_
     refine jN 1 ?_
     refine WC.cond rfl (fun h88 => ?_) (fun h88 => ?_)
     ·have hne : ¬ z.c = r.c := by simpa using h88
      refine jN 12 ?_
      refine WQ.chunks (C' := [pt b11 [.slice ta ts.length tc, .slice ga gs.length gc] 33, pt b12 [.slice (some ⟨gr, gro, none⟩) rs.length rc, .slice ha hs.length hc] 37, rowc (.slice ta ts.length tc) ts.length 105 7 (ts.flatMap tkC), rowc (.slice (some ⟨gr, gro, none⟩) rs.length rc) rs.length 73 6 (rs.flatMap rtC), dsC F9 ds, insC G9 cs, rowc (.slice (some ⟨g9, 0, none⟩) (ptR rs i).length cc) (ptR rs i).length 53 1 ((ptR rs i).flatMap crC), rowc (.slice fa (findK x.i f ln i).length fc) (findK x.i f ln i).length 3 1 ((findK x.i f ln i).map (Value.int .i64))]) (fun w hS => (jK hS)) ?_
      refine WQ.back (k + 1) ?_ ?_ ?_ ?_
      ·exact ⟨by omega, by rw [List.take_add_one, hz, List.any_append, hno]; simp [hne]⟩
      ·omega
      ·exact ⟨rfl, rfl, rfl, rfl, rfl, rfl, rfl, rfl, rfl, trivial⟩
      ·rfl
     ·have heq : z.c = r.c := by simpa using h88
      have hb : (ptR rs i).any (fun z => decide (z.c = r.c)) = true := List.any_eq_true.2 ⟨z, List.mem_of_getElem? hz, decide_eq_true heq⟩
      refine jN 18 ?_
      refine WC.cond rfl (fun h94 => ?_) (fun h94 => ?_)
      ·exfalso; simp at h94; omega
      ·refine jN 11 ?_
       refine WL.indexAddr F.sl34 rfl rfl rfl hlt ?_
       refine jN 1 ?_
       refine WL.fieldAddr F.fld73_3 rfl rfl ?_
       refine jN 1 ?_
       refine WL.load1 F.one3 rfl rfl (v := .int .i64 r.x.f) (fun w hS => ((RdSl.of_row (cells := rtC) (fun _ _ => rfl) (fun h => h) (Nat.le_refl _) (hS.ok (rowc (.slice (some ⟨gr, gro, none⟩) rs.length rc) rs.length 73 6 (rs.flatMap rtC)) jM)).at_ rfl hr (j := 3) rfl)) ?_
       refine jN 6 ?_
       refine WA.splitB (i := 112) rfl (fun g112 => ?_) (fun g112 => ?_)
       ·refine jN 11 ?_
        refine WL.indexAddr F.sl34 rfl rfl rfl hlt ?_
        refine jN 2 ?_
        refine WL.fieldAddr F.fld73_4 rfl rfl ?_
        refine jN 2 ?_
        refine WL.load1 F.one3 rfl rfl (v := .int .i64 r.x.l) (fun w hS => ((RdSl.of_row (cells := rtC) (fun _ _ => rfl) (fun h => h) (Nat.le_refl _) (hS.ok (rowc (.slice (some ⟨gr, gro, none⟩) rs.length rc) rs.length 73 6 (rs.flatMap rtC)) jM)).at_ rfl hr (j := 4) rfl)) ?_
        refine jN 10 ?_
        refine WC.cond rfl (fun h121 => ?_) (fun h121 => ?_)
        ·have hon : onLn f ln r.x = true := by unfold onLn; rw [decide_eq_true (p := r.x.f = f) (by simpa using g112), decide_eq_true (p := r.x.l = ln) (by simpa using h121)]; rfl
         refine jN 6 ?_
         refine WL.buildSlice F.sl70 F.ez70 rfl rfl rfl rfl jB rfl (fun b124 => ?_)
         refine jN 1 ?_
         refine WL.appendE (news := [.int .i64 (i : Int)]) F.el70 rfl rfl rfl jR (fun w hS jj u hu => by rw [Nat.zero_add]; exact hS.cell (cs := [.int .i64 (i : Int)]) jM hu) rfl jO (Nat.le_trans (m := 2000) (by omega) (by decide)) (by omega) (fun a3 c3 => ?_)
         refine jN 13 ?_
         refine WQ.chunks (C' := [pt b11 [.slice ta ts.length tc, .slice ga gs.length gc] 33, pt b12 [.slice (some ⟨gr, gro, none⟩) rs.length rc, .slice ha hs.length hc] 37, rowc (.slice ta ts.length tc) ts.length 105 7 (ts.flatMap tkC), rowc (.slice (some ⟨gr, gro, none⟩) rs.length rc) rs.length 73 6 (rs.flatMap rtC), dsC F9 ds, insC G9 cs, rowc (.slice (some ⟨g9, 0, none⟩) (ptR rs i).length cc) (ptR rs i).length 53 1 ((ptR rs i).flatMap crC), rowc (.slice a3 ((findK x.i f ln i).length + 1) c3) ((findK x.i f ln i).length + 1) 3 1 ((findK x.i f ln i).map (Value.int .i64) ++ [.int .i64 (i : Int)])]) (fun w hS => (jK hS)) ?_
         have e1 : ptR rs (i + 1) = ptR rs i := ptR_T hr hb
         have e2 : findK x.i f ln (i + 1) = findK x.i f ln i ++ [(i : Int)] := findK_T hyi hon
         refine WQ.back (⟨i + 1, (some ⟨g9, 0, none⟩), cc, a3, c3⟩ : TeLG) ?_ ?_ ?_ ?_
         ·show i + 1 ≤ rs.length; omega
         ·show rs.length - (i + 1) < rs.length - i; omega
         ·simp only [e1, e2, List.length_append, List.length_cons, List.length_nil]; exact ⟨rfl, rfl, rfl, rfl, rfl, rfl, rfl, rfl, trivial⟩
         ·simp only [e1, e2, List.length_append, List.length_cons, List.length_nil, List.flatMap_append, List.map_append] <;> rfl
        ·have hon : onLn f ln r.x = false := by unfold onLn; rw [decide_eq_false (p := r.x.l = ln) (by intro e; rw [e] at h121; simp at h121)]; simp
         refine jN 11 ?_
         refine WQ.chunks (C' := [pt b11 [.slice ta ts.length tc, .slice ga gs.length gc] 33, pt b12 [.slice (some ⟨gr, gro, none⟩) rs.length rc, .slice ha hs.length hc] 37, rowc (.slice ta ts.length tc) ts.length 105 7 (ts.flatMap tkC), rowc (.slice (some ⟨gr, gro, none⟩) rs.length rc) rs.length 73 6 (rs.flatMap rtC), dsC F9 ds, insC G9 cs, rowc (.slice (some ⟨g9, 0, none⟩) (ptR rs i).length cc) (ptR rs i).length 53 1 ((ptR rs i).flatMap crC), rowc (.slice fa (findK x.i f ln i).length fc) (findK x.i f ln i).length 3 1 ((findK x.i f ln i).map (Value.int .i64))]) (fun w hS => (jK hS)) ?_
         have e1 : ptR rs (i + 1) = ptR rs i := ptR_T hr hb
         have e2 : findK x.i f ln (i + 1) = findK x.i f ln i := findK_F hyi hon
         refine WQ.back (⟨i + 1, (some ⟨g9, 0, none⟩), cc, fa, fc⟩ : TeLG) ?_ ?_ ?_ ?_
         ·show i + 1 ≤ rs.length; omega
         ·show rs.length - (i + 1) < rs.length - i; omega
         ·simp only [e1, e2, List.length_append, List.length_cons, List.length_nil]; exact ⟨rfl, rfl, rfl, rfl, rfl, rfl, rfl, rfl, trivial⟩
         ·simp only [e1, e2, List.length_append, List.length_cons, List.length_nil, List.flatMap_append, List.map_append] <;> rfl
       ·have hon : onLn f ln r.x = false := by unfold onLn; rw [decide_eq_false (p := r.x.f = f) (by intro e; rw [e] at g112; simp at g112)]; rfl
        refine jN 32 ?_
        refine WQ.chunks (C' := [pt b11 [.slice ta ts.length tc, .slice ga gs.length gc] 33, pt b12 [.slice (some ⟨gr, gro, none⟩) rs.length rc, .slice ha hs.length hc] 37, rowc (.slice ta ts.length tc) ts.length 105 7 (ts.flatMap tkC), rowc (.slice (some ⟨gr, gro, none⟩) rs.length rc) rs.length 73 6 (rs.flatMap rtC), dsC F9 ds, insC G9 cs, rowc (.slice (some ⟨g9, 0, none⟩) (ptR rs i).length cc) (ptR rs i).length 53 1 ((ptR rs i).flatMap crC), rowc (.slice fa (findK x.i f ln i).length fc) (findK x.i f ln i).length 3 1 ((findK x.i f ln i).map (Value.int .i64))]) (fun w hS => (jK hS)) ?_
        have e1 : ptR rs (i + 1) = ptR rs i := ptR_T hr hb
        have e2 : findK x.i f ln (i + 1) = findK x.i f ln i := findK_F hyi hon
        refine WQ.back (⟨i + 1, (some ⟨g9, 0, none⟩), cc, fa, fc⟩ : TeLG) ?_ ?_ ?_ ?_
        ·show i + 1 ≤ rs.length; omega
        ·show rs.length - (i + 1) < rs.length - i; omega
        ·simp only [e1, e2, List.length_append, List.length_cons, List.length_nil]; exact ⟨rfl, rfl, rfl, rfl, rfl, rfl, rfl, rfl, trivial⟩
        ·simp only [e1, e2, List.length_append, List.length_cons, List.length_nil, List.flatMap_append, List.map_append] <;> rfl
    ·refine (show WD _ _ _ _ _ _ _ _ _ _ _ _ from ?_) hcl
     exfalso; simp at g74; omega
   ·have hke : k = (ptR rs i).length := by omega
    have hb : (ptR rs i).any (fun z => decide (z.c = r.c)) = false := by rw [hke, List.take_length] at hno; exact hno
    refine WC.draws [] (by kernel_rfl) (fun w hS => facts_nil) ?_
    refine jT 0 rfl (Yl.move rfl) ?_
    refine jT 1 rfl (Yl.move rfl) ?_
    refine jT 2 rfl (Yl.lenSl F.und69 rfl) ?_
    refine jT 3 rfl (Yl.ltI rfl rfl) ?_
    refine jT 4 rfl (Yl.move rfl) ?_
    refine fun hcl => WA.splitB (i := 75) rfl (fun g74 => ?_) (fun g74 => ?_)
    ·refine (show WD _ _ _ _ _ _ _ _ _ _ _ _ from ?_) hcl
     exfalso; simp at g74; omega
    ·refine (show WD _ _ _ _ _ _ _ _ _ _ _ _ from ?_) hcl
     refine WD.skip (i := 5) rfl rfl rfl rfl rfl rfl rfl (by decide +kernel) (by decide +kernel) (by decide +kernel) (fun _ _ _ h => h) (by kernel_rfl) ?_
     refine WD.skip (i := 6) rfl rfl rfl rfl rfl rfl rfl (by decide +kernel) (by decide +kernel) (by decide +kernel) (fun _ _ _ h => h) (by kernel_rfl) ?_
     refine WD.skip (i := 7) rfl rfl rfl rfl rfl rfl rfl (by decide +kernel) (by decide +kernel) (by decide +kernel) (fun _ _ _ h => h) (by kernel_rfl) ?_
     refine WD.skip (i := 8) rfl rfl rfl rfl rfl rfl rfl (by decide +kernel) (by decide +kernel) (by decide +kernel) (fun _ _ _ h => h) (by kernel_rfl) ?_
     refine WD.skip (i := 9) rfl rfl rfl rfl rfl rfl rfl (by decide +kernel) (by decide +kernel) (by decide +kernel) (fun _ _ _ h => h) (by kernel_rfl) ?_
     refine WD.skip (i := 10) rfl rfl rfl rfl rfl rfl rfl (by decide +kernel) (by decide +kernel) (by decide +kernel) (fun _ _ _ h => h) (by kernel_rfl) ?_
     refine WD.skip (i := 11) rfl rfl rfl rfl rfl rfl rfl (by decide +kernel) (by decide +kernel) (by decide +kernel) (fun _ _ _ h => h) (by kernel_rfl) ?_
     refine WD.skip (i := 12) rfl rfl rfl rfl rfl rfl rfl (by decide +kernel) (by decide +kernel) (by decide +kernel) (fun _ _ _ h => h) (by kernel_rfl) ?_
     refine WD.skip (i := 13) rfl rfl rfl rfl rfl rfl rfl (by decide +kernel) (by decide +kernel) (by decide +kernel) (fun _ _ _ h => h) (by kernel_rfl) ?_
     refine WD.skip (i := 14) rfl rfl rfl rfl rfl rfl rfl (by decide +kernel) (by decide +kernel) (by decide +kernel) (fun _ _ _ h => h) (by kernel_rfl) ?_
     refine WD.skip (i := 15) rfl rfl rfl rfl rfl rfl rfl (by decide +kernel) (by decide +kernel) (by decide +kernel) (fun _ _ _ h => h) (by kernel_rfl) ?_
     refine WD.skip (i := 16) rfl rfl rfl rfl rfl rfl rfl (by decide +kernel) (by decide +kernel) (by decide +kernel) (fun _ _ _ h => h) (by kernel_rfl) ?_
     refine jT 17 rfl (Yl.pickF rfl rfl) ?_
     refine jD ?_
     refine jN 20 ?_
     refine WC.cond rfl (fun h94 => ?_) (fun h94 => ?_)
     ·refine jN 10 ?_
      refine WL.indexAddr F.sl34 rfl rfl rfl hlt ?_
      refine jN 1 ?_
      refine WL.fieldAddr F.fld73_5 rfl rfl ?_
      refine jN 1 ?_
      refine WL.load1 F.one53 rfl rfl (v := .slice r.ca r.c.length r.cc) (fun w hS => ((RdSl.of_row (cells := rtC) (fun _ _ => rfl) (fun h => h) (Nat.le_refl _) (hS.ok (rowc (.slice (some ⟨gr, gro, none⟩) rs.length rc) rs.length 73 6 (rs.flatMap rtC)) jM)).at_ rfl hr (j := 5) rfl)) ?_
      refine jN 1 ?_
      refine WL.buildSlice F.sl69 F.ez69 rfl rfl rfl rfl jB rfl (fun b102 => ?_)
      refine jN 1 ?_
      refine WL.appendE (news := [.slice r.ca r.c.length r.cc]) F.el69 rfl rfl rfl jR (fun w hS jj u hu => by rw [Nat.zero_add]; exact hS.cell (cs := [.slice r.ca r.c.length r.cc]) jM hu) rfl jO (Nat.le_trans (m := 2000) (by omega) (by decide)) (by omega) (fun a2 c2 => ?_)
      refine jN 13 ?_
      refine WL.indexAddr F.sl34 rfl rfl rfl hlt ?_
      refine jN 1 ?_
      refine WL.fieldAddr F.fld73_3 rfl rfl ?_
      refine jN 1 ?_
      refine WL.load1 F.one3 rfl rfl (v := .int .i64 r.x.f) (fun w hS => ((RdSl.of_row (cells := rtC) (fun _ _ => rfl) (fun h => h) (Nat.le_refl _) (hS.ok (rowc (.slice (some ⟨gr, gro, none⟩) rs.length rc) rs.length 73 6 (rs.flatMap rtC)) jM)).at_ rfl hr (j := 3) rfl)) ?_
      refine jN 6 ?_
      refine WA.splitB (i := 112) rfl (fun g112 => ?_) (fun g112 => ?_)
      ·refine jN 11 ?_
       refine WL.indexAddr F.sl34 rfl rfl rfl hlt ?_
       refine jN 2 ?_
       refine WL.fieldAddr F.fld73_4 rfl rfl ?_
       refine jN 2 ?_
       refine WL.load1 F.one3 rfl rfl (v := .int .i64 r.x.l) (fun w hS => ((RdSl.of_row (cells := rtC) (fun _ _ => rfl) (fun h => h) (Nat.le_refl _) (hS.ok (rowc (.slice (some ⟨gr, gro, none⟩) rs.length rc) rs.length 73 6 (rs.flatMap rtC)) jM)).at_ rfl hr (j := 4) rfl)) ?_
       refine jN 10 ?_
       refine WC.cond rfl (fun h121 => ?_) (fun h121 => ?_)
       ·have hon : onLn f ln r.x = true := by unfold onLn; rw [decide_eq_true (p := r.x.f = f) (by simpa using g112), decide_eq_true (p := r.x.l = ln) (by simpa using h121)]; rfl
        refine jN 6 ?_
        refine WL.buildSlice F.sl70 F.ez70 rfl rfl rfl rfl jB rfl (fun b124 => ?_)
        refine jN 1 ?_
        refine WL.appendE (news := [.int .i64 (i : Int)]) F.el70 rfl rfl rfl jR (fun w hS jj u hu => by rw [Nat.zero_add]; exact hS.cell (cs := [.int .i64 (i : Int)]) jM hu) rfl jO (Nat.le_trans (m := 2000) (by omega) (by decide)) (by omega) (fun a3 c3 => ?_)
        refine jN 13 ?_
        refine WQ.chunks (C' := [pt b11 [.slice ta ts.length tc, .slice ga gs.length gc] 33, pt b12 [.slice (some ⟨gr, gro, none⟩) rs.length rc, .slice ha hs.length hc] 37, rowc (.slice ta ts.length tc) ts.length 105 7 (ts.flatMap tkC), rowc (.slice (some ⟨gr, gro, none⟩) rs.length rc) rs.length 73 6 (rs.flatMap rtC), dsC F9 ds, insC G9 cs, rowc (.slice a2 ((ptR rs i).length + 1) c2) ((ptR rs i).length + 1) 53 1 ((ptR rs i).flatMap crC ++ [.slice r.ca r.c.length r.cc]), rowc (.slice a3 ((findK x.i f ln i).length + 1) c3) ((findK x.i f ln i).length + 1) 3 1 ((findK x.i f ln i).map (Value.int .i64) ++ [.int .i64 (i : Int)])]) (fun w hS => (jK hS)) ?_
        have e1 : ptR rs (i + 1) = ptR rs i ++ [r] := ptR_F hr hb
        have e2 : findK x.i f ln (i + 1) = findK x.i f ln i ++ [(i : Int)] := findK_T hyi hon
        refine WQ.back (⟨i + 1, a2, c2, a3, c3⟩ : TeLG) ?_ ?_ ?_ ?_
        ·show i + 1 ≤ rs.length; omega
        ·show rs.length - (i + 1) < rs.length - i; omega
        ·simp only [e1, e2, List.length_append, List.length_cons, List.length_nil]; exact ⟨rfl, rfl, rfl, rfl, rfl, rfl, rfl, rfl, trivial⟩
        ·simp only [e1, e2, List.length_append, List.length_cons, List.length_nil, List.flatMap_append, List.map_append] <;> rfl
       ·have hon : onLn f ln r.x = false := by unfold onLn; rw [decide_eq_false (p := r.x.l = ln) (by intro e; rw [e] at h121; simp at h121)]; simp
        refine jN 11 ?_
        refine WQ.chunks (C' := [pt b11 [.slice ta ts.length tc, .slice ga gs.length gc] 33, pt b12 [.slice (some ⟨gr, gro, none⟩) rs.length rc, .slice ha hs.length hc] 37, rowc (.slice ta ts.length tc) ts.length 105 7 (ts.flatMap tkC), rowc (.slice (some ⟨gr, gro, none⟩) rs.length rc) rs.length 73 6 (rs.flatMap rtC), dsC F9 ds, insC G9 cs, rowc (.slice a2 ((ptR rs i).length + 1) c2) ((ptR rs i).length + 1) 53 1 ((ptR rs i).flatMap crC ++ [.slice r.ca r.c.length r.cc]), rowc (.slice fa (findK x.i f ln i).length fc) (findK x.i f ln i).length 3 1 ((findK x.i f ln i).map (Value.int .i64))]) (fun w hS => (jK hS)) ?_
        have e1 : ptR rs (i + 1) = ptR rs i ++ [r] := ptR_F hr hb
        have e2 : findK x.i f ln (i + 1) = findK x.i f ln i := findK_F hyi hon
        refine WQ.back (⟨i + 1, a2, c2, fa, fc⟩ : TeLG) ?_ ?_ ?_ ?_
        ·show i + 1 ≤ rs.length; omega
        ·show rs.length - (i + 1) < rs.length - i; omega
        ·simp only [e1, e2, List.length_append, List.length_cons, List.length_nil]; exact ⟨rfl, rfl, rfl, rfl, rfl, rfl, rfl, rfl, trivial⟩
        ·simp only [e1, e2, List.length_append, List.length_cons, List.length_nil, List.flatMap_append, List.map_append] <;> rfl
      ·have hon : onLn f ln r.x = false := by unfold onLn; rw [decide_eq_false (p := r.x.f = f) (by intro e; rw [e] at g112; simp at g112)]; rfl
       refine jN 32 ?_
       refine WQ.chunks (C' := [pt b11 [.slice ta ts.length tc, .slice ga gs.length gc] 33, pt b12 [.slice (some ⟨gr, gro, none⟩) rs.length rc, .slice ha hs.length hc] 37, rowc (.slice ta ts.length tc) ts.length 105 7 (ts.flatMap tkC), rowc (.slice (some ⟨gr, gro, none⟩) rs.length rc) rs.length 73 6 (rs.flatMap rtC), dsC F9 ds, insC G9 cs, rowc (.slice a2 ((ptR rs i).length + 1) c2) ((ptR rs i).length + 1) 53 1 ((ptR rs i).flatMap crC ++ [.slice r.ca r.c.length r.cc]), rowc (.slice fa (findK x.i f ln i).length fc) (findK x.i f ln i).length 3 1 ((findK x.i f ln i).map (Value.int .i64))]) (fun w hS => (jK hS)) ?_
       have e1 : ptR rs (i + 1) = ptR rs i ++ [r] := ptR_F hr hb
       have e2 : findK x.i f ln (i + 1) = findK x.i f ln i := findK_F hyi hon
       refine WQ.back (⟨i + 1, a2, c2, fa, fc⟩ : TeLG) ?_ ?_ ?_ ?_
       ·show i + 1 ≤ rs.length; omega
       ·show rs.length - (i + 1) < rs.length - i; omega
       ·simp only [e1, e2, List.length_append, List.length_cons, List.length_nil]; exact ⟨rfl, rfl, rfl, rfl, rfl, rfl, rfl, rfl, trivial⟩
       ·simp only [e1, e2, List.length_append, List.length_cons, List.length_nil, List.flatMap_append, List.map_append] <;> rfl
     ·exfalso; simp at h94; omega
  ·have hie : i = rs.length := by simp at h68; omega
   subst hie
   refine jN 7 ?_
   have hnn : ts.length = rs.length := by omega
   have hcp := cnK_pt htw.uu t1 htw.xu rs.length
   have hrp := ptR_pt (u := u) t1.x r1 rs.length
   have hcl : (cnK ts ts.length).length = (ptR rs rs.length).length := by have := congrArg List.length hrp; rw [hnn, hcp]; simpa using this.symm
   have hpl := ptR_len rs rs.length
   have hfl := findK_len x.i f ln rs.length
   refine jN 3 ?_
   refine WL.call0 (β := Option Addr × Nat) (res := fun x => .returned (.slice x.1 (cnK ts ts.length).length x.2)) (cs := fun x => [rowc (.slice x.1 (cnK ts ts.length).length x.2) (cnK ts ts.length).length 50 2 (dcs (cnK ts ts.length))]) (ψ := fun _ => True) F.fun30 (fun d h => by cases h; rfl) rfl (fun w hS => (Conditions_c ts (by omega) ta tc (.slice ga gs.length gc) rfl w (hm1.tsR hx htw.xp hS jM jM).r (fun y hy => (hm1.tsR hx htw.xp hS jM jM).d y hy)).mono (fun e w2 ⟨x, h1, h2⟩ => ⟨x, trivial, h1, h2⟩)) (fun ⟨na, nc⟩ _ => ?_)
   show WA _ _ _ _ _ ((127, .slice na (cnK ts ts.length).length nc) :: _) ((rowc (.slice na (cnK ts ts.length).length nc) (cnK ts ts.length).length 50 2 (dcs (cnK ts ts.length))) :: _)
   refine jN 19 ?_
   refine WA.splitB (i := 133) rfl (fun g133 => ?_) (fun g133 => ?_)
   ·exfalso; rw [hcl] at g133; simp at g133
   ·refine jN 11 ?_
    refine WL.call0 (β := Option Addr × Nat) (res := fun z => .returned (.slice z.1 (findK x.i f ln x.i.length).length z.2)) (cs := fun z => [rowc (.slice z.1 (findK x.i f ln x.i.length).length z.2) (findK x.i f ln x.i.length).length 3 1 ((findK x.i f ln x.i.length).map (Value.int .i64))]) (ψ := fun _ => True) F.fun32 (fun d h => by cases h; rfl) rfl (fun w hS => (Find_c ts x.i t1.x (by omega) ta tc (.slice ga gs.length gc) rfl f ln w (hm1.tsR hx htw.xp hS jM jM).r).mono (fun e w2 ⟨x, h1, h2⟩ => ⟨x, trivial, h1, h2⟩)) (fun ⟨na2, nc2⟩ _ => ?_)
    show WA _ _ _ _ _ ((137, .slice na2 (findK x.i f ln x.i.length).length nc2) :: _) ((rowc (.slice na2 (findK x.i f ln x.i.length).length nc2) (findK x.i f ln x.i.length).length 3 1 ((findK x.i f ln x.i.length).map (Value.int .i64))) :: _)
    refine jN 3 ?_
    have hxl : x.i.length = rs.length := by omega
    rw [hxl]
    refine jN 2 ?_
    refine WL.callV F.fun31 rfl rfl (fun w hS => ints_c (findK x.i f ln rs.length) (findK x.i f ln rs.length) na2 fa nc2 fc (by omega) (by omega) w (RdC.of_row rfl (hS.ok (rowc (.slice na2 (findK x.i f ln rs.length).length nc2) (findK x.i f ln rs.length).length 3 1 ((findK x.i f ln rs.length).map (Value.int .i64))) jM)) (RdC.of_row rfl (hS.ok (rowc (.slice fa (findK x.i f ln rs.length).length fc) (findK x.i f ln rs.length).length 3 1 ((findK x.i f ln rs.length).map (Value.int .i64))) jM))) ?_
    refine jN 7 ?_
    refine WC.cond rfl (fun h141 => ?_) (fun h141 => ?_)
    ·exfalso; rw [cmpP_self] at h141; simp at h141
    ·refine jN 10 ?_
     refine WC.chunks (C' := [rowc (.slice ca (ptR rs rs.length).length cc) (ptR rs rs.length).length 53 1 ((ptR rs rs.length).flatMap crC), rowc (.slice na (cnK ts ts.length).length nc) (cnK ts ts.length).length 50 2 (dcs (cnK ts ts.length)), dsC F9 ds, insC G9 cs]) (fun w hS => (jK hS)) ?_
     refine WC.loop (α := Nat) (fun i => i ≤ (cnK ts ts.length).length) (fun i => [(9, .int .u32 (u : Int)), (15, .slice ca (ptR rs rs.length).length cc), (19, .slice na (cnK ts ts.length).length nc), (20, .int .i64 (i : Int))]) (fun _ => [rowc (.slice ca (ptR rs rs.length).length cc) (ptR rs rs.length).length 53 1 ((ptR rs rs.length).flatMap crC), rowc (.slice na (cnK ts ts.length).length nc) (cnK ts ts.length).length 50 2 (dcs (cnK ts ts.length)), dsC F9 ds, insC G9 cs]) (fun i => (cnK ts ts.length).length - i) (0) ?_ ?_ ?_ ?_
     ·exact Nat.zero_le _
     ·exact ⟨rfl, rfl, rfl, rfl, trivial⟩
     ·rfl
     rintro i hi
     show WC _ _ _ _ _ _ _ [(9, .int .u32 (u : Int)), (15, .slice ca (ptR rs rs.length).length cc), (19, .slice na (cnK ts ts.length).length nc), (20, .int .i64 (i : Int))] [rowc (.slice ca (ptR rs rs.length).length cc) (ptR rs rs.length).length 53 1 ((ptR rs rs.length).flatMap crC), rowc (.slice na (cnK ts ts.length).length nc) (cnK ts ts.length).length 50 2 (dcs (cnK ts ts.length)), dsC F9 ds, insC G9 cs]
     refine jN 13 ?_
     refine WC.cond rfl (fun h145 => ?_) (fun h145 => ?_)
     ·have hlt : i < (cnK ts ts.length).length := by simpa using h145
      have hlt2 : i < (ptR rs rs.length).length := by omega
      obtain ⟨z, hz⟩ : ∃ z, (ptR rs rs.length)[i]? = some z := ⟨_, List.getElem?_eq_getElem hlt2⟩
      have hzm := hpl.2 z (List.mem_of_getElem? hz)
      obtain ⟨y9, hy9, hyc⟩ : ∃ y9, (ptK u ts rs.length)[i]? = some y9 ∧ z.c = thoseL y9.x.q u := by
       have h9 := congrArg (·[i]?) hrp
       simp only [List.getElem?_map, hz] at h9
       cases hq : (ptK u ts rs.length)[i]? with
       | none => rw [hq] at h9; cases h9
       | some y9 => rw [hq] at h9; exact ⟨y9, rfl, Option.some.inj h9⟩
      have hym := (ptK_len u ts rs.length).2 y9 (List.mem_of_getElem? hy9)
      have hcy : (cnK ts ts.length)[i]? = some (y9.d, y9.da, y9.dc) := by rw [hnn, hcp, List.getElem?_map, hy9]; rfl
      have hal := alike_pt htw.uu t1 htw.xu hym
      refine WC.know (φ := ∃ g, ca = some ⟨g, 0, none⟩ ∧ (ptR rs rs.length).length = (ptR rs rs.length).length ∧ (ptR rs rs.length).length ≤ cc) (fun w hS => rowc_addr (hS.ok (rowc (.slice ca (ptR rs rs.length).length cc) (ptR rs rs.length).length 53 1 ((ptR rs rs.length).flatMap crC)) jM) (by omega)) (fun ⟨g9, hg9, _, _⟩ => ?_)
      subst hg9
      refine WC.know (φ := ∃ g, na = some ⟨g, 0, none⟩ ∧ (cnK ts ts.length).length = (cnK ts ts.length).length ∧ (cnK ts ts.length).length ≤ nc) (fun w hS => rowc_addr (hS.ok (rowc (.slice na (cnK ts ts.length).length nc) (cnK ts ts.length).length 50 2 (dcs (cnK ts ts.length))) jM) (by omega)) (fun ⟨g8, hg8, _, _⟩ => ?_)
      subst hg8
      refine jN 5 ?_
      refine WC.draws [([9], fun w => ∀ j v, ([.slice y9.da (canon y9.d).1.length y9.dc, .int .i64 ((canon y9.d).2 : Int)] : List Value)[j]? = some v → w.cell? ⟨g8, 0 + i * 2 + j, none⟩ = some v), ([9], fun w => w.cell? ⟨g9, 0 + i * 1, none⟩ = some (.slice z.ca z.c.length z.cc))] (by kernel_rfl) (fun w hS => facts_cons ((fun j v hv => by rw [Nat.zero_add]; exact rowc_cells (hS.ok (rowc (.slice (some ⟨g8, 0, none⟩) (cnK ts ts.length).length nc) (cnK ts ts.length).length 50 2 (dcs (cnK ts ts.length))) jM) (dcs_at hcy _ _ hv))) (facts_cons ((by rw [Nat.zero_add]; exact rowc_cells (hS.ok (rowc (.slice (some ⟨g9, 0, none⟩) (ptR rs rs.length).length cc) (ptR rs rs.length).length 53 1 ((ptR rs rs.length).flatMap crC)) jM) (flat_at (cells := crC) (sz := 1) (fun _ _ => rfl) hz 0 _ rfl))) (facts_nil))) ?_
      refine jT 0 rfl (Yl.move rfl) ?_
      refine jT 1 rfl (Yl.move rfl) ?_
      refine jT 2 rfl (Yl.indexAddr F.sl74 rfl rfl hlt) ?_
      refine jF 3 0 rfl rfl (Yl.loadN F.agg50 rfl rfl) ?_
      refine jT 4 rfl (Yl.move rfl) ?_
      refine jT 5 rfl (Yl.move rfl) ?_
      refine jT 6 rfl (Yl.indexAddr F.sl69 rfl rfl hlt2) ?_
      refine jF 7 1 rfl rfl (Yl.load1 F.one53 rfl) ?_
      refine jT 8 rfl (Yl.move rfl) ?_
      refine jA 9 rfl ?_
      refine WL.callV F.fun23 rfl rfl (fun w hS => alike_c y9.d y9.da y9.dc z.c z.ca z.cc u huu (by rw [hyc]; exact thoseL_32) (by rw [hyc]; exact Nat.le_trans thoseL_len (by decide)) w (dsC_rd (hS.ok (dsC F9 ds) jM) (t1.d y9 hym).2.2) (insC_rd (hS.ok (insC G9 cs) jM) (r1.d z hzm).2)) ?_
      refine jG ?_
      refine jT 10 rfl (Yl.not rfl) ?_
      refine jD ?_
      refine jN 1 ?_
      refine WC.cond rfl (fun h158 => ?_) (fun h158 => ?_)
      ·exfalso; rw [hyc, hal] at h158; simp at h158
      ·refine jN 11 ?_
       refine WQ.chunks (C' := [rowc (.slice (some ⟨g9, 0, none⟩) (ptR rs rs.length).length cc) (ptR rs rs.length).length 53 1 ((ptR rs rs.length).flatMap crC), rowc (.slice (some ⟨g8, 0, none⟩) (cnK ts ts.length).length nc) (cnK ts ts.length).length 50 2 (dcs (cnK ts ts.length)), dsC F9 ds, insC G9 cs]) (fun w hS => (jK hS)) ?_
       refine WQ.back (i + 1) ?_ ?_ ?_ ?_
       ·exact (by omega)
       ·omega
       ·exact ⟨rfl, rfl, rfl, rfl, trivial⟩
       ·rfl
     ·refine jN 8 ?_
      refine WL.callV F.fun8 rfl rfl (fun w hS => haw w (hl.next hS) (hg.next hS)) ?_
      refine jN 5 ?_
      exact WQ.ret (rs := [.tmp 8]) rfl (.tmp rfl .nil) (fun w hS => ⟨rfl, hS.sublist (List.nil_sublist _)⟩)
end Go.Proofs.YtndpdhamadiopaaGreatDoor
namespace Go.X
open Go Go.Eng
inductive Tq (β : Type) where
 | lf
 | nd (l : Tq β) (v : Option β) (r : Tq β)
namespace Tq
variable {β : Type}
noncomputable def bitsF (f : Nat) : Nat → List Bool := Nat.rec (fun _ => []) (fun _ ih k => Bool.rec (Nat.beq (Nat.mod k 2) 0 :: ih (Nat.div k 2)) [] (Nat.beq k 0)) f
noncomputable def bits (k : Nat) : List Bool := bitsF k k
theorem beq0 (k : Nat) : Nat.beq k 0 = decide (k = 0) := by cases k <;> rfl
theorem bitsF_succ (f k : Nat) : bitsF (f + 1) k = if k = 0 then [] else decide (k % 2 = 0) :: bitsF f (k / 2) := by
 show @Bool.rec (fun _ => List Bool) (Nat.beq (k % 2) 0 :: bitsF f (k / 2)) [] (Nat.beq k 0) = _
 rw [beq0 k, beq0 (k % 2)]
 by_cases h : k = 0
 ·subst h; rfl
 ·rw [decide_eq_false h, if_neg h]
theorem bitsF_eq : ∀ (f g k : Nat), k ≤ f → k ≤ g → bitsF f k = bitsF g k
 | 0, 0, k, _, _ => rfl
 | 0, g + 1, k, h, _ => by
  have : k = 0 := Nat.le_zero.1 h
  subst this; rw [bitsF_succ, if_pos rfl]; rfl
 | f + 1, 0, k, _, h => by
  have : k = 0 := Nat.le_zero.1 h
  subst this; rw [bitsF_succ, if_pos rfl]; rfl
 | f + 1, g + 1, k, h1, h2 => by
  rw [bitsF_succ, bitsF_succ]
  by_cases h : k = 0
  ·rw [if_pos h, if_pos h]
  ·rw [if_neg h, if_neg h, bitsF_eq f g (k / 2) (by omega) (by omega)]
theorem bits_pos {k : Nat} (h : k ≠ 0) : bits k = decide (k % 2 = 0) :: bits (k / 2) := by
 obtain ⟨f, rfl⟩ : ∃ f, k = f + 1 := ⟨k - 1, by omega⟩
 show bitsF (f + 1) (f + 1) = _
 rw [bitsF_succ, if_neg h, bitsF_eq f ((f + 1) / 2) _ (by omega) (Nat.le_refl _)]
 rfl
noncomputable def getB (t : Tq β) : List Bool → Option β := Tq.rec (fun _ => none) (fun _ v _ gl gr p => List.rec v (fun b r _ => Bool.rec (gr r) (gl r) b) p) t
noncomputable def get (t : Tq β) (k : Nat) : Option β := getB t (bits k)
noncomputable def oneB (x : β) (p : List Bool) : Tq β := List.rec (.nd .lf (some x) .lf) (fun b _ ih => Bool.rec (.nd .lf none ih) (.nd ih none .lf) b) p
noncomputable def one (f : Nat) (x : β) (k : Nat) : Tq β := oneB x (bits k)
noncomputable def setB (t : Tq β) (x : β) : List Bool → Tq β := Tq.rec (fun p => oneB x p) (fun l v r sl sr p => List.rec (.nd l (some x) r) (fun b q _ => Bool.rec (.nd l v (sr q)) (.nd (sl q) v r) b) p) t
noncomputable def set (t : Tq β) (x : β) (k : Nat) : Tq β := setB t x (bits k)
theorem get_lf (k : Nat) : (Tq.lf : Tq β).get k = none := rfl
theorem get_nd (l r : Tq β) (v : Option β) (k : Nat) : (Tq.nd l v r).get k = if k = 0 then v else if k % 2 = 0 then l.get (k / 2) else r.get (k / 2) := by
 unfold get
 by_cases h : k = 0
 ·subst h; rfl
 ·rw [if_neg h, bits_pos h]
  by_cases h2 : k % 2 = 0
  ·rw [decide_eq_true h2, if_pos h2]; rfl
  ·rw [decide_eq_false h2, if_neg h2]; rfl
theorem set_lf (x : β) (k : Nat) : (Tq.lf : Tq β).set x k = one 40 x k := rfl
theorem one_zero (f : Nat) (x : β) : one f x 0 = .nd .lf (some x) .lf := rfl
theorem one_succ (f : Nat) (x : β) (k : Nat) : one (f + 1) x k = if k = 0 then .nd .lf (some x) .lf else if k % 2 = 0 then .nd (one f x (k / 2)) none .lf else .nd .lf none (one f x (k / 2)) := by
 unfold one
 by_cases h : k = 0
 ·subst h; rfl
 ·rw [if_neg h, bits_pos h]
  by_cases h2 : k % 2 = 0
  ·rw [decide_eq_true h2, if_pos h2]; rfl
  ·rw [decide_eq_false h2, if_neg h2]; rfl
theorem set_nd (l r : Tq β) (v : Option β) (x : β) (k : Nat) : (Tq.nd l v r).set x k = if k = 0 then .nd l (some x) r else if k % 2 = 0 then .nd (l.set x (k / 2)) v r else .nd l v (r.set x (k / 2)) := by
 unfold set
 by_cases h : k = 0
 ·subst h; rfl
 ·rw [if_neg h, bits_pos h]
  by_cases h2 : k % 2 = 0
  ·rw [decide_eq_true h2, if_pos h2]; rfl
  ·rw [decide_eq_false h2, if_neg h2]; rfl
theorem get_one : ∀ (f : Nat) (x : β) (k j : Nat), k < 2 ^ f → (one f x k).get j = if j = k then some x else none
 | 0, x, k, j, h => by
  have : k = 0 := by simpa using h
  subst this
  rw [one_zero, get_nd]; simp only [get_lf]
  by_cases hj : j = 0 <;> simp [hj]
 | f + 1, x, k, j, h => by
  rw [one_succ]
  rw [Nat.pow_succ] at h
  have ih := get_one f x (k / 2)
  by_cases hk : k = 0
  ·subst hk
   rw [if_pos rfl, get_nd]; simp only [get_lf]
   split <;> simp_all
  ·rw [if_neg hk]
   by_cases h2 : k % 2 = 0
   ·rw [if_pos h2, get_nd, ih (j / 2) (by omega)]; simp only [get_lf]
    by_cases hj : j = 0
    ·subst hj; rw [if_pos rfl, if_neg (Ne.symm hk)]
    ·rw [if_neg hj]
     by_cases hj2 : j % 2 = 0
     ·rw [if_pos hj2]
      by_cases he : j = k
      ·subst he; rw [if_pos rfl, if_pos rfl]
      ·rw [if_neg he, if_neg (by omega)]
     ·rw [if_neg hj2, if_neg (by intro e; subst e; exact hj2 h2)]
   ·rw [if_neg h2, get_nd, ih (j / 2) (by omega)]; simp only [get_lf]
    by_cases hj : j = 0
    ·subst hj; rw [if_pos rfl, if_neg (Ne.symm hk)]
    ·rw [if_neg hj]
     by_cases hj2 : j % 2 = 0
     ·rw [if_pos hj2, if_neg (by intro e; subst e; exact h2 hj2)]
     ·rw [if_neg hj2]
      by_cases he : j = k
      ·subst he; rw [if_pos rfl, if_pos rfl]
      ·rw [if_neg he, if_neg (by omega)]
theorem get_set : ∀ (t : Tq β) (x : β) (k j : Nat), k < 2 ^ 40 → (t.set x k).get j = if j = k then some x else t.get j
 | .lf, x, k, j, h => by rw [set_lf, get_one 40 x k j h]; rfl
 | .nd l v r, x, k, j, h => by
  rw [set_nd, get_nd]
  have il := get_set l x (k / 2)
  have ir := get_set r x (k / 2)
  by_cases hk : k = 0
  ·subst hk
   rw [if_pos rfl, get_nd]
   by_cases hj : j = 0
   ·subst hj; rw [if_pos rfl, if_pos rfl]
   ·rw [if_neg hj, if_neg hj, if_neg hj]
  ·rw [if_neg hk]
   by_cases h2 : k % 2 = 0
   ·rw [if_pos h2, get_nd, il (j / 2) (by omega)]
    by_cases hj : j = 0
    ·subst hj; rw [if_pos rfl, if_neg (Ne.symm hk), if_pos rfl]
    ·rw [if_neg hj, if_neg hj]
     by_cases hj2 : j % 2 = 0
     ·rw [if_pos hj2, if_pos hj2]
      by_cases he : j = k
      ·subst he; rw [if_pos rfl, if_pos rfl]
      ·rw [if_neg he, if_neg (by omega)]
     ·rw [if_neg hj2, if_neg hj2, if_neg (by intro e; subst e; exact hj2 h2)]
   ·rw [if_neg h2, get_nd, ir (j / 2) (by omega)]
    by_cases hj : j = 0
    ·subst hj; rw [if_pos rfl, if_neg (Ne.symm hk), if_pos rfl]
    ·rw [if_neg hj, if_neg hj]
     by_cases hj2 : j % 2 = 0
     ·rw [if_pos hj2, if_pos hj2, if_neg (by intro e; subst e; exact h2 hj2)]
     ·rw [if_neg hj2, if_neg hj2]
      by_cases he : j = k
      ·subst he; rw [if_pos rfl, if_pos rfl]
      ·rw [if_neg he, if_neg (by omega)]
end Tq
inductive D8 where
 | d0 | d1 | d2 | d3 | d4 | d5 | d6 | d7
structure P8 (α : Type) where
 (a0 a1 a2 a3 a4 a5 a6 a7 : α)
def up0 {α : Type} (U : α → α) (t : P8 α) : P8 α := ⟨U t.a0, t.a1, t.a2, t.a3, t.a4, t.a5, t.a6, t.a7⟩
def up1 {α : Type} (U : α → α) (t : P8 α) : P8 α := ⟨t.a0, U t.a1, t.a2, t.a3, t.a4, t.a5, t.a6, t.a7⟩
def up2 {α : Type} (U : α → α) (t : P8 α) : P8 α := ⟨t.a0, t.a1, U t.a2, t.a3, t.a4, t.a5, t.a6, t.a7⟩
def up3 {α : Type} (U : α → α) (t : P8 α) : P8 α := ⟨t.a0, t.a1, t.a2, U t.a3, t.a4, t.a5, t.a6, t.a7⟩
def up4 {α : Type} (U : α → α) (t : P8 α) : P8 α := ⟨t.a0, t.a1, t.a2, t.a3, U t.a4, t.a5, t.a6, t.a7⟩
def up5 {α : Type} (U : α → α) (t : P8 α) : P8 α := ⟨t.a0, t.a1, t.a2, t.a3, t.a4, U t.a5, t.a6, t.a7⟩
def up6 {α : Type} (U : α → α) (t : P8 α) : P8 α := ⟨t.a0, t.a1, t.a2, t.a3, t.a4, t.a5, U t.a6, t.a7⟩
def up7 {α : Type} (U : α → α) (t : P8 α) : P8 α := ⟨t.a0, t.a1, t.a2, t.a3, t.a4, t.a5, t.a6, U t.a7⟩
def toN : D8 → Nat
 | .d0 => 0
 | .d1 => 1
 | .d2 => 2
 | .d3 => 3
 | .d4 => 4
 | .d5 => 5
 | .d6 => 6
 | .d7 => 7
noncomputable def toD (n : Nat) : D8 := @Bool.rec (fun _ => D8)
 (@Bool.rec (fun _ => D8) (@Bool.rec (fun _ => D8) .d7 .d6 (Nat.ble n 6)) (@Bool.rec (fun _ => D8) .d5 .d4 (Nat.ble n 4)) (Nat.ble n 5))
 (@Bool.rec (fun _ => D8) (@Bool.rec (fun _ => D8) .d3 .d2 (Nat.ble n 2)) (@Bool.rec (fun _ => D8) .d1 .d0 (Nat.ble n 0)) (Nat.ble n 1)) (Nat.ble n 3)
theorem toN_toD : ∀ {n : Nat}, n < 8 → toN (toD n) = n
 | 0, _ => rfl
 | 1, _ => rfl
 | 2, _ => rfl
 | 3, _ => rfl
 | 4, _ => rfl
 | 5, _ => rfl
 | 6, _ => rfl
 | 7, _ => rfl
 | n + 8, h => by omega
noncomputable def dg (m k : Nat) : D8 := toD (Nat.mod (Nat.div k m) 8)
theorem dg_eq {m j k : Nat} : dg m j = dg m k ↔ j / m % 8 = k / m % 8 := by
 constructor
 ·intro h
  have this : toN (toD (j / m % 8)) = toN (toD (k / m % 8)) := congrArg toN h
  rwa [toN_toD (Nat.mod_lt _ (by omega)), toN_toD (Nat.mod_lt _ (by omega))] at this
 ·intro h
  unfold dg
  exact congrArg toD h
noncomputable def sel8 {α : Type} (d : D8) : P8 α → α := @D8.rec (fun _ => P8 α → α) (@P8.a0 α) (@P8.a1 α) (@P8.a2 α) (@P8.a3 α) (@P8.a4 α) (@P8.a5 α) (@P8.a6 α) (@P8.a7 α) d
noncomputable def put8 {α : Type} (d : D8) : (α → α) → P8 α → P8 α := @D8.rec (fun _ => (α → α) → P8 α → P8 α) (@up0 α) (@up1 α) (@up2 α) (@up3 α) (@up4 α) (@up5 α) (@up6 α) (@up7 α) d
theorem sel_put {α : Type} (d e : D8) (U : α → α) (t : P8 α) : (d = e → sel8 d (put8 e U t) = U (sel8 d t)) ∧ (d ≠ e → sel8 d (put8 e U t) = sel8 d t) := by
 constructor
 ·rintro rfl; cases d <;> rfl
 ·intro h; cases d <;> cases e <;> first | rfl | exact absurd rfl h
def Fx (L : Type) : Nat → Type
 | 0 => L
 | n + 1 => P8 (Fx L n)
section
variable {L : Type}
noncomputable def leafN (m : Nat) : (n : Nat) → Fx L n → Nat → L
 | 0, t, _ => t
 | n + 1, t, k => leafN (m * 8) n (@sel8 (Fx L n) (dg m k) t) k
noncomputable def updN (f : L → L) (m : Nat) : (n : Nat) → Nat → Fx L n → Fx L n
 | 0, _ => f
 | n + 1, k => @put8 (Fx L n) (dg m k) (updN f (m * 8) n k)
def allN (x : L) : (n : Nat) → Fx L n
 | 0 => x
 | n + 1 => (⟨allN x n, allN x n, allN x n, allN x n, allN x n, allN x n, allN x n, allN x n⟩ : P8 (Fx L n))
def zip8 {α : Type} (f : α → α → α) (t u : P8 α) : P8 α := ⟨f t.a0 u.a0, f t.a1 u.a1, f t.a2 u.a2, f t.a3 u.a3, f t.a4 u.a4, f t.a5 u.a5, f t.a6 u.a6, f t.a7 u.a7⟩
def zipN (f : L → L → L) : (n : Nat) → Fx L n → Fx L n → Fx L n
 | 0, t, u => f t u
 | n + 1, t, u => @zip8 (Fx L n) (zipN f n) t u
theorem leaf_all (x : L) : ∀ (n m k : Nat), leafN m n (allN x n) k = x
 | 0, _, _ => rfl
 | n + 1, m, k => by
  show leafN (m * 8) n (@sel8 (Fx L n) (dg m k) (⟨allN x n, allN x n, allN x n, allN x n, allN x n, allN x n, allN x n, allN x n⟩ : P8 (Fx L n))) k = x
  have e : @sel8 (Fx L n) (dg m k) (⟨allN x n, allN x n, allN x n, allN x n, allN x n, allN x n, allN x n, allN x n⟩ : P8 (Fx L n)) = allN x n := by cases dg m k <;> rfl
  rw [e]; exact leaf_all x n _ _
theorem leaf_zip (f : L → L → L) : ∀ (n m : Nat) (t u : Fx L n) (k : Nat), leafN m n (zipN f n t u) k = f (leafN m n t k) (leafN m n u k)
 | 0, _, _, _, _ => rfl
 | n + 1, m, t, u, k => by
  show leafN (m * 8) n (@sel8 (Fx L n) (dg m k) (@zip8 (Fx L n) (zipN f n) t u)) k = f (leafN (m * 8) n (@sel8 (Fx L n) (dg m k) t) k) (leafN (m * 8) n (@sel8 (Fx L n) (dg m k) u) k)
  have e : @sel8 (Fx L n) (dg m k) (@zip8 (Fx L n) (zipN f n) t u) = zipN f n (@sel8 (Fx L n) (dg m k) t) (@sel8 (Fx L n) (dg m k) u) := by cases dg m k <;> rfl
  rw [e]; exact leaf_zip f n _ _ _ _
theorem mod_eight (n a b : Nat) : (a % 8 ^ (n + 1) = b % 8 ^ (n + 1)) ↔ (a % 8 = b % 8 ∧ a / 8 % 8 ^ n = b / 8 % 8 ^ n) := by
 have h := fun x : Nat => show x % 8 ^ (n + 1) = x % 8 + 8 * (x / 8 % 8 ^ n) by rw [Nat.pow_succ, Nat.mul_comm, Nat.mod_mul]
 rw [h a, h b]
 omega
theorem leaf_upd (f : L → L) : ∀ (n m : Nat) (t : Fx L n) (k j : Nat), leafN m n (updN f m n k t) j = if j / m % 8 ^ n = k / m % 8 ^ n then f (leafN m n t j) else leafN m n t j
 | 0, m, t, k, j => by simp [Nat.mod_one]; rfl
 | n + 1, m, t, k, j => by
  have hd : ∀ x, x / (m * 8) = x / m / 8 := fun x => (Nat.div_div_eq_div_mul x m 8).symm
  show leafN (m * 8) n (@sel8 (Fx L n) (dg m j) (@put8 (Fx L n) (dg m k) (updN f (m * 8) n k) t)) j = if j / m % 8 ^ (n + 1) = k / m % 8 ^ (n + 1) then f (leafN (m * 8) n (@sel8 (Fx L n) (dg m j) t) j) else leafN (m * 8) n (@sel8 (Fx L n) (dg m j) t) j
  obtain ⟨h1, h2⟩ := @sel_put (Fx L n) (dg m j) (dg m k) (updN f (m * 8) n k) t
  by_cases hj : j / m % 8 = k / m % 8
  ·rw [h1 (dg_eq.2 hj), leaf_upd f n (m * 8), hd, hd]
   by_cases he : j / m / 8 % 8 ^ n = k / m / 8 % 8 ^ n
   ·rw [if_pos he, if_pos ((mod_eight ..).2 ⟨hj, he⟩)]
   ·rw [if_neg he, if_neg (fun h => he ((mod_eight ..).1 h).2)]
  ·rw [h2 (fun h => hj (dg_eq.1 h)), if_neg (fun h => hj ((mod_eight ..).1 h).1)]
theorem ble_lt (k m : Nat) : Nat.ble k m = decide (k < m + 1) := by
 by_cases h : k < m + 1
 ·rw [decide_eq_true h]; exact Nat.ble_eq_true_of_le (by omega)
 ·rw [decide_eq_false h]
  cases hb : Nat.ble k m with
  | false => rfl
  | true => exact absurd (Nat.le_of_ble_eq_true hb) (by omega)
end
def fam (c : Nat → Option Chunk) : Chunk where
 fp k := ∃ s x, c s = some x ∧ x.fp k
 ok w := (∀ s x, c s = some x → x.ok w) ∧ ∀ s t x y, c s = some x → c t = some y → s ≠ t → ∀ k, x.fp k → ¬ y.fp k
 loc w w' h hw := ⟨fun s x hs => x.loc w w' (fun k hk => h k ⟨s, x, hs, hk⟩) (hw.1 s x hs), hw.2⟩
section
variable {w0 w : World} {O : List Nat} {C : List Chunk} {c : Nat → Option Chunk}
theorem fam_get (h : St w0 O (fam c :: C) w) {s : Nat} {x : Chunk} (hs : c s = some x) : x.ok w := (h.ok _ (List.mem_cons_self ..)).1 s x hs
theorem fam_split (h : St w0 O (fam c :: C) w) {s : Nat} {x : Chunk} (hs : c s = some x) : St w0 O (x :: fam (fun t => if t = s then none else c t) :: C) w := by
 have hf := h.ok _ (List.mem_cons_self ..)
 have hd := List.pairwise_cons.1 h.disj
 refine ⟨h.os, h.tape, h.output, h.size, h.old, fun y hy => ?_, fun y hy k hk => ?_, ?_⟩
 ·rcases List.mem_cons.1 hy with rfl | hy
  ·exact hf.1 s _ hs
  ·rcases List.mem_cons.1 hy with rfl | hy
   ·refine ⟨fun t z ht => ?_, fun t u y z ht hu hne => ?_⟩
    ·dsimp only at ht; split at ht
     ·cases ht
     ·exact hf.1 t z ht
    ·dsimp only at ht hu
     split at ht
     ·cases ht
     ·split at hu
      ·cases hu
      ·exact hf.2 t u y z ht hu hne
   ·exact h.ok y (List.mem_cons_of_mem _ hy)
 ·rcases List.mem_cons.1 hy with rfl | hy
  ·exact h.bnd _ (List.mem_cons_self ..) k ⟨s, _, hs, hk⟩
  ·rcases List.mem_cons.1 hy with rfl | hy
   ·obtain ⟨t, z, ht, hz⟩ := hk
    dsimp only at ht; split at ht
    ·cases ht
    ·exact h.bnd _ (List.mem_cons_self ..) k ⟨t, z, ht, hz⟩
   ·exact h.bnd y (List.mem_cons_of_mem _ hy) k hk
 ·refine List.pairwise_cons.2 ⟨fun y hy k hk => ?_, List.pairwise_cons.2 ⟨fun y hy k hk => ?_, hd.2⟩⟩
  ·rcases List.mem_cons.1 hy with rfl | hy
   ·rintro ⟨t, z, ht, hz⟩
    dsimp only at ht; split at ht
    ·cases ht
    ·rename_i hne
     exact hf.2 s t x z hs ht (Ne.symm hne) k hk hz
   ·exact hd.1 y hy k ⟨s, x, hs, hk⟩
  ·obtain ⟨t, z, ht, hz⟩ := hk
   dsimp only at ht; split at ht
   ·cases ht
   ·exact hd.1 y hy k ⟨t, z, ht, hz⟩
theorem fam_join {s : Nat} {x : Chunk} (hs : c s = none) (h : St w0 O (x :: fam c :: C) w) : St w0 O (fam (fun t => if t = s then some x else c t) :: C) w := by
 have hx := h.ok x (List.mem_cons_self ..)
 have hf := h.ok _ (List.mem_cons_of_mem _ (List.mem_cons_self ..))
 obtain ⟨hd1, hd2⟩ := List.pairwise_cons.1 h.disj
 obtain ⟨hd3, hd4⟩ := List.pairwise_cons.1 hd2
 have hap := hd1 _ (List.mem_cons_self ..)
 refine ⟨h.os, h.tape, h.output, h.size, h.old, fun y hy => ?_, fun y hy k hk => ?_, ?_⟩
 ·rcases List.mem_cons.1 hy with rfl | hy
  ·refine ⟨fun t z ht => ?_, fun t u y z ht hu hne k hky hkz => ?_⟩
   ·dsimp only at ht; split at ht
    ·cases ht; exact hx
    ·exact hf.1 t z ht
   ·dsimp only at ht hu
    split at ht
    ·cases ht
     split at hu
     ·rename_i e1 e2; exact hne (e1.trans e2.symm)
     ·exact hap k hky ⟨u, z, hu, hkz⟩
    ·split at hu
     ·cases hu; exact hap k hkz ⟨t, y, ht, hky⟩
     ·exact hf.2 t u y z ht hu hne k hky hkz
  ·exact h.ok y (List.mem_cons_of_mem _ (List.mem_cons_of_mem _ hy))
 ·rcases List.mem_cons.1 hy with rfl | hy
  ·obtain ⟨t, z, ht, hz⟩ := hk
   dsimp only at ht; split at ht
   ·cases ht; exact h.bnd _ (List.mem_cons_self ..) k hz
   ·exact h.bnd _ (List.mem_cons_of_mem _ (List.mem_cons_self ..)) k ⟨t, z, ht, hz⟩
  ·exact h.bnd y (List.mem_cons_of_mem _ (List.mem_cons_of_mem _ hy)) k hk
 ·refine List.pairwise_cons.2 ⟨fun y hy k hk => ?_, hd4⟩
  obtain ⟨t, z, ht, hz⟩ := hk
  dsimp only at ht; split at ht
  ·cases ht; exact hd1 y (List.mem_cons_of_mem _ hy) k hz
  ·exact hd3 y hy k ⟨t, z, ht, hz⟩
theorem fam_eq {c d : Nat → Option Chunk} (h : ∀ s, c s = d s) (hS : St w0 O (fam c :: C) w) : St w0 O (fam d :: C) w := by
 rw [← show c = d from funext h]; exact hS
end
end Go.X
namespace Go.Eng
open Go Go.RowKit
section
variable {P : Program} {w0 : World} {O : List Nat} {ops : Array Oper} {Q : Exit → Act → World → Prop} {N : Nat} {D : List Deferred} {L : FL} {C : List Chunk} {K : Act → World → Prop}
variable {d : Nat} {ty : TypeId} {pos : String} {af : Array Edge}
theorem Yl.convert {F : World → Prop} {t1 t2 : TypeId} {x : Operand} {vx v : Value} (hx : ev L x = some vx) (hr : ∀ w, (Go.convert t1 t2 vx).run P w = .ok v w) :
  Yl P N D L F ⟨some d, .convert t1 t2 x, ty, pos, af, none⟩ v := fun a w hF _ => by
 simp [execOp, hF.ev hx, hr w]
def fldTB (P : Program) (t : TypeId) (f : Nat) : Option (TypeId × Nat) := match P.underlying t with
 | some (.struct fields) => (fields[f]?).map fun fd => (fd.type, fd.offset)
 | _ => none
theorem fldTB_some {t ft : TypeId} {f off : Nat} (h : fldTB P t f = some (ft, off)) : ∃ (fields : Array Field) (fd : Field), P.underlying t = some (.struct fields) ∧ fields[f]? = some fd ∧ fd.type = ft ∧ fd.offset = off := by
 unfold fldTB at h
 split at h
 ·rename_i fields hu
  cases hq : fields[f]? with
  | none => rw [hq] at h; cases h
  | some fd =>
   rw [hq] at h
   simp only [Option.map_some, Option.some.injEq, Prod.mk.injEq] at h
   exact ⟨fields, fd, hu, hq, h.1, h.2⟩
 ·cases h
end
end Go.Eng
namespace Go.X
open Go Go.Eng Go.RowKit Dg Go.Proofs.YtndpdhamadiopaaGreatDoor
inductive SV where
 | int (k : IntKind) (i : Int)
 | bool (b : Bool)
 | str (l : List Nat)
 | ptr (s off : Nat)
 | nilp
 | sl (s i n sz : Nat)        -- of a row, from element i on
 | slx (s off n cap : Nat)    -- its capacity is known
 | nils
 | dg (t : BT) (s : Nat)      -- a diagram's nodes
 | mp (s : Nat)
 | nilm
 | fn (f : Nat) (us cs : List SV)
 | nilf
 | ifc (t : Nat) (v : SV)
 | nili
 | agg (l : List SV)
 | tup (l : List SV)
 | opq (s : Nat)              -- not known
 | yl (s : Nat)               -- yield, of a loop's record
noncomputable def gAS (t : Fx (Option SV) 3) (k : Nat) : Option SV := @D8.rec (fun _ => Fx (Option SV) 1 → Fx (Option SV) 0) (@P8.a0 (Fx (Option SV) 0)) (@P8.a1 (Fx (Option SV) 0)) (@P8.a2 (Fx (Option SV) 0)) (@P8.a3 (Fx (Option SV) 0)) (@P8.a4 (Fx (Option SV) 0)) (@P8.a5 (Fx (Option SV) 0)) (@P8.a6 (Fx (Option SV) 0)) (@P8.a7 (Fx (Option SV) 0)) (dg 64 k) (@D8.rec (fun _ => Fx (Option SV) 2 → Fx (Option SV) 1) (@P8.a0 (Fx (Option SV) 1)) (@P8.a1 (Fx (Option SV) 1)) (@P8.a2 (Fx (Option SV) 1)) (@P8.a3 (Fx (Option SV) 1)) (@P8.a4 (Fx (Option SV) 1)) (@P8.a5 (Fx (Option SV) 1)) (@P8.a6 (Fx (Option SV) 1)) (@P8.a7 (Fx (Option SV) 1)) (dg 8 k) (@D8.rec (fun _ => Fx (Option SV) 3 → Fx (Option SV) 2) (@P8.a0 (Fx (Option SV) 2)) (@P8.a1 (Fx (Option SV) 2)) (@P8.a2 (Fx (Option SV) 2)) (@P8.a3 (Fx (Option SV) 2)) (@P8.a4 (Fx (Option SV) 2)) (@P8.a5 (Fx (Option SV) 2)) (@P8.a6 (Fx (Option SV) 2)) (@P8.a7 (Fx (Option SV) 2)) (dg 1 k) t))
noncomputable def uAS (x : SV) (k : Nat) (t : Fx (Option SV) 3) : Fx (Option SV) 3 := (@D8.rec (fun _ => (Fx (Option SV) 2 → Fx (Option SV) 2) → Fx (Option SV) 3 → Fx (Option SV) 3) (@up0 (Fx (Option SV) 2)) (@up1 (Fx (Option SV) 2)) (@up2 (Fx (Option SV) 2)) (@up3 (Fx (Option SV) 2)) (@up4 (Fx (Option SV) 2)) (@up5 (Fx (Option SV) 2)) (@up6 (Fx (Option SV) 2)) (@up7 (Fx (Option SV) 2)) (dg 1 k) (@D8.rec (fun _ => (Fx (Option SV) 1 → Fx (Option SV) 1) → Fx (Option SV) 2 → Fx (Option SV) 2) (@up0 (Fx (Option SV) 1)) (@up1 (Fx (Option SV) 1)) (@up2 (Fx (Option SV) 1)) (@up3 (Fx (Option SV) 1)) (@up4 (Fx (Option SV) 1)) (@up5 (Fx (Option SV) 1)) (@up6 (Fx (Option SV) 1)) (@up7 (Fx (Option SV) 1)) (dg 8 k) (@D8.rec (fun _ => (Fx (Option SV) 0 → Fx (Option SV) 0) → Fx (Option SV) 1 → Fx (Option SV) 1) (@up0 (Fx (Option SV) 0)) (@up1 (Fx (Option SV) 0)) (@up2 (Fx (Option SV) 0)) (@up3 (Fx (Option SV) 0)) (@up4 (Fx (Option SV) 0)) (@up5 (Fx (Option SV) 0)) (@up6 (Fx (Option SV) 0)) (@up7 (Fx (Option SV) 0)) (dg 64 k) (fun _ => some x)))) t
theorem gAS_eq (t : Fx (Option SV) 3) (k : Nat) : gAS t k = leafN 1 3 t k := rfl
theorem uAS_eq (x : SV) (k : Nat) (t : Fx (Option SV) 3) : uAS x k t = updN (fun _ => some x) 1 3 k t := rfl
noncomputable def gBS (t : Fx (Option SV) 5) (k : Nat) : Option SV := @D8.rec (fun _ => Fx (Option SV) 1 → Fx (Option SV) 0) (@P8.a0 (Fx (Option SV) 0)) (@P8.a1 (Fx (Option SV) 0)) (@P8.a2 (Fx (Option SV) 0)) (@P8.a3 (Fx (Option SV) 0)) (@P8.a4 (Fx (Option SV) 0)) (@P8.a5 (Fx (Option SV) 0)) (@P8.a6 (Fx (Option SV) 0)) (@P8.a7 (Fx (Option SV) 0)) (dg 4096 k) (@D8.rec (fun _ => Fx (Option SV) 2 → Fx (Option SV) 1) (@P8.a0 (Fx (Option SV) 1)) (@P8.a1 (Fx (Option SV) 1)) (@P8.a2 (Fx (Option SV) 1)) (@P8.a3 (Fx (Option SV) 1)) (@P8.a4 (Fx (Option SV) 1)) (@P8.a5 (Fx (Option SV) 1)) (@P8.a6 (Fx (Option SV) 1)) (@P8.a7 (Fx (Option SV) 1)) (dg 512 k) (@D8.rec (fun _ => Fx (Option SV) 3 → Fx (Option SV) 2) (@P8.a0 (Fx (Option SV) 2)) (@P8.a1 (Fx (Option SV) 2)) (@P8.a2 (Fx (Option SV) 2)) (@P8.a3 (Fx (Option SV) 2)) (@P8.a4 (Fx (Option SV) 2)) (@P8.a5 (Fx (Option SV) 2)) (@P8.a6 (Fx (Option SV) 2)) (@P8.a7 (Fx (Option SV) 2)) (dg 64 k) (@D8.rec (fun _ => Fx (Option SV) 4 → Fx (Option SV) 3) (@P8.a0 (Fx (Option SV) 3)) (@P8.a1 (Fx (Option SV) 3)) (@P8.a2 (Fx (Option SV) 3)) (@P8.a3 (Fx (Option SV) 3)) (@P8.a4 (Fx (Option SV) 3)) (@P8.a5 (Fx (Option SV) 3)) (@P8.a6 (Fx (Option SV) 3)) (@P8.a7 (Fx (Option SV) 3)) (dg 8 k) (@D8.rec (fun _ => Fx (Option SV) 5 → Fx (Option SV) 4) (@P8.a0 (Fx (Option SV) 4)) (@P8.a1 (Fx (Option SV) 4)) (@P8.a2 (Fx (Option SV) 4)) (@P8.a3 (Fx (Option SV) 4)) (@P8.a4 (Fx (Option SV) 4)) (@P8.a5 (Fx (Option SV) 4)) (@P8.a6 (Fx (Option SV) 4)) (@P8.a7 (Fx (Option SV) 4)) (dg 1 k) t))))
noncomputable def uBS (x : SV) (k : Nat) (t : Fx (Option SV) 5) : Fx (Option SV) 5 := (@D8.rec (fun _ => (Fx (Option SV) 4 → Fx (Option SV) 4) → Fx (Option SV) 5 → Fx (Option SV) 5) (@up0 (Fx (Option SV) 4)) (@up1 (Fx (Option SV) 4)) (@up2 (Fx (Option SV) 4)) (@up3 (Fx (Option SV) 4)) (@up4 (Fx (Option SV) 4)) (@up5 (Fx (Option SV) 4)) (@up6 (Fx (Option SV) 4)) (@up7 (Fx (Option SV) 4)) (dg 1 k) (@D8.rec (fun _ => (Fx (Option SV) 3 → Fx (Option SV) 3) → Fx (Option SV) 4 → Fx (Option SV) 4) (@up0 (Fx (Option SV) 3)) (@up1 (Fx (Option SV) 3)) (@up2 (Fx (Option SV) 3)) (@up3 (Fx (Option SV) 3)) (@up4 (Fx (Option SV) 3)) (@up5 (Fx (Option SV) 3)) (@up6 (Fx (Option SV) 3)) (@up7 (Fx (Option SV) 3)) (dg 8 k) (@D8.rec (fun _ => (Fx (Option SV) 2 → Fx (Option SV) 2) → Fx (Option SV) 3 → Fx (Option SV) 3) (@up0 (Fx (Option SV) 2)) (@up1 (Fx (Option SV) 2)) (@up2 (Fx (Option SV) 2)) (@up3 (Fx (Option SV) 2)) (@up4 (Fx (Option SV) 2)) (@up5 (Fx (Option SV) 2)) (@up6 (Fx (Option SV) 2)) (@up7 (Fx (Option SV) 2)) (dg 64 k) (@D8.rec (fun _ => (Fx (Option SV) 1 → Fx (Option SV) 1) → Fx (Option SV) 2 → Fx (Option SV) 2) (@up0 (Fx (Option SV) 1)) (@up1 (Fx (Option SV) 1)) (@up2 (Fx (Option SV) 1)) (@up3 (Fx (Option SV) 1)) (@up4 (Fx (Option SV) 1)) (@up5 (Fx (Option SV) 1)) (@up6 (Fx (Option SV) 1)) (@up7 (Fx (Option SV) 1)) (dg 512 k) (@D8.rec (fun _ => (Fx (Option SV) 0 → Fx (Option SV) 0) → Fx (Option SV) 1 → Fx (Option SV) 1) (@up0 (Fx (Option SV) 0)) (@up1 (Fx (Option SV) 0)) (@up2 (Fx (Option SV) 0)) (@up3 (Fx (Option SV) 0)) (@up4 (Fx (Option SV) 0)) (@up5 (Fx (Option SV) 0)) (@up6 (Fx (Option SV) 0)) (@up7 (Fx (Option SV) 0)) (dg 4096 k) (fun _ => some x)))))) t
theorem gBS_eq (t : Fx (Option SV) 5) (k : Nat) : gBS t k = leafN 1 5 t k := rfl
theorem uBS_eq (x : SV) (k : Nat) (t : Fx (Option SV) 5) : uBS x k t = updN (fun _ => some x) 1 5 k t := rfl
structure TrS where
 a : Fx (Option SV) 3
 b : Fx (Option SV) 5
 c : Tq SV
namespace TrS
def lf : TrS := ⟨allN none 3, allN none 5, .lf⟩
noncomputable def get (t : TrS) (k : Nat) : Option SV := @Bool.rec (fun _ => Option SV) (@Bool.rec (fun _ => Option SV) (t.c.get k) (gBS t.b k) (Nat.ble k 32767)) (gAS t.a k) (Nat.ble k 511)
noncomputable def set (t : TrS) (x : SV) (k : Nat) : TrS := @Bool.rec (fun _ => TrS) (@Bool.rec (fun _ => TrS) ⟨t.a, t.b, t.c.set x k⟩ ⟨t.a, uBS x k t.b, t.c⟩ (Nat.ble k 32767)) ⟨uAS x k t.a, t.b, t.c⟩ (Nat.ble k 511)
theorem get_eq (t : TrS) (k : Nat) : t.get k = if k < 512 then leafN 1 3 t.a k else if k < 32768 then leafN 1 5 t.b k else t.c.get k := by
 unfold get
 rw [ble_lt k 511, ble_lt k 32767]
 by_cases h : k < 512
 ·rw [decide_eq_true h, if_pos h]; exact gAS_eq _ _
 ·rw [decide_eq_false h, if_neg h]
  by_cases h2 : k < 32768
  ·rw [decide_eq_true h2, if_pos h2]; exact gBS_eq _ _
  ·rw [decide_eq_false h2, if_neg h2]
theorem set_eq (t : TrS) (x : SV) (k : Nat) : t.set x k = if k < 512 then ⟨updN (fun _ => some x) 1 3 k t.a, t.b, t.c⟩ else if k < 32768 then ⟨t.a, updN (fun _ => some x) 1 5 k t.b, t.c⟩ else ⟨t.a, t.b, t.c.set x k⟩ := by
 unfold set
 rw [ble_lt k 511, ble_lt k 32767]
 by_cases h : k < 512
 ·rw [decide_eq_true h, if_pos h, ← uAS_eq]
 ·rw [decide_eq_false h, if_neg h]
  by_cases h2 : k < 32768
  ·rw [decide_eq_true h2, if_pos h2, ← uBS_eq]
  ·rw [decide_eq_false h2, if_neg h2]
theorem get_lf (k : Nat) : lf.get k = none := by
 rw [get_eq]
 split
 ·exact leaf_all ..
 ·split
  ·exact leaf_all ..
  ·exact Tq.get_lf k
theorem get_set (t : TrS) (x : SV) (k j : Nat) (h : k < 2 ^ 40) : (t.set x k).get j = if j = k then some x else t.get j := by
 rw [get_eq, get_eq, set_eq]
 by_cases hk : k < 512
 ·rw [if_pos hk]
  by_cases hj : j < 512
  ·rw [if_pos hj, if_pos hj, leaf_upd, Nat.div_one, Nat.div_one, Nat.mod_eq_of_lt (a := j) (by omega), Nat.mod_eq_of_lt (a := k) (by omega)]
  ·rw [if_neg hj, if_neg hj, if_neg (show ¬ j = k by omega)]
 ·rw [if_neg hk]
  by_cases hk2 : k < 32768
  ·rw [if_pos hk2]
   by_cases hj : j < 512
   ·rw [if_pos hj, if_pos hj, if_neg (show ¬ j = k by omega)]
   ·rw [if_neg hj, if_neg hj]
    by_cases hj2 : j < 32768
    ·rw [if_pos hj2, if_pos hj2, leaf_upd, Nat.div_one, Nat.div_one, Nat.mod_eq_of_lt (a := j) (by omega), Nat.mod_eq_of_lt (a := k) (by omega)]
    ·rw [if_neg hj2, if_neg hj2, if_neg (show ¬ j = k by omega)]
  ·rw [if_neg hk2]
   by_cases hj : j < 512
   ·rw [if_pos hj, if_pos hj, if_neg (show ¬ j = k by omega)]
   ·rw [if_neg hj, if_neg hj]
    by_cases hj2 : j < 32768
    ·rw [if_pos hj2, if_pos hj2, if_neg (show ¬ j = k by omega)]
    ·rw [if_neg hj2, if_neg hj2, Tq.get_set _ _ _ _ h]
end TrS
structure As where
 b : Option Nat
 c : Nat
 v : Value
 o : Option Obj
 one : v.oneCell' = true
abbrev Rho := Nat → As
def bl (ρ : Rho) (s : Nat) : Nat := (ρ s).b.getD 0
def ad (ρ : Rho) (s : Nat) : Option Addr := (ρ s).b.map fun b => ⟨b, 0, none⟩
mutual
def dv (ρ : Rho) : SV → Value
 | .int k i => .int k i
 | .bool b => .bool b
 | .str l => .string (str (l.map UInt8.ofNat))
 | .ptr s off => .pointer (some ⟨bl ρ s, off, none⟩)
 | .nilp => .pointer none
 | .sl s i n sz => .slice ((ρ s).b.map fun b => ⟨b, i * sz, none⟩) n ((ρ s).c - i)
 | .slx s off n cap => .slice (some ⟨bl ρ s, off, none⟩) n cap
 | .nils => .slice none 0 0
 | .dg t s => .slice (ad ρ s) (canon t).1.length (ρ s).c
 | .mp s => .map (some (bl ρ s))
 | .nilm => .map none
 | .fn f us cs => .func (.func f) (dvs ρ us).toArray (dvs ρ cs).toArray
 | .nilf => .nilFunc
 | .ifc t v => .iface t (dv ρ v)
 | .nili => .nilIface
 | .agg l => .agg (dvs ρ l).toArray
 | .tup l => .tuple (dvs ρ l).toArray
 | .opq s => (ρ s).v
 | .yl s => .func (.yield (bl ρ s)) #[] #[]
def dvs (ρ : Rho) : List SV → List Value
 | [] => []
 | x :: r => dv ρ x :: dvs ρ r
end
theorem dvs_map (ρ : Rho) : ∀ l : List SV, dvs ρ l = l.map (dv ρ)
 | [] => rfl
 | x :: r => by rw [dvs, dvs_map ρ r]; rfl
theorem dvs_len (ρ : Rho) (l : List SV) : (dvs ρ l).length = l.length := by rw [dvs_map, List.length_map]
theorem dvs_get {ρ : Rho} {l : List SV} {i : Nat} {x : SV} (h : l[i]? = some x) : (dvs ρ l)[i]? = some (dv ρ x) := by rw [dvs_map, List.getElem?_map, h]; rfl
theorem dvs_append (ρ : Rho) (l m : List SV) : dvs ρ (l ++ m) = dvs ρ l ++ dvs ρ m := by simp [dvs_map]
inductive KK where
 | str | int | two | three
@[reducible] def KK.T : KK → Type
 | .str => List UInt8
 | .int => Nat
 | .two => Nat × Nat
 | .three => Nat × Nat × Nat
instance KK.dec : (k : KK) → DecidableEq k.T
 | .str => inferInstanceAs (DecidableEq (List UInt8))
 | .int => inferInstanceAs (DecidableEq Nat)
 | .two => inferInstanceAs (DecidableEq (Nat × Nat))
 | .three => inferInstanceAs (DecidableEq (Nat × Nat × Nat))
def KK.beq : KK → KK → Bool
 | .str, .str | .int, .int | .two, .two | .three, .three => true
 | _, _ => false
theorem KK.beq_ok {k k' : KK} (h : KK.beq k k' = true) : k = k' := by cases k <;> cases k' <;> first | rfl | cases h
inductive Blk where
 | cells (cs : List SV) (e : TypeId)
 | row (xs : List SV) (n : Nat) (e : TypeId) (sz : Nat)
 | dgr (t : BT)
 | kv (k : KK) (l : List (List Nat × SV))    -- a map
 | ro (cs : List SV)                -- a variable of the program's, to be read
 | dead
 | lp (N : Nat) (T : TrS) (ps : List Nat) (asg body : Code) (busy : Bool)    -- the record of a loop over a function
 | dfd                              -- the block for deferred calls of such a loop's rounds
 | itr (t : Nat) (k : KK) (l : List (List Nat × SV)) (left : List (List Nat)) (cur : Option (List Nat))   -- an iterator over the map t
 | sit (l : List Nat) (pos : Nat)   -- one over a string
 | rd (xs : List SV)                -- cells to be read
 | hol (cs : List (Option SV)) (e : TypeId)    -- cells of which some are not known
noncomputable def gAB (t : Fx (Option Blk) 3) (k : Nat) : Option Blk := @D8.rec (fun _ => Fx (Option Blk) 1 → Fx (Option Blk) 0) (@P8.a0 (Fx (Option Blk) 0)) (@P8.a1 (Fx (Option Blk) 0)) (@P8.a2 (Fx (Option Blk) 0)) (@P8.a3 (Fx (Option Blk) 0)) (@P8.a4 (Fx (Option Blk) 0)) (@P8.a5 (Fx (Option Blk) 0)) (@P8.a6 (Fx (Option Blk) 0)) (@P8.a7 (Fx (Option Blk) 0)) (dg 64 k) (@D8.rec (fun _ => Fx (Option Blk) 2 → Fx (Option Blk) 1) (@P8.a0 (Fx (Option Blk) 1)) (@P8.a1 (Fx (Option Blk) 1)) (@P8.a2 (Fx (Option Blk) 1)) (@P8.a3 (Fx (Option Blk) 1)) (@P8.a4 (Fx (Option Blk) 1)) (@P8.a5 (Fx (Option Blk) 1)) (@P8.a6 (Fx (Option Blk) 1)) (@P8.a7 (Fx (Option Blk) 1)) (dg 8 k) (@D8.rec (fun _ => Fx (Option Blk) 3 → Fx (Option Blk) 2) (@P8.a0 (Fx (Option Blk) 2)) (@P8.a1 (Fx (Option Blk) 2)) (@P8.a2 (Fx (Option Blk) 2)) (@P8.a3 (Fx (Option Blk) 2)) (@P8.a4 (Fx (Option Blk) 2)) (@P8.a5 (Fx (Option Blk) 2)) (@P8.a6 (Fx (Option Blk) 2)) (@P8.a7 (Fx (Option Blk) 2)) (dg 1 k) t))
noncomputable def uAB (x : Blk) (k : Nat) (t : Fx (Option Blk) 3) : Fx (Option Blk) 3 := (@D8.rec (fun _ => (Fx (Option Blk) 2 → Fx (Option Blk) 2) → Fx (Option Blk) 3 → Fx (Option Blk) 3) (@up0 (Fx (Option Blk) 2)) (@up1 (Fx (Option Blk) 2)) (@up2 (Fx (Option Blk) 2)) (@up3 (Fx (Option Blk) 2)) (@up4 (Fx (Option Blk) 2)) (@up5 (Fx (Option Blk) 2)) (@up6 (Fx (Option Blk) 2)) (@up7 (Fx (Option Blk) 2)) (dg 1 k) (@D8.rec (fun _ => (Fx (Option Blk) 1 → Fx (Option Blk) 1) → Fx (Option Blk) 2 → Fx (Option Blk) 2) (@up0 (Fx (Option Blk) 1)) (@up1 (Fx (Option Blk) 1)) (@up2 (Fx (Option Blk) 1)) (@up3 (Fx (Option Blk) 1)) (@up4 (Fx (Option Blk) 1)) (@up5 (Fx (Option Blk) 1)) (@up6 (Fx (Option Blk) 1)) (@up7 (Fx (Option Blk) 1)) (dg 8 k) (@D8.rec (fun _ => (Fx (Option Blk) 0 → Fx (Option Blk) 0) → Fx (Option Blk) 1 → Fx (Option Blk) 1) (@up0 (Fx (Option Blk) 0)) (@up1 (Fx (Option Blk) 0)) (@up2 (Fx (Option Blk) 0)) (@up3 (Fx (Option Blk) 0)) (@up4 (Fx (Option Blk) 0)) (@up5 (Fx (Option Blk) 0)) (@up6 (Fx (Option Blk) 0)) (@up7 (Fx (Option Blk) 0)) (dg 64 k) (fun _ => some x)))) t
theorem gAB_eq (t : Fx (Option Blk) 3) (k : Nat) : gAB t k = leafN 1 3 t k := rfl
theorem uAB_eq (x : Blk) (k : Nat) (t : Fx (Option Blk) 3) : uAB x k t = updN (fun _ => some x) 1 3 k t := rfl
noncomputable def gBB (t : Fx (Option Blk) 5) (k : Nat) : Option Blk := @D8.rec (fun _ => Fx (Option Blk) 1 → Fx (Option Blk) 0) (@P8.a0 (Fx (Option Blk) 0)) (@P8.a1 (Fx (Option Blk) 0)) (@P8.a2 (Fx (Option Blk) 0)) (@P8.a3 (Fx (Option Blk) 0)) (@P8.a4 (Fx (Option Blk) 0)) (@P8.a5 (Fx (Option Blk) 0)) (@P8.a6 (Fx (Option Blk) 0)) (@P8.a7 (Fx (Option Blk) 0)) (dg 4096 k) (@D8.rec (fun _ => Fx (Option Blk) 2 → Fx (Option Blk) 1) (@P8.a0 (Fx (Option Blk) 1)) (@P8.a1 (Fx (Option Blk) 1)) (@P8.a2 (Fx (Option Blk) 1)) (@P8.a3 (Fx (Option Blk) 1)) (@P8.a4 (Fx (Option Blk) 1)) (@P8.a5 (Fx (Option Blk) 1)) (@P8.a6 (Fx (Option Blk) 1)) (@P8.a7 (Fx (Option Blk) 1)) (dg 512 k) (@D8.rec (fun _ => Fx (Option Blk) 3 → Fx (Option Blk) 2) (@P8.a0 (Fx (Option Blk) 2)) (@P8.a1 (Fx (Option Blk) 2)) (@P8.a2 (Fx (Option Blk) 2)) (@P8.a3 (Fx (Option Blk) 2)) (@P8.a4 (Fx (Option Blk) 2)) (@P8.a5 (Fx (Option Blk) 2)) (@P8.a6 (Fx (Option Blk) 2)) (@P8.a7 (Fx (Option Blk) 2)) (dg 64 k) (@D8.rec (fun _ => Fx (Option Blk) 4 → Fx (Option Blk) 3) (@P8.a0 (Fx (Option Blk) 3)) (@P8.a1 (Fx (Option Blk) 3)) (@P8.a2 (Fx (Option Blk) 3)) (@P8.a3 (Fx (Option Blk) 3)) (@P8.a4 (Fx (Option Blk) 3)) (@P8.a5 (Fx (Option Blk) 3)) (@P8.a6 (Fx (Option Blk) 3)) (@P8.a7 (Fx (Option Blk) 3)) (dg 8 k) (@D8.rec (fun _ => Fx (Option Blk) 5 → Fx (Option Blk) 4) (@P8.a0 (Fx (Option Blk) 4)) (@P8.a1 (Fx (Option Blk) 4)) (@P8.a2 (Fx (Option Blk) 4)) (@P8.a3 (Fx (Option Blk) 4)) (@P8.a4 (Fx (Option Blk) 4)) (@P8.a5 (Fx (Option Blk) 4)) (@P8.a6 (Fx (Option Blk) 4)) (@P8.a7 (Fx (Option Blk) 4)) (dg 1 k) t))))
noncomputable def uBB (x : Blk) (k : Nat) (t : Fx (Option Blk) 5) : Fx (Option Blk) 5 := (@D8.rec (fun _ => (Fx (Option Blk) 4 → Fx (Option Blk) 4) → Fx (Option Blk) 5 → Fx (Option Blk) 5) (@up0 (Fx (Option Blk) 4)) (@up1 (Fx (Option Blk) 4)) (@up2 (Fx (Option Blk) 4)) (@up3 (Fx (Option Blk) 4)) (@up4 (Fx (Option Blk) 4)) (@up5 (Fx (Option Blk) 4)) (@up6 (Fx (Option Blk) 4)) (@up7 (Fx (Option Blk) 4)) (dg 1 k) (@D8.rec (fun _ => (Fx (Option Blk) 3 → Fx (Option Blk) 3) → Fx (Option Blk) 4 → Fx (Option Blk) 4) (@up0 (Fx (Option Blk) 3)) (@up1 (Fx (Option Blk) 3)) (@up2 (Fx (Option Blk) 3)) (@up3 (Fx (Option Blk) 3)) (@up4 (Fx (Option Blk) 3)) (@up5 (Fx (Option Blk) 3)) (@up6 (Fx (Option Blk) 3)) (@up7 (Fx (Option Blk) 3)) (dg 8 k) (@D8.rec (fun _ => (Fx (Option Blk) 2 → Fx (Option Blk) 2) → Fx (Option Blk) 3 → Fx (Option Blk) 3) (@up0 (Fx (Option Blk) 2)) (@up1 (Fx (Option Blk) 2)) (@up2 (Fx (Option Blk) 2)) (@up3 (Fx (Option Blk) 2)) (@up4 (Fx (Option Blk) 2)) (@up5 (Fx (Option Blk) 2)) (@up6 (Fx (Option Blk) 2)) (@up7 (Fx (Option Blk) 2)) (dg 64 k) (@D8.rec (fun _ => (Fx (Option Blk) 1 → Fx (Option Blk) 1) → Fx (Option Blk) 2 → Fx (Option Blk) 2) (@up0 (Fx (Option Blk) 1)) (@up1 (Fx (Option Blk) 1)) (@up2 (Fx (Option Blk) 1)) (@up3 (Fx (Option Blk) 1)) (@up4 (Fx (Option Blk) 1)) (@up5 (Fx (Option Blk) 1)) (@up6 (Fx (Option Blk) 1)) (@up7 (Fx (Option Blk) 1)) (dg 512 k) (@D8.rec (fun _ => (Fx (Option Blk) 0 → Fx (Option Blk) 0) → Fx (Option Blk) 1 → Fx (Option Blk) 1) (@up0 (Fx (Option Blk) 0)) (@up1 (Fx (Option Blk) 0)) (@up2 (Fx (Option Blk) 0)) (@up3 (Fx (Option Blk) 0)) (@up4 (Fx (Option Blk) 0)) (@up5 (Fx (Option Blk) 0)) (@up6 (Fx (Option Blk) 0)) (@up7 (Fx (Option Blk) 0)) (dg 4096 k) (fun _ => some x)))))) t
theorem gBB_eq (t : Fx (Option Blk) 5) (k : Nat) : gBB t k = leafN 1 5 t k := rfl
theorem uBB_eq (x : Blk) (k : Nat) (t : Fx (Option Blk) 5) : uBB x k t = updN (fun _ => some x) 1 5 k t := rfl
structure TrB where
 a : Fx (Option Blk) 3
 b : Fx (Option Blk) 5
 c : Tq Blk
namespace TrB
def lf : TrB := ⟨allN none 3, allN none 5, .lf⟩
noncomputable def get (t : TrB) (k : Nat) : Option Blk := @Bool.rec (fun _ => Option Blk) (@Bool.rec (fun _ => Option Blk) (t.c.get k) (gBB t.b k) (Nat.ble k 32767)) (gAB t.a k) (Nat.ble k 511)
noncomputable def set (t : TrB) (x : Blk) (k : Nat) : TrB := @Bool.rec (fun _ => TrB) (@Bool.rec (fun _ => TrB) ⟨t.a, t.b, t.c.set x k⟩ ⟨t.a, uBB x k t.b, t.c⟩ (Nat.ble k 32767)) ⟨uAB x k t.a, t.b, t.c⟩ (Nat.ble k 511)
theorem get_eq (t : TrB) (k : Nat) : t.get k = if k < 512 then leafN 1 3 t.a k else if k < 32768 then leafN 1 5 t.b k else t.c.get k := by
 unfold get
 rw [ble_lt k 511, ble_lt k 32767]
 by_cases h : k < 512
 ·rw [decide_eq_true h, if_pos h]; exact gAB_eq _ _
 ·rw [decide_eq_false h, if_neg h]
  by_cases h2 : k < 32768
  ·rw [decide_eq_true h2, if_pos h2]; exact gBB_eq _ _
  ·rw [decide_eq_false h2, if_neg h2]
theorem set_eq (t : TrB) (x : Blk) (k : Nat) : t.set x k = if k < 512 then ⟨updN (fun _ => some x) 1 3 k t.a, t.b, t.c⟩ else if k < 32768 then ⟨t.a, updN (fun _ => some x) 1 5 k t.b, t.c⟩ else ⟨t.a, t.b, t.c.set x k⟩ := by
 unfold set
 rw [ble_lt k 511, ble_lt k 32767]
 by_cases h : k < 512
 ·rw [decide_eq_true h, if_pos h, ← uAB_eq]
 ·rw [decide_eq_false h, if_neg h]
  by_cases h2 : k < 32768
  ·rw [decide_eq_true h2, if_pos h2, ← uBB_eq]
  ·rw [decide_eq_false h2, if_neg h2]
theorem get_lf (k : Nat) : lf.get k = none := by
 rw [get_eq]
 split
 ·exact leaf_all ..
 ·split
  ·exact leaf_all ..
  ·exact Tq.get_lf k
theorem get_set (t : TrB) (x : Blk) (k j : Nat) (h : k < 2 ^ 40) : (t.set x k).get j = if j = k then some x else t.get j := by
 rw [get_eq, get_eq, set_eq]
 by_cases hk : k < 512
 ·rw [if_pos hk]
  by_cases hj : j < 512
  ·rw [if_pos hj, if_pos hj, leaf_upd, Nat.div_one, Nat.div_one, Nat.mod_eq_of_lt (a := j) (by omega), Nat.mod_eq_of_lt (a := k) (by omega)]
  ·rw [if_neg hj, if_neg hj, if_neg (show ¬ j = k by omega)]
 ·rw [if_neg hk]
  by_cases hk2 : k < 32768
  ·rw [if_pos hk2]
   by_cases hj : j < 512
   ·rw [if_pos hj, if_pos hj, if_neg (show ¬ j = k by omega)]
   ·rw [if_neg hj, if_neg hj]
    by_cases hj2 : j < 32768
    ·rw [if_pos hj2, if_pos hj2, leaf_upd, Nat.div_one, Nat.div_one, Nat.mod_eq_of_lt (a := j) (by omega), Nat.mod_eq_of_lt (a := k) (by omega)]
    ·rw [if_neg hj2, if_neg hj2, if_neg (show ¬ j = k by omega)]
  ·rw [if_neg hk2]
   by_cases hj : j < 512
   ·rw [if_pos hj, if_pos hj, if_neg (show ¬ j = k by omega)]
   ·rw [if_neg hj, if_neg hj]
    by_cases hj2 : j < 32768
    ·rw [if_pos hj2, if_pos hj2, if_neg (show ¬ j = k by omega)]
    ·rw [if_neg hj2, if_neg hj2, Tq.get_set _ _ _ _ h]
end TrB
def noC : Chunk where
 fp _ := False
 ok _ := True
 loc _ _ _ h := h
def sk (l : List Nat) : List UInt8 := l.map UInt8.ofNat
abbrev encS (l : List UInt8) : Value := .string (str l)
def KK.enc : (k : KK) → k.T → Value
 | .str => encS
 | .int => encI
 | .two => enc2
 | .three => enc3
def KK.key : (k : KK) → List Nat → k.T
 | .str => sk
 | .int => fun l => l.headD 0
 | .two => fun l => (l.headD 0, l.tail.headD 0)
 | .three => fun l => (l.headD 0, l.tail.headD 0, l.tail.tail.headD 0)
noncomputable def kvf (ρ : Rho) (k : KK) (l : List (List Nat × SV)) : k.T → Option Value := fun q => (l.find? fun p => decide (k.key p.1 = q)).map fun p => dv ρ p.2
def ItrOk {κ : Type} [DecidableEq κ] (bi bm : Nat) (enc : κ → Value) (f : κ → Option Value) (left : List κ) (cur : Option κ) (w : World) : Prop :=
 bi ≠ bm ∧ ∃ (es : Array MapEntry) (clock : Nat) (kvs : List (κ × Value)) (since c0 : Nat) (seen : Array Nat), w.heap[bm]? = some (.map es clock) ∧ es.toList.map (fun e => (e.key, e.val)) = kvs.map (fun p => (enc p.1, p.2)) ∧ (∀ k, f k = kfind kvs k) ∧ MapInv es.toList clock (kvs.map Prod.fst) ∧
  w.heap[bi]? = some (.mapIter (some bm) since seen c0) ∧ (∀ e ∈ es.toList, e.born < since) ∧ since ≤ c0 ∧ since ≤ clock ∧ (∀ (i : Nat) e p, es.toList[i]? = some e → kvs[i]? = some p → (e.born ∈ seen ↔ p.1 ∉ left)) ∧ (∀ q, cur = some q → ∃ (i : Nat) (e : MapEntry) (p : κ × Value) (s0 : Array Nat), es.toList[i]? = some e ∧ kvs[i]? = some p ∧ p.1 = q ∧ seen = s0.push e.born ∧ c0 = clock)
theorem ItrOk.loc {κ : Type} [DecidableEq κ] {bi bm : Nat} {enc : κ → Value} {f : κ → Option Value} {left : List κ} {cur : Option κ} {w w' : World} (h : ItrOk bi bm enc f left cur w) (h1 : w'.heap[bi]? = w.heap[bi]?) (h2 : w'.heap[bm]? = w.heap[bm]?) : ItrOk bi bm enc f left cur w' := by
 obtain ⟨hn, es, clock, kvs, since, c0, seen, g1, g2, g3, g4, g5, g6⟩ := h
 exact ⟨hn, es, clock, kvs, since, c0, seen, h2.trans g1, g2, g3, g4, h1.trans g5, g6⟩
noncomputable def bch (ρ : Rho) (s : Nat) : Blk → Chunk
 | .cells cs e => pt (bl ρ s) (dvs ρ cs) e
 | .row xs n e sz => rowc (.slice (ad ρ s) n (ρ s).c) n e sz (dvs ρ xs)
 | .dgr t => dC (ad ρ s) (ρ s).c t
 | .kv k l => mpg k.enc (bl ρ s) (kvf ρ k l)
 | .ro cs => { fp := fun k => k = bl ρ s, ok := fun w => w.heap[bl ρ s]? = (ρ s).o ∧ ∀ (j : Nat) (x : SV), cs[j]? = some x → w.cell? ⟨bl ρ s, j, none⟩ = some (dv ρ x), loc := fun w w' h ⟨h1, h2⟩ => ⟨(h _ rfl).trans h1, fun j x hx => by rw [World.cell?_of_block (w := w) (w' := w') (a := ⟨bl ρ s, j, none⟩) (h _ rfl)]; exact h2 j x hx⟩ }
 | .dead => noC
 | .lp N T ps asg body busy => { fp := fun k => k = bl ρ s, ok := fun w => ∃ r : Loop, w.heap[bl ρ s]? = some (.loop r) ∧ r.state = (if busy then .busy else .ready) ∧ r.pending = none ∧ r.params = ps.toArray ∧ r.assign = asg ∧ r.body = body ∧ r.tmps.size = N ∧ ∀ i x, T.get i = some x → r.tmps[i]? = some (dv ρ x), loc := fun w w' h ⟨r, h1, h2⟩ => ⟨r, (h _ rfl).trans h1, h2⟩ }
 | .dfd => ob1 (bl ρ s) (.deferred (some []))
 | .itr t k l left cur => { fp := fun q => q = bl ρ s ∨ q = bl ρ t, ok := fun w => ItrOk (bl ρ s) (bl ρ t) k.enc (kvf ρ k l) (left.map k.key) (cur.map k.key) w, loc := fun w w' h hw => hw.loc (h _ (.inl rfl)) (h _ (.inr rfl)) }
 | .sit l pos => ob1 (bl ρ s) (.stringIter (str (l.map UInt8.ofNat)) pos)
 | .rd xs => { fp := fun k => k = bl ρ s, ok := fun w => (ρ s).b = some (bl ρ s) ∧ ∀ (j : Nat) (x : SV), xs[j]? = some x → w.cell? ⟨bl ρ s, j, none⟩ = some (dv ρ x), loc := fun w w' h ⟨h1, h2⟩ => ⟨h1, fun j x hx => by rw [World.cell?_of_block (w := w) (w' := w') (a := ⟨bl ρ s, j, none⟩) (h _ rfl)]; exact h2 j x hx⟩ }
 | .hol cs e => { fp := fun k => k = bl ρ s, ok := fun w => ∃ vs : List Value, w.heap[bl ρ s]? = some (.cells vs.toArray e (0, 0)) ∧ vs.length = cs.length ∧ ∀ (j : Nat) (x : SV), cs[j]? = some (some x) → vs[j]? = some (dv ρ x), loc := fun w w' h ⟨vs, h1, h2⟩ => ⟨vs, (h _ rfl).trans h1, h2⟩ }
noncomputable abbrev memC (ρ : Rho) (M : TrB) : Chunk := fam fun s => (M.get s).map (bch ρ s)
abbrev Asg := Nat → Option As
def Ext (σ : Asg) (ρ : Rho) : Prop := ∀ s p, σ s = some p → ρ s = p
def Asg.le (σ τ : Asg) : Prop := ∀ s p, σ s = some p → τ s = some p
theorem Asg.le.refl (σ : Asg) : σ.le σ := fun _ _ h => h
theorem Asg.le.trans {σ τ υ : Asg} (h : σ.le τ) (h2 : τ.le υ) : σ.le υ := fun s p hs => h2 s p (h s p hs)
theorem Ext.le {σ τ : Asg} {ρ : Rho} (h : σ.le τ) (hE : Ext τ ρ) : Ext σ ρ := fun s p hs => hE s p (h s p hs)
instance : Inhabited As := ⟨⟨none, 0, .bool false, none, rfl⟩⟩
def Asg.rho (σ : Asg) : Rho := fun s => (σ s).getD default
theorem Asg.rho_ext (σ : Asg) : Ext σ σ.rho := fun s p h => by unfold Asg.rho; rw [h]; rfl
def Asg.put (σ : Asg) (s : Nat) (p : As) : Asg := fun t => if t = s then some p else σ t
theorem Asg.put_le {σ : Asg} {s : Nat} {p : As} (h : σ s = none) : σ.le (σ.put s p) := fun t q ht => by
 unfold Asg.put
 split
 ·rename_i e; subst e; rw [h] at ht; cases ht
 ·exact ht
theorem Asg.put_at {σ : Asg} {s : Nat} {p : As} {ρ : Rho} (h : Ext (σ.put s p) ρ) : ρ s = p := h s p (by unfold Asg.put; rw [if_pos rfl])
structure MemS (w0 : World) (O : List Nat) (σ : Asg) (M : TrB) (w : World) : Prop where
 st : ∀ ρ, Ext σ ρ → St w0 O [memC ρ M] w
 dom : ∀ s, M.get s = none ↔ σ s = none
inductive SD where
 | col (s : Nat)
 | fn (g : Nat) (us cs : List SV)
def dD (ρ : Rho) : SD → Deferred
 | .col s => { target := .collected (bl ρ s), args := #[] }
 | .fn g us cs => { target := .fn (.func g) (dvs ρ cs).toArray, args := (dvs ρ us).toArray }
structure FrS (N : Nat) (D : List SD) (σ : Asg) (T : TrS) (a : Act) : Prop where
 defers : ∀ ρ, Ext σ ρ → a.defers = D.map (dD ρ)
 size : a.tmps.size = N
 get : ∀ ρ, Ext σ ρ → ∀ i x, T.get i = some x → a.tmps[i]? = some (dv ρ x)
theorem FrS.le {N : Nat} {D : List SD} {σ τ : Asg} {T : TrS} {a : Act} (h : FrS N D σ T a) (hl : σ.le τ) : FrS N D τ T a := ⟨fun ρ hE => h.defers ρ (hE.le hl), h.size, fun ρ hE => h.get ρ (hE.le hl)⟩
theorem FrS.put {N : Nat} {D : List SD} {σ : Asg} {T : TrS} {a : Act} (h : FrS N D σ T a) {d : Nat} {v : Value} {x : SV} (hd : Nat.blt d N = true) (hN : Nat.ble N 1000000 = true) (hv : ∀ ρ, Ext σ ρ → v = dv ρ x) : FrS N D σ (T.set x d) (a.put (some d) v) := by
 have hd' : d < N := Nat.le_of_ble_eq_true hd
 have hN' : N ≤ 1000000 := Nat.le_of_ble_eq_true hN
 refine ⟨h.defers, by simp [Act.put, h.size], fun ρ hE i y hy => ?_⟩
 rw [TrS.get_set _ _ _ _ (by omega)] at hy
 by_cases hi : i = d
 ·subst hi
  rw [if_pos rfl] at hy
  cases hy
  have : i < a.tmps.size := by rw [h.size]; exact hd'
  simp [Act.put, this, hv ρ hE]
 ·rw [if_neg hi] at hy
  simp [Act.put, Array.getElem?_setIfInBounds_ne (Ne.symm hi), h.get ρ hE i y hy]
def full (a : Act) : FL := (List.range a.tmps.size).map fun i => (i, a.tmps.getD i undef)
theorem lk_map (f : Nat → Value) : ∀ (l : List Nat) (i : Nat), lk (l.map fun j => (j, f j)) i = if i ∈ l then some (f i) else none
 | [], i => rfl
 | j :: l, i => by
  simp only [List.map_cons, lk, lk_map f l i, List.mem_cons]
  by_cases h : j = i
  ·subst h; simp
  ·have : Nat.beq j i = false := by
    cases hb : Nat.beq j i with
    | true => exact absurd (Nat.eq_of_beq_eq_true hb) h
    | false => rfl
   rw [this]
   simp [Ne.symm h]
theorem lk_full {a : Act} {i : Nat} {v : Value} (h : a.tmps[i]? = some v) : lk (full a) i = some v := by
 have hi := (Array.getElem?_eq_some_iff.1 h).1
 unfold full
 rw [lk_map, if_pos (List.mem_range.2 hi), Array.getD_eq_getD_getElem?, h]; rfl
theorem Fr.full (a : Act) : Fr a.tmps.size a.defers (full a) a := ⟨rfl, rfl, fun i v h => by
 unfold X.full at h
 rw [lk_map] at h
 split at h
 ·rename_i hm
  have hi := List.mem_range.1 hm
  cases h
  rw [Array.getD_eq_getD_getElem?, Array.getElem?_eq_getElem hi]; rfl
 ·cases h⟩
end Go.X
namespace Go.X
open Go Go.Eng Go.RowKit Dg Go.Proofs.YtndpdhamadiopaaGreatDoor
def still {α : Type} (P : Program) : Sem α → Option α
 | .pure a => some a
 | .program k => still P (k P)
 | _ => none
theorem still_ok {α : Type} {P : Program} : ∀ {e : Sem α} {a : α}, still P e = some a → ∀ w, e.run P w = .ok a w
 | .pure b, a, h, w => by
  simp only [still, Option.some.injEq] at h
  subst h
  rfl
 | .program k, a, h, w => still_ok (e := k P) h w
 | .load .., _, h, _ | .store .., _, h, _ | .new .., _, h, _ | .shape .., _, h, _ | .freeze .., _, h, _ | .frozen .., _, h, _ | .getObj .., _, h, _ | .setObj .., _, h, _ | .choose .., _, h, _ | .sys .., _, h, _ | .mark .., _, h, _ | .halt _, _, h, _ => by simp [still] at h
def cv1 (v : Value) : Option SV := match v with
 | .int k i => some (.int k i)
 | .bool b => some (.bool b)
 | .string s => some (.str (s.data.toList.map UInt8.toNat))
 | .pointer a => match a with | none => some .nilp | some _ => none
 | .slice a n c => match a with | none => (bif Nat.beq n 0 && Nat.beq c 0 then some .nils else none) | some _ => none
 | .map r => match r with | none => some .nilm | some _ => none
 | .nilFunc => some .nilf
 | .nilIface => some .nili
 | .func f us cs => match f with | .func k => (match us.toList, cs.toList with | [], [] => some (.fn k [] []) | _, _ => none) | _ => none
 | _ => none
def cvs : List Value → Option (List SV)
 | [] => some []
 | v :: r => match cv1 v with | none => none | some x => match cvs r with | none => none | some l => some (x :: l)
def cv (v : Value) : Option SV := match v with
 | .agg cs => (match cvs cs.toList with | some l => some (.agg l) | none => none)
 | .tuple cs => (match cvs cs.toList with | some l => some (.tup l) | none => none)
 | .int k i => some (.int k i)
 | .bool b => some (.bool b)
 | v => cv1 v
theorem bytes_back (l : List UInt8) : (l.map UInt8.toNat).map UInt8.ofNat = l := by
 rw [List.map_map]
 have : (UInt8.ofNat ∘ UInt8.toNat) = id := by funext c; simp
 rw [this, List.map_id]
theorem cv1_ok {v : Value} {x : SV} (h : cv1 v = some x) (ρ : Rho) : dv ρ x = v := by
 unfold cv1 at h
 split at h
 ·cases h; rfl
 ·cases h; rfl
 ·cases h; rw [dv, bytes_back]; rename_i s; cases s; rfl
 ·split at h
  ·cases h; rfl
  ·cases h
 ·split at h
  ·rename_i n c _
   cases hb : (Nat.beq n 0 && Nat.beq c 0) with
   | false => rw [hb] at h; cases h
   | true =>
    rw [hb] at h
    rw [Bool.and_eq_true] at hb
    have h1 := Nat.eq_of_beq_eq_true hb.1
    have h2 := Nat.eq_of_beq_eq_true hb.2
    subst h1; subst h2
    cases h; rfl
  ·cases h
 ·split at h
  ·cases h; rfl
  ·cases h
 ·cases h; rfl
 ·cases h; rfl
 ·rename_i f us cs
  cases f with
  | func k =>
   simp only at h
   split at h
   ·rename_i h1 h2
    cases h
    have e1 : us = #[] := by apply Array.ext'; simpa using h1
    have e2 : cs = #[] := by apply Array.ext'; simpa using h2
    rw [e1, e2]; rfl
   ·cases h
  | _ => cases h
 ·cases h
theorem cvs_ok : ∀ {vs : List Value} {l : List SV}, cvs vs = some l → ∀ ρ, dvs ρ l = vs
 | [], l, h, ρ => by simp only [cvs, Option.some.injEq] at h; subst h; rfl
 | v :: r, l, h, ρ => by
  simp only [cvs] at h
  split at h
  ·cases h
  ·rename_i x hx
   split at h
   ·cases h
   ·rename_i m hm
    cases h
    rw [dvs, cv1_ok hx, cvs_ok hm]
theorem cv_ok {v : Value} {x : SV} (h : cv v = some x) (ρ : Rho) : dv ρ x = v := by
 unfold cv at h
 split at h
 ·split at h
  ·rename_i l hl
   cases h; rw [dv, cvs_ok hl]
  ·cases h
 ·split at h
  ·rename_i l hl
   cases h; rw [dv, cvs_ok hl]
  ·cases h
 ·cases h; rfl
 ·cases h; rfl
 ·exact cv1_ok h ρ
def gr1 (x : SV) : Option Value := match x with
 | .int k i => some (.int k i)
 | .bool b => some (.bool b)
 | .str l => some (.string (str (l.map UInt8.ofNat)))
 | .nilp => some (.pointer none)
 | .nils => some (.slice none 0 0)
 | .nilm => some (.map none)
 | .nilf => some .nilFunc
 | .nili => some .nilIface
 | _ => none
theorem gr1_ok {x : SV} {v : Value} (h : gr1 x = some v) (ρ : Rho) : dv ρ x = v := by
 unfold gr1 at h
 split at h <;> first | (cases h; rfl) | cases h
def grl : List SV → Option (List Value)
 | [] => some []
 | x :: r => match gr1 x with | none => none | some v => match grl r with | none => none | some l => some (v :: l)
theorem grl_ok : ∀ {l : List SV} {vs : List Value}, grl l = some vs → ∀ ρ, dvs ρ l = vs
 | [], vs, h, ρ => by simp only [grl, Option.some.injEq] at h; subst h; rfl
 | x :: r, vs, h, ρ => by
  simp only [grl] at h
  split at h
  ·cases h
  ·rename_i v hv
   split at h
   ·cases h
   ·rename_i l hl
    cases h
    rw [dvs, gr1_ok hv, grl_ok hl]
def gr (x : SV) : Option Value := match x with
 | .agg l => (match grl l with | some vs => some (.agg vs.toArray) | none => none)
 | x => gr1 x
theorem gr_ok {x : SV} {v : Value} (h : gr x = some v) (ρ : Rho) : dv ρ x = v := by
 unfold gr at h
 split at h
 ·split at h
  ·rename_i vs hvs
   cases h; rw [dv, grl_ok hvs]
  ·cases h
 ·exact gr1_ok h ρ
noncomputable def evG (M : TrB) (g : Nat) : Option SV := match M.get g with
 | some (.ro _) => some (.ptr g 0)
 | _ => none
noncomputable def evS (T : TrS) (M : TrB) (x : Operand) : Option SV := Operand.rec (motive := fun _ => Option SV) (tmp := fun t => T.get t) (const := fun v => cv v) (global := fun g => evG M g) (func := fun f => some (.fn f [] [])) x
theorem evS_eq (T : TrS) (M : TrB) (x : Operand) : evS T M x = match x with
 | .tmp t => T.get t
 | .const v => cv v
 | .func f => some (.fn f [] [])
 | .global g => evG M g := by cases x <;> rfl
structure MemG (σ : Asg) (M : TrB) : Prop where
 glo : ∀ s cs, M.get s = some (.ro cs) → ∃ p, σ s = some p ∧ p.b = some s
section
variable {P : Program} {w0 w : World} {O : List Nat} {N : Nat} {D : List SD} {σ : Asg} {T : TrS} {M : TrB} {a : Act} {ρ : Rho}
theorem evS_ok (hF : FrS N D σ T a) (hG : MemG σ M) (hE : Ext σ ρ) {x : Operand} {v : SV} (h : evS T M x = some v) : Eng.ev (full a) x = some (dv ρ v) := by
 rw [evS_eq] at h
 split at h
 ·exact lk_full (hF.get ρ hE _ _ h)
 ·show some _ = _
  rw [cv_ok h]
 ·cases h; rfl
 ·unfold evG at h
  split at h
  ·rename_i g _ cs hg
   cases h
   obtain ⟨p, h1, h2⟩ := hG.glo g cs hg
   have := hE g p h1
   show some (Value.pointer (some ⟨g, 0, none⟩)) = _
   rw [dv, bl, this, h2]; rfl
  ·cases h
theorem evS_eval (hF : FrS N D σ T a) (hG : MemG σ M) (hE : Ext σ ρ) {x : Operand} {v : SV} (h : evS T M x = some v) : a.eval x = dv ρ v := (Fr.full a).ev (evS_ok hF hG hE h)
def Sl (P : Program) (op : Op) (ty : TypeId) (a : Act) (w : World) (v : Value) : Prop := ∀ dst pos af g, (execOp a.eval ⟨dst, op, ty, pos, af, g⟩).run P w = .ok (.value v) w
theorem Sl.of {op : Op} {ty : TypeId} {v : Value} {F : World → Prop} (h : ∀ d pos af, Yl P a.tmps.size a.defers (full a) F ⟨some d, op, ty, pos, af, none⟩ v) (hF : F w) : Sl P op ty a w v :=
 fun dst pos af g => h 0 pos af a w (Fr.full a) hF
theorem Sl.one {op : Op} {ty : TypeId} {v u : Value} (h : Sl P op ty a w v) (h2 : Sl P op ty a w u) : v = u := by
 have := (h none "" #[] none).symm.trans (h2 none "" #[] none)
 injection this with e _
 injection e
end
end Go.X
namespace Go.X
open Go Go.Eng Go.RowKit Dg Go.Proofs.YtndpdhamadiopaaGreatDoor
noncomputable def nthS {α : Type} (l : List α) : Nat → Option α := List.rec (fun _ => none) (fun v _ ih i => Nat.rec (some v) (fun j _ => ih j) i) l
theorem nthS_eq {α : Type} : ∀ (l : List α) (i : Nat), nthS l i = l[i]?
 | [], i => by cases i <;> rfl
 | v :: l, 0 => rfl
 | v :: l, i + 1 => by
  rw [List.getElem?_cons_succ, ← nthS_eq l i]; rfl
section
variable {P : Program} {w0 w : World} {O : List Nat} {N : Nat} {D : List SD} {σ : Asg} {T : TrS} {M : TrB} {a : Act} {ρ : Rho} {ty : TypeId}
def blkCells (b : Blk) : Option (List SV) := match b with
 | .cells cs _ => some cs
 | .row xs _ _ _ => some xs
 | .ro cs => some cs
 | .rd cs => some cs
 | _ => none
theorem MemS.ok (h : MemS w0 O σ M w) (hE : Ext σ ρ) {s : Nat} {b : Blk} (hb : M.get s = some b) : (bch ρ s b).ok w := fam_get (h.st ρ hE) (by rw [hb]; rfl)
theorem row_len {s : Nat} {xs : List SV} {n : Nat} {e : TypeId} {sz : Nat} (h : (bch ρ s (.row xs n e sz)).ok w) : xs.length = n * sz := by
 have := (show w.ownsRow 0 e sz (.slice (ad ρ s) n (ρ s).c) n (dvs ρ xs) from h).1
 rwa [dvs_len] at this
theorem row_blk {s : Nat} {xs : List SV} {n : Nat} {e : TypeId} {sz : Nat} (h : (bch ρ s (.row xs n e sz)).ok w) (hn : 0 < n) : (ρ s).b = some (bl ρ s) ∧ n ≤ (ρ s).c := by
 obtain ⟨g, hg, _, hc⟩ := rowc_addr (show (rowc (.slice (ad ρ s) n (ρ s).c) n e sz (dvs ρ xs)).ok w from h) hn
 unfold ad at hg
 cases hb : (ρ s).b with
 | none => rw [hb] at hg; cases hg
 | some b => unfold bl; rw [hb]; exact ⟨rfl, hc⟩
theorem blk_cell {s : Nat} {b : Blk} {cs : List SV} (h : (bch ρ s b).ok w) (hc : blkCells b = some cs) {j : Nat} {x : SV} (hx : cs[j]? = some x) : w.cell? ⟨bl ρ s, j, none⟩ = some (dv ρ x) := by
 unfold blkCells at hc
 split at hc
 ·cases hc
  rename_i e
  have h' : w.heap[bl ρ s]? = some (.cells (dvs ρ cs).toArray e (0, 0)) := h
  have := dvs_get (ρ := ρ) hx
  simp [World.cell?, h', this]
 ·cases hc
  rename_i n e sz
  have hl := row_len h
  have hj := (List.getElem?_eq_some_iff.1 hx).1
  have hn : 0 < n := by
   rcases Nat.eq_zero_or_pos n with h0 | h0
   ·rw [h0, Nat.zero_mul] at hl; omega
   ·exact h0
  obtain ⟨hb, _⟩ := row_blk h hn
  have h2 : (rowc (.slice (some ⟨bl ρ s, 0, none⟩) n (ρ s).c) n e sz (dvs ρ cs)).ok w := by
   have h3 : (rowc (.slice (ad ρ s) n (ρ s).c) n e sz (dvs ρ cs)).ok w := h
   unfold ad at h3
   rw [hb] at h3
   exact h3
  exact rowc_cells h2 (dvs_get hx)
 ·cases hc
  exact h.2 j x hx
 ·cases hc
  exact h.2 j x hx
 ·cases hc
theorem hol_cell {s : Nat} {cs : List (Option SV)} {e : TypeId} (h : (bch ρ s (.hol cs e)).ok w) {j : Nat} {x : SV} (hx : cs[j]? = some (some x)) : w.cell? ⟨bl ρ s, j, none⟩ = some (dv ρ x) := by
 obtain ⟨vs, h1, h2, h3⟩ := h
 have := h3 j x hx
 simp [World.cell?, h1, this]
noncomputable def mapO {α β : Type} (f : α → Option β) (l : List α) : Option (List β) := List.rec (some []) (fun x _ ih => match f x with | none => none | some y => (match ih with | none => none | some m => some (y :: m))) l
theorem mapO_cons {α β : Type} (f : α → Option β) (x : α) (l : List α) : mapO f (x :: l) = match f x with | none => none | some y => (match mapO f l with | none => none | some m => some (y :: m)) := rfl
theorem mapO_at {α β : Type} {f : α → Option β} : ∀ {l : List α} {m : List β}, mapO f l = some m → ∀ {j : Nat} {y : β}, m[j]? = some y → ∃ x, l[j]? = some x ∧ f x = some y
 | [], m, h, j, y, hy => by
  have h' : some [] = some m := h
  cases h'
  simp at hy
 | z :: l, m, h, j, y, hy => by
  rw [mapO_cons] at h
  split at h
  ·cases h
  ·rename_i y1 h1
   split at h
   ·cases h
   ·rename_i m2 h2
    cases h
    cases j with
    | zero =>
     simp only [List.getElem?_cons_zero, Option.some.injEq] at hy
     subst hy
     exact ⟨z, by simp, h1⟩
    | succ j =>
     simp only [List.getElem?_cons_succ] at hy ⊢
     exact mapO_at h2 hy
theorem mapO_ok {α β : Type} {f : α → Option β} : ∀ {l : List α} {m : List β}, mapO f l = some m → ∀ x ∈ l, ∃ y ∈ m, f x = some y
 | [], m, h, x, hx => by cases hx
 | z :: l, m, h, x, hx => by
  rw [mapO_cons] at h
  split at h
  ·cases h
  ·rename_i y hy
   split at h
   ·cases h
   ·rename_i m2 hm
    cases h
    rcases List.mem_cons.1 hx with rfl | hx
    ·exact ⟨y, List.mem_cons_self .., hy⟩
    ·obtain ⟨y2, h1, h2⟩ := mapO_ok hm x hx
     exact ⟨y2, List.mem_cons_of_mem _ h1, h2⟩
def holGet (b : Blk) : Option (List (Option SV)) := match b with
 | .hol cs _ => some cs
 | _ => none
theorem holGet_ok {b : Blk} {cs : List (Option SV)} (h : holGet b = some cs) : ∃ e, b = .hol cs e := by
 cases b <;> first | (cases h; done) | skip
 cases h
 exact ⟨_, rfl⟩
def idO (x : Option SV) : Option SV := x
noncomputable def sLoad (P : Program) (M : TrB) (t : TypeId) (x : SV) : Option SV := match x with
 | .ptr s off => match M.get s with
  | some b => match blkCells b with
   | some cs => match aggB P t with
    | some true => match sizeB P t with
     | some n => let l := (cs.drop off).take n; bif Nat.beq l.length n then some (.agg l) else none
     | none => none
    | some false => match sizeB P t with
     | some 1 => nthS cs off
     | _ => none
    | none => none
   | none => match holGet b with
    | some cs => match aggB P t with
     | some true => match sizeB P t with
      | some n => (match mapO idO ((cs.drop off).take n) with | some l => bif Nat.beq l.length n then some (.agg l) else none | none => none)
      | none => none
     | some false => match sizeB P t with
      | some 1 => (match nthS cs off with | some (some x) => some x | _ => none)
      | _ => none
     | none => none
    | none => none
  | none => none
 | _ => none
theorem beq_true {a b : Nat} {α : Type} {x y : α} (h : (bif Nat.beq a b then some x else none) = some y) : a = b ∧ x = y := by
 cases hb : Nat.beq a b with
 | true => rw [hb] at h; cases h; exact ⟨Nat.eq_of_beq_eq_true hb, rfl⟩
 | false => rw [hb] at h; cases h
theorem sLoad_run (hM : MemS w0 O σ M w) (hE : Ext σ ρ) {t : TypeId} {x v : SV} (h : sLoad P M t x = some v) : (Instr.loadAt t (dv ρ x)).run P w = .ok (dv ρ v) w := by
 unfold sLoad at h
 split at h
 ·rename_i s off
  split at h
  ·rename_i b hb
   have hok := hM.ok hE hb
   split at h
   ·rename_i cs hc
    split at h
    ·rename_i hag
     split at h
     ·rename_i n hn
      obtain ⟨hl, rfl⟩ := beq_true h
      have e : dv ρ (.agg ((cs.drop off).take n)) = .agg (dvs ρ ((cs.drop off).take n)).toArray := by rw [dv]
      rw [e]
      refine run_loadN ⟨hag, hn⟩ (by rw [dvs_len]; exact hl) (fun j u hj => ?_)
      rw [add_blk]
      rw [dvs_map, List.getElem?_map] at hj
      cases hq : ((cs.drop off).take n)[j]? with
      | none => rw [hq] at hj; cases hj
      | some y =>
       rw [hq] at hj
       simp only [Option.map_some, Option.some.injEq] at hj
       rw [← hj]
       refine blk_cell hok hc ?_
       have h2 := hq
       rw [List.getElem?_take] at h2
       split at h2
       ·rwa [List.getElem?_drop] at h2
       ·cases h2
     ·cases h
    ·rename_i hag
     split at h
     ·rename_i hn
      rw [nthS_eq] at h
      exact run_load1 ⟨hag, hn⟩ (blk_cell hok hc h)
     ·cases h
    ·cases h
   ·split at h
    ·rename_i cs hc
     obtain ⟨e9, rfl⟩ := holGet_ok hc
     split at h
     ·rename_i hag
      split at h
      ·rename_i n hn
       split at h
       ·rename_i l hl0
        obtain ⟨hl, rfl⟩ := beq_true h
        have e : dv ρ (.agg l) = .agg (dvs ρ l).toArray := by rw [dv]
        rw [e]
        refine run_loadN ⟨hag, hn⟩ (by rw [dvs_len]; exact hl) (fun j u hj => ?_)
        rw [add_blk]
        rw [dvs_map, List.getElem?_map] at hj
        cases hq : l[j]? with
        | none => rw [hq] at hj; cases hj
        | some y =>
         rw [hq] at hj
         simp only [Option.map_some, Option.some.injEq] at hj
         rw [← hj]
         obtain ⟨z, h2, hz⟩ := mapO_at hl0 hq
         have hz : z = some y := hz
         subst hz
         refine hol_cell hok ?_
         rw [List.getElem?_take] at h2
         split at h2
         ·rwa [List.getElem?_drop] at h2
         ·cases h2
       ·cases h
      ·cases h
     ·rename_i hag
      split at h
      ·rename_i hn
       split at h
       ·rename_i x hx
        rw [nthS_eq] at hx
        cases h
        exact run_load1 ⟨hag, hn⟩ (hol_cell hok hx)
       ·cases h
      ·cases h
     ·cases h
    ·cases h
  ·cases h
 ·cases h
theorem Sl.load {t : TypeId} {x : Operand} {vx v : SV} (hM : MemS w0 O σ M w) (hE : Ext σ ρ) (hx : a.eval x = dv ρ vx) (h : sLoad P M t vx = some v) : Sl P (.load t x) ty a w (dv ρ v) := fun dst pos af g => by
 have := sLoad_run (P := P) hM hE h
 simp [execOp, hx, this]
end
end Go.X
namespace Go.X
open Go Go.Eng Go.RowKit Dg Go.Proofs.YtndpdhamadiopaaGreatDoor
section
variable {P : Program} {w0 w : World} {O : List Nat} {N : Nat} {D : List SD} {σ : Asg} {T : TrS} {M : TrB} {a : Act} {ρ : Rho} {ty : TypeId}
noncomputable def evsS (T : TrS) (M : TrB) (l : List Operand) : Option (List SV) :=
 List.rec (some []) (fun x _ ih => match evS T M x with | none => none | some v => match ih with | none => none | some vs => some (v :: vs)) l
theorem evsS_cons (x : Operand) (l : List Operand) : evsS T M (x :: l) = match evS T M x with | none => none | some v => match evsS T M l with | none => none | some vs => some (v :: vs) := rfl
theorem evsS_ok (hF : FrS N D σ T a) (hG : MemG σ M) (hE : Ext σ ρ) : ∀ {l : List Operand} {vs : List SV}, evsS T M l = some vs → Eng.evs (full a) l = some (dvs ρ vs)
 | [], vs, h => by cases h; rfl
 | x :: l, vs, h => by
  rw [evsS_cons] at h
  split at h
  ·cases h
  ·rename_i v hv
   split at h
   ·cases h
   ·rename_i us hus
    cases h
    simp only [Eng.evs, evS_ok hF hG hE hv, evsS_ok hF hG hE hus, dvs]
def isNil (M : TrB) (x : SV) : Option Bool := match x with
 | .nilp | .nils | .nilm | .nilf | .nili => some true
 | .ptr _ _ | .slx _ _ _ _ | .mp _ | .fn _ _ _ | .ifc _ _ => some false
 | _ => none
def litNil (x : SV) : Bool := match x with
 | .nilp | .nils | .nilm | .nilf | .nili => true
 | _ => false
def nilOf (P : Program) (t : TypeId) (x : SV) : Bool := match P.underlying t, x with
 | some (.pointer _), .nilp | some (.pointer _), .ptr _ _ => true
 | some (.slice _), .nils | some (.slice _), .slx _ _ _ _ => true
 | some (.map _ _), .nilm | some (.map _ _), .mp _ => true
 | some (.func _ _ _), .nilf | some (.func _ _ _), .fn _ _ _ => true
 | some (.interface _), .nili | some (.interface _), .ifc _ _ => true
 | _, _ => false
theorem equal_nil {t : TypeId} {x y : SV} {b : Bool} (hx : nilOf P t x = true) (hy : nilOf P t y = true) (hl : (litNil x || litNil y) = true) (hb : b = (litNil x && litNil y)) : (Op.equal t (dv ρ x) (dv ρ y)).run P w = .ok b w := by
 subst hb
 show (Op.equalIn (9999 + 1) t (dv ρ x) (dv ρ y)).run P w = _
 generalize 9999 = q
 cases hu : P.underlying t with
 | none => unfold nilOf at hx; rw [hu] at hx; cases hx
 | some d =>
  unfold nilOf at hx hy
  rw [hu] at hx hy
  cases d <;> cases x <;> first | (cases hx; done) | skip
  all_goals cases y <;> first | (cases hy; done) | (cases hl; done) | (simp [Op.equalIn, run_underlying hu, dv, litNil])
noncomputable def sEq (P : Program) (t : TypeId) (x y : SV) : Option Bool :=
 bif nilOf P t x && nilOf P t y && (litNil x || litNil y) then some (litNil x && litNil y) else none
theorem sEq_ok {t : TypeId} {x y : SV} {b : Bool} (h : sEq P t x y = some b) : (Op.equal t (dv ρ x) (dv ρ y)).run P w = .ok b w := by
 unfold sEq at h
 cases hc : (nilOf P t x && nilOf P t y && (litNil x || litNil y)) with
 | false => rw [hc] at h; cases h
 | true =>
  rw [hc] at h
  simp only [Bool.and_eq_true] at hc
  cases h
  exact equal_nil hc.1.1 hc.1.2 hc.2 rfl
end
end Go.X
namespace Go.X
open Go Go.Eng Go.RowKit Dg Go.Proofs.YtndpdhamadiopaaGreatDoor
section
variable {P : Program} {w0 w : World} {O : List Nat} {N : Nat} {D : List SD} {σ : Asg} {T : TrS} {M : TrB} {a : Act} {ρ : Rho} {ty : TypeId}
noncomputable def ob {α β : Type} (x : Option α) (f : α → Option β) : Option β := Option.rec (motive := fun _ => Option β) none f x
theorem ob_some {α β : Type} {x : Option α} {f : α → Option β} {b : β} (h : ob x f = some b) : ∃ a, x = some a ∧ f a = some b := by
 cases x with
 | none => cases h
 | some a => exact ⟨a, rfl, h⟩
noncomputable def must {β : Type} (b : Bool) (x : Option β) : Option β := Bool.rec (motive := fun _ => Option β) none x b
theorem must_some {β : Type} {b : Bool} {x : Option β} {y : β} (h : must b x = some y) : b = true ∧ x = some y := by
 cases b with
 | true => exact ⟨rfl, h⟩
 | false => cases h
noncomputable def sPart (P : Program) (t : TypeId) (l : List SV) (off : Nat) : Option SV := ob (aggB P t) fun g => match g with
 | true => ob (sizeB P t) fun n => let r := (l.drop off).take n; must (Nat.beq r.length n) (some (.agg r))
 | false => ob (sizeB P t) fun n => must (Nat.beq n 1) (nthS l off)
noncomputable def sIndexAddr (P : Program) (M : TrB) (t : TypeId) (x i : SV) : Option SV := match i with
 | .int _ (.ofNat j) => match x with
  | .sl s k n sz => must (Nat.blt j n) (match P.underlying t with
   | some (.slice e) => must (match sizeB P e with | some z => Nat.beq z sz | none => false) (match M.get s with
    | some (.row _ m _ _) => must (Nat.blt 0 m) (some (.ptr s (k * sz + j * sz)))
    | some (.rd _) => some (.ptr s (k * sz + j * sz))
    | _ => none)
   | _ => none)
  | .slx s off n _ => must (Nat.blt j n) (match P.underlying t with
   | some (.slice e) => ob (sizeB P e) fun sz => some (.ptr s (off + j * sz))
   | _ => none)
  | .ptr s off => match P.underlying t with
   | some (.array n e) => must (Nat.blt j n) (ob (sizeB P e) fun sz => ob (zeroB P t) fun _ => some (.ptr s (off + j * sz)))
   | _ => none
  | _ => none
 | _ => none
noncomputable def sIndex (P : Program) (t : TypeId) (x i : SV) : Option SV := match x, i with
 | .agg l, .int _ (.ofNat j) => (match P.underlying t with
  | some (.array n e) => must (Nat.blt j n) (ob (sizeB P e) fun sz => sPart P e l (j * sz))
  | _ => none)
 | .str l, .int _ (.ofNat j) => (match P.underlying t with
  | some .string => ob (nthS l j) fun c => some (.int .u8 (.ofNat (Nat.mod c 256)))
  | _ => none)
 | _, _ => none
noncomputable def sLen (P : Program) (t : TypeId) (x : SV) : Option SV := match P.underlying t, x with
 | some .string, .str l => some (.int .i64 (.ofNat l.length))
 | some (.slice _), .sl _ _ n _ => some (.int .i64 (.ofNat n))
 | some (.slice _), .slx _ _ n _ => some (.int .i64 (.ofNat n))
 | some (.slice _), .nils => some (.int .i64 (.ofNat 0))
 | _, _ => none
noncomputable def catS (x y : SV) : Option SV := match x, y with
 | .str l, .str m => must (Nat.ble (l.length + m.length) 1000000) (some (.str (l ++ m)))
 | _, _ => none
theorem sPart_run {t : TypeId} {l : List SV} {off : Nat} {v : SV} (h : sPart P t l off = some v) : (part t (dvs ρ l).toArray off).run P w = .ok (dv ρ v) w := by
 unfold sPart at h
 obtain ⟨g, hg, h⟩ := ob_some h
 cases g with
 | true =>
  obtain ⟨n, hn, h⟩ := ob_some h
  obtain ⟨h1, h2⟩ := must_some h
  cases h2
  simp [part, Eng.run_isAgg hg, Eng.run_sizeOf hn, dv, dvs_map, List.map_take, List.map_drop]
 | false =>
  obtain ⟨n, hn, h⟩ := ob_some h
  obtain ⟨h1, h2⟩ := must_some h
  rw [nthS_eq] at h2
  have := dvs_get (ρ := ρ) h2
  simp [part, Eng.run_isAgg hg, this]
theorem Sl.indexAddr {w' : World} {t : TypeId} {x i : Operand} {vx vi v : SV} (hM : MemS w0 O σ M w) (hE : Ext σ ρ) (hx : Eng.ev (full a) x = some (dv ρ vx)) (hi : Eng.ev (full a) i = some (dv ρ vi)) (h : sIndexAddr P M t vx vi = some v) : Sl P (.indexAddr t x i) ty a w' (dv ρ v) := by
 unfold sIndexAddr at h
 split at h
 ·rename_i k j
  split at h
  ·rename_i s q n sz
   obtain ⟨hj, h⟩ := must_some h
   split at h
   ·rename_i e hu
    obtain ⟨hz, h⟩ := must_some h
    split at h
    ·rename_i xs m e' sz' hb
     obtain ⟨hm, h⟩ := must_some h
     cases h
     have hsz : sizeB P e = some sz := by
      cases hq : sizeB P e with
      | none => rw [hq] at hz; cases hz
      | some z => rw [hq] at hz; rw [Nat.eq_of_beq_eq_true hz]
     obtain ⟨hb1, _⟩ := row_blk (hM.ok hE hb) (Nat.le_of_ble_eq_true hm)
     have hx' : Eng.ev (full a) x = some (.slice (some ⟨bl ρ s, q * sz, none⟩) n ((ρ s).c - q)) := by
      rw [hx, dv, hb1]; rfl
     exact Sl.of (F := fun _ => True) (fun d pos af => Yl.indexAddr ⟨hu, hsz⟩ hx' hi (Nat.le_of_ble_eq_true hj)) trivial
    ·rename_i xs hb
     cases h
     have hsz : sizeB P e = some sz := by
      cases hq : sizeB P e with
      | none => rw [hq] at hz; cases hz
      | some z => rw [hq] at hz; rw [Nat.eq_of_beq_eq_true hz]
     obtain ⟨hb1, _⟩ := (show (bch ρ s (.rd xs)).ok w from hM.ok hE hb)
     have hx' : Eng.ev (full a) x = some (.slice (some ⟨bl ρ s, q * sz, none⟩) n ((ρ s).c - q)) := by
      rw [hx, dv, hb1]; rfl
     exact Sl.of (F := fun _ => True) (fun d pos af => Yl.indexAddr ⟨hu, hsz⟩ hx' hi (Nat.le_of_ble_eq_true hj)) trivial
    ·cases h
   ·cases h
  ·rename_i s off n cap
   obtain ⟨hj, h⟩ := must_some h
   split at h
   ·rename_i e hu
    obtain ⟨sz, hsz, h⟩ := ob_some h
    cases h
    exact Sl.of (F := fun _ => True) (fun d pos af => Yl.indexAddr ⟨hu, hsz⟩ hx hi (Nat.le_of_ble_eq_true hj)) trivial
   ·cases h
  ·rename_i s off
   split at h
   ·rename_i n e hu
    obtain ⟨hj, h⟩ := must_some h
    obtain ⟨sz, hsz, h⟩ := ob_some h
    obtain ⟨zs, hzs, h⟩ := ob_some h
    cases h
    exact Sl.of (F := fun _ => True) (fun d pos af => Yl.indexAddrA ⟨hu, hzs, hsz⟩ hx hi (Nat.le_of_ble_eq_true hj)) trivial
   ·cases h
  ·cases h
 ·cases h
theorem Sl.index {t : TypeId} {x i : Operand} {vx vi v : SV} (hx : Eng.ev (full a) x = some (dv ρ vx)) (hi : Eng.ev (full a) i = some (dv ρ vi)) (h : sIndex P t vx vi = some v) : Sl P (.index t x i) ty a w (dv ρ v) := by
 unfold sIndex at h
 split at h
 ·rename_i l k j
  split at h
  ·rename_i n e hu
   obtain ⟨hj, h⟩ := must_some h
   obtain ⟨sz, hsz, h⟩ := ob_some h
   intro dst pos af g
   have hp := sPart_run (P := P) (ρ := ρ) (w := w) h
   have h1 : (0 : Int) ≤ (j : Int) ∧ (j : Int) < (n : Int) := by have := Nat.le_of_ble_eq_true hj; omega
   have e1 := (Fr.full a).ev hx
   have e2 := (Fr.full a).ev hi
   simp only [dv] at e1 e2
   have hjn : j < n := Nat.le_of_ble_eq_true hj
   have hnj : ¬ n ≤ j := by omega
   simp [execOp, e1, e2, Instr.index, run_underlying hu, asIntOf, h1, hjn, hnj, Eng.run_sizeOf hsz, hp]
  ·cases h
 ·rename_i l k j
  split at h
  ·rename_i hu
   obtain ⟨c, hc, h⟩ := ob_some h
   cases h
   rw [nthS_eq] at hc
   have hc' : (l.map UInt8.ofNat)[j]? = some (UInt8.ofNat c) := by rw [List.getElem?_map, hc]; rfl
   have := Sl.of (a := a) (w := w) (ty := ty) (F := fun _ => True) (fun d pos af => Yl.indexS (P := P) hu hx hi hc') trivial
   have e3 : (Value.int .u8 ((UInt8.ofNat c).toNat : Int)) = dv ρ (.int .u8 (.ofNat (Nat.mod c 256))) := by
    rw [dv]; simp; rfl
   rw [← e3]; exact this
  ·cases h
 ·cases h
end
end Go.X
namespace Go.X
open Go Go.Eng Go.RowKit Dg Go.Proofs.YtndpdhamadiopaaGreatDoor
section
variable {P : Program} {w0 w : World} {O : List Nat} {N : Nat} {D : List SD} {σ : Asg} {T : TrS} {M : TrB} {a : Act} {ρ : Rho} {ty : TypeId}
noncomputable def eqN (l : List Nat) : List Nat → Bool := List.rec (fun m => List.rec true (fun _ _ _ => false) m) (fun x _ ih m => List.rec false (fun y r _ => bif Nat.beq (Nat.mod x 256) (Nat.mod y 256) then ih r else false) m) l
theorem eqN_eq : ∀ l m : List Nat, eqN l m = (sk l == sk m)
 | [], [] => rfl
 | [], y :: m => rfl
 | x :: l, [] => rfl
 | x :: l, y :: m => by
  show (bif Nat.beq (x % 256) (y % 256) then eqN l m else false) = _
  rw [eqN_eq l m]
  unfold sk
  rw [List.map_cons, List.map_cons, List.cons_beq_cons]
  have e : (UInt8.ofNat x == UInt8.ofNat y) = Nat.beq (x % 256) (y % 256) := by
   rw [Bool.eq_iff_iff, beq_iff_eq, ← UInt8.toNat_inj]
   simp
  rw [e]
  cases Nat.beq (x % 256) (y % 256) <;> rfl
def isC (x : Operand) : Bool := match x with | .const _ => true | _ => false
def bothNili (x y : SV) : Bool := match x, y with | .nili, .nili => true | _, _ => false
def sameK : IntKind → IntKind → Bool
 | .i8, .i8 | .i16, .i16 | .i32, .i32 | .i64, .i64 | .u8, .u8 | .u16, .u16 | .u32, .u32 | .u64, .u64 => true
 | _, _ => false
theorem sameK_ok {k k' : IntKind} (h : sameK k k' = true) : k = k' := by cases k <;> cases k' <;> first | rfl | cases h
def ilt : Int → Int → Bool
 | .ofNat a, .ofNat b => Nat.blt a b
 | .negSucc _, .ofNat _ => true
 | .ofNat _, .negSucc _ => false
 | .negSucc a, .negSucc b => Nat.blt b a
theorem ilt_eq (i j : Int) : ilt i j = decide (i < j) := by
 have hb : ∀ a b : Nat, Nat.blt a b = decide (a < b) := fun a b => by
  rw [Bool.eq_iff_iff, decide_eq_true_eq]
  exact ⟨fun h => Nat.le_of_ble_eq_true h, fun h => Nat.ble_eq_true_of_le h⟩
 cases i with
 | ofNat a => cases j with
  | ofNat b => rw [show ilt (.ofNat a) (.ofNat b) = Nat.blt a b from rfl, hb, Bool.eq_iff_iff, decide_eq_true_eq, decide_eq_true_eq]; exact Int.ofNat_lt.symm
  | negSucc b => rw [show ilt (.ofNat a) (.negSucc b) = false from rfl, eq_comm, decide_eq_false_iff_not]; have : Int.negSucc b < 0 := Int.negSucc_lt_zero b; simp only [Int.ofNat_eq_natCast]; omega
 | negSucc a => cases j with
  | ofNat b => rw [show ilt (.negSucc a) (.ofNat b) = true from rfl, eq_comm, decide_eq_true_eq]; have : Int.negSucc a < 0 := Int.negSucc_lt_zero a; simp only [Int.ofNat_eq_natCast]; omega
  | negSucc b => rw [show ilt (.negSucc a) (.negSucc b) = Nat.blt b a from rfl, hb, Bool.eq_iff_iff, decide_eq_true_eq, decide_eq_true_eq]; omega
def ieq : Int → Int → Bool
 | .ofNat a, .ofNat b => Nat.beq a b
 | .negSucc a, .negSucc b => Nat.beq a b
 | _, _ => false
theorem ieq_eq (i j : Int) : ieq i j = (i == j) := by
 have hb : ∀ a b : Nat, Nat.beq a b = decide (a = b) := fun a b => by
  rw [Bool.eq_iff_iff, decide_eq_true_eq, Nat.beq_eq]
 rw [Bool.eq_iff_iff, beq_iff_eq]
 cases i with
 | ofNat a => cases j with
  | ofNat b => rw [show ieq (.ofNat a) (.ofNat b) = Nat.beq a b from rfl, Nat.beq_eq]; exact ⟨fun h => by rw [h], fun h => Int.ofNat.inj h⟩
  | negSucc b => exact ⟨fun h => (by cases h), fun h => (by cases h)⟩
 | negSucc a => cases j with
  | ofNat b => exact ⟨fun h => (by cases h), fun h => (by cases h)⟩
  | negSucc b => rw [show ieq (.negSucc a) (.negSucc b) = Nat.beq a b from rfl, Nat.beq_eq]; exact ⟨fun h => by rw [h], fun h => Int.negSucc.inj h⟩
def isI64 : IntKind → Bool
 | .i64 => true
 | _ => false
theorem isI64_ok {k : IntKind} (h : isI64 k = true) : k = .i64 := by cases k <;> first | rfl | cases h
noncomputable def addI : Int → Int → Option SV
 | .ofNat a, .ofNat b => bif Nat.ble (Nat.add a b) 4611686018427387904 then some (.int .i64 (.ofNat (Nat.add a b))) else none
 | _, _ => none
noncomputable def sBinI (b : BinOp) (k k' : IntKind) (i j : Int) : Option SV := bif sameK k k' then (match b with
  | .eql => some (.bool (ieq i j))
  | .neq => some (.bool (!ieq i j))
  | .lss => some (.bool (ilt i j))
  | .gtr => some (.bool (ilt j i))
  | .leq => some (.bool (!ilt j i))
  | .geq => some (.bool (!ilt i j))
  | .add => bif isI64 k then addI i j else none
  | _ => none) else none
noncomputable def sBinG (P : Program) (b : BinOp) (t : TypeId) (x y : Operand) (u1 u2 : Value) : Option SV := ob (still P (do eqGuard b t x y u1 u2; binOp b t u1 u2)) cv
noncomputable def sBin (P : Program) (b : BinOp) (t : TypeId) (x y : Operand) (vx vy : SV) : Option SV := match vx, vy with
 | .str l, .str m => (match b with
  | .add => must (Nat.ble (l.length + m.length) 1000000) (some (.str (l ++ m)))
  | .eql => some (.bool (eqN l m))
  | .neq => some (.bool (!eqN l m))
  | _ => ob (still P (do eqGuard b t x y (.string (str (sk l))) (.string (str (sk m))); binOp b t (.string (str (sk l))) (.string (str (sk m))))) cv)
 | .int k i, .int k' j => (match sBinI b k k' i j with | some v => some v | none => sBinG P b t x y (.int k i) (.int k' j))
 | .bool p, .bool q => ob (still P (do eqGuard b t x y (.bool p) (.bool q); binOp b t (.bool p) (.bool q))) cv
 | .agg l1, .agg l2 => ob (grl l1) fun g1 => ob (grl l2) fun g2 => ob (still P (do eqGuard b t x y (.agg g1.toArray) (.agg g2.toArray); binOp b t (.agg g1.toArray) (.agg g2.toArray))) cv
 | .ifc t1 v1, .ifc t2 v2 => ob (gr v1) fun g1 => ob (gr v2) fun g2 => ob (still P (do eqGuard b t x y (.iface t1 g1) (.iface t2 g2); binOp b t (.iface t1 g1) (.iface t2 g2))) cv
 | _, _ => match b with
  | .eql => ob (sEq P t vx vy) fun c => must (!bothNili vx vy || isC x || isC y) (some (.bool c))
  | .neq => ob (sEq P t vx vy) fun c => must (!bothNili vx vy || isC x || isC y) (some (.bool (!c)))
  | _ => none
theorem nil_guard {b : BinOp} {t : TypeId} {x y : Operand} {vx vy : SV} {c : Bool} (h : sEq P t vx vy = some c) (hn : (!bothNili vx vy || isC x || isC y) = true) : (eqGuard b t x y (dv ρ vx) (dv ρ vy)).run P w = .ok () w := by
 unfold sEq at h
 cases hc : (nilOf P t vx && nilOf P t vy && (litNil vx || litNil vy)) with
 | false => rw [hc] at h; cases h
 | true =>
  simp only [Bool.and_eq_true] at hc
  obtain ⟨⟨hx, hy⟩, hl⟩ := hc
  cases hu : P.underlying t with
  | none => unfold nilOf at hx; rw [hu] at hx; cases hx
  | some d =>
   unfold nilOf at hx hy
   rw [hu] at hx hy
   cases d <;> cases vx <;> first | (cases hx; done) | skip
   all_goals cases vy <;> first | (cases hy; done) | (cases hl; done) | (cases b <;> (first | (simp [eqGuard, dv]; done) | (simp only [bothNili, Bool.not_true, Bool.false_or, Bool.or_eq_true] at hn; rcases hn with hn | hn <;> (unfold isC at hn; split at hn <;> first | (cases hn; done) | (simp [eqGuard, dv])))))
theorem nil_bin {t : TypeId} {vx vy : SV} {c : Bool} (h : sEq P t vx vy = some c) : (binOp .eql t (dv ρ vx) (dv ρ vy)).run P w = .ok (.bool c) w ∧ (binOp .neq t (dv ρ vx) (dv ρ vy)).run P w = .ok (.bool (!c)) w := by
 have hq := sEq_ok (P := P) (ρ := ρ) (w := w) h
 unfold sEq at h
 cases hc : (nilOf P t vx && nilOf P t vy && (litNil vx || litNil vy)) with
 | false => rw [hc] at h; cases h
 | true =>
  simp only [Bool.and_eq_true] at hc
  obtain ⟨⟨hx, hy⟩, hl⟩ := hc
  have key : binOp .eql t (dv ρ vx) (dv ρ vy) = (do pure (.bool (← Op.equal t (dv ρ vx) (dv ρ vy)))) ∧ binOp .neq t (dv ρ vx) (dv ρ vy) = (do pure (.bool (!(← Op.equal t (dv ρ vx) (dv ρ vy))))) := by
   cases hu : P.underlying t with
   | none => unfold nilOf at hx; rw [hu] at hx; cases hx
   | some d =>
    unfold nilOf at hx hy
    rw [hu] at hx hy
    cases d <;> cases vx <;> first | (cases hx; done) | skip
    all_goals cases vy <;> first | (cases hy; done) | (cases hl; done) | exact ⟨rfl, rfl⟩
  rw [key.1, key.2]
  simp [hq]
end
end Go.X
namespace Go.X
open Go Go.Eng Go.RowKit Dg Go.Proofs.YtndpdhamadiopaaGreatDoor
section
variable {P : Program} {w0 w : World} {O : List Nat} {N : Nat} {D : List SD} {σ : Asg} {T : TrS} {M : TrB} {a : Act} {ρ : Rho} {ty : TypeId}
theorem Sl.bin {b : BinOp} {t t2 : TypeId} {x y : Operand} {vx vy v : SV} (hx : Eng.ev (full a) x = some (dv ρ vx)) (hy : Eng.ev (full a) y = some (dv ρ vy)) (h : sBin P b t x y vx vy = some v) : Sl P (.binOp b t x y t2) ty a w (dv ρ v) := by
 have gen : ∀ {u1 u2 : Value}, dv ρ vx = u1 → dv ρ vy = u2 → ob (still P (do eqGuard b t x y u1 u2; binOp b t u1 u2)) cv = some v → Sl P (.binOp b t x y t2) ty a w (dv ρ v) := by
  intro u1 u2 h1 h2 h
  obtain ⟨u, hu, hc⟩ := ob_some h
  rw [h1] at hx; rw [h2] at hy
  have hr := still_ok hu
  rw [cv_ok hc]
  exact Sl.of (F := fun _ => True) (fun d pos af => Yl.bin hx hy hr) trivial
 have nil : ∀ c, sEq P t vx vy = some c → ((b = .eql ∧ v = .bool c) ∨ (b = .neq ∧ v = .bool (!c))) → (!bothNili vx vy || isC x || isC y) = true → Sl P (.binOp b t x y t2) ty a w (dv ρ v) := by
  intro c hc hb hn
  have hb1 := fun w => nil_bin (P := P) (ρ := ρ) (w := w) hc
  have hg := fun w => nil_guard (P := P) (ρ := ρ) (w := w) (b := b) hc hn
  refine Sl.of (F := fun _ => True) (fun d pos af => Yl.bin hx hy (fun w => ?_)) trivial
  simp only [Sem.run_bind, hg w, Result.andThen_ok]
  rcases hb with ⟨rfl, rfl⟩ | ⟨rfl, rfl⟩
  ·exact (hb1 w).1
  ·exact (hb1 w).2
 unfold sBin at h
 split at h
 ·rename_i l m
  split at h
  ·obtain ⟨hl, h⟩ := must_some h
   cases h
   have := Nat.le_of_ble_eq_true hl
   have e := Sl.of (P := P) (a := a) (w := w) (ty := ty) (F := fun _ => True) (fun d pos af => Yl.addS (t := t) (t' := t2) hx hy (by simp; omega)) trivial
   rw [dv, List.map_append]; exact e
  ·cases h
   have e := Sl.of (P := P) (a := a) (w := w) (ty := ty) (F := fun _ => True) (fun d pos af => Yl.eqS (t := t) (t' := t2) hx hy) trivial
   rw [dv, eqN_eq]; exact e
  ·cases h
   have e := Sl.of (P := P) (a := a) (w := w) (ty := ty) (F := fun _ => True) (fun d pos af => Yl.neS (t := t) (t' := t2) hx hy) trivial
   rw [dv, eqN_eq]; exact e
  ·exact gen rfl rfl h
 ·rename_i k i k' j
  split at h
  ·rename_i v9 h9
   cases h
   unfold sBinI at h9
   cases hk : sameK k k' with
   | false => rw [hk] at h9; cases h9
   | true =>
    rw [hk, cond_true] at h9
    have := sameK_ok hk
    subst this
    simp only [dv] at hx hy
    split at h9
    ·cases h9
     rw [dv, ieq_eq]
     exact Sl.of (F := fun _ => True) (fun d pos af => Yl.eqI (t := t) (t' := t2) hx hy) trivial
    ·cases h9
     rw [dv, ieq_eq]
     exact Sl.of (F := fun _ => True) (fun d pos af => Yl.neI (t := t) (t' := t2) hx hy) trivial
    ·cases h9
     rw [dv, ilt_eq]
     exact Sl.of (F := fun _ => True) (fun d pos af => Yl.ltI (t := t) (t' := t2) hx hy) trivial
    ·cases h9
     rw [dv, ilt_eq]
     exact Sl.of (F := fun _ => True) (fun d pos af => Yl.gtI (t := t) (t' := t2) hx hy) trivial
    ·cases h9
     rw [dv, ilt_eq, show (!decide (j < i)) = decide (i ≤ j) by rw [← decide_not]; exact decide_eq_decide.2 Int.not_lt]
     exact Sl.of (F := fun _ => True) (fun d pos af => Yl.leI (t := t) (t' := t2) hx hy) trivial
    ·cases h9
     rw [dv, ilt_eq, show (!decide (i < j)) = decide (j ≤ i) by rw [← decide_not]; exact decide_eq_decide.2 Int.not_lt]
     exact Sl.of (F := fun _ => True) (fun d pos af => Yl.geI (t := t) (t' := t2) hx hy) trivial
    ·cases hk9 : isI64 k with
     | false => rw [hk9] at h9; cases h9
     | true =>
      rw [hk9, cond_true] at h9
      have := isI64_ok hk9
      subst this
      unfold addI at h9
      split at h9
      ·rename_i a1 b1
       cases hb : Nat.ble (Nat.add a1 b1) 4611686018427387904 with
       | false => rw [hb] at h9; cases h9
       | true =>
        rw [hb] at h9; cases h9
        have hle := Nat.le_of_ble_eq_true hb
        have hle' : a1 + b1 ≤ 4611686018427387904 := hle
        have e := Sl.of (P := P) (a := a) (w := w) (ty := ty) (F := fun _ => True) (fun d pos af => Yl.add (t := t) (t' := t2) hx hy (by simp only [Int.ofNat_eq_natCast]; omega)) trivial
        have e2 : (Int.ofNat a1 + Int.ofNat b1) = Int.ofNat (Nat.add a1 b1) := rfl
        rw [dv, ← e2]; exact e
      ·cases h9
    ·cases h9
  ·exact gen rfl rfl h
 ·exact gen rfl rfl h
 ·obtain ⟨g1, h1, h2⟩ := ob_some h
  obtain ⟨g2, h3, h4⟩ := ob_some h2
  exact gen (by rw [dv, grl_ok h1]) (by rw [dv, grl_ok h3]) h4
 ·obtain ⟨g1, h1, h2⟩ := ob_some h
  obtain ⟨g2, h3, h4⟩ := ob_some h2
  exact gen (by rw [dv, gr_ok h1]) (by rw [dv, gr_ok h3]) h4
 ·split at h
  ·obtain ⟨c, hc, h⟩ := ob_some h
   obtain ⟨hn, h⟩ := must_some h
   cases h
   exact nil c hc (.inl ⟨rfl, rfl⟩) hn
  ·obtain ⟨c, hc, h⟩ := ob_some h
   obtain ⟨hn, h⟩ := must_some h
   cases h
   exact nil c hc (.inr ⟨rfl, rfl⟩) hn
  ·cases h
theorem Sl.grd {op : Op} {s : Sem Value} {v : SV} (hs : ∀ dst pos af g, execOp a.eval ⟨dst, op, ty, pos, af, g⟩ = (do pure (.value (← s)))) (h : ob (still P s) cv = some v) : Sl P op ty a w (dv ρ v) := fun dst pos af g => by
 obtain ⟨u, hu, hc⟩ := ob_some h
 rw [hs, cv_ok hc]
 simp [still_ok hu]
def isStrT (P : Program) (t : TypeId) : Bool := match P.underlying t with | some .string => true | _ => false
def sameConv (P : Program) (s d : TypeId) (x : SV) : Bool := match P.underlying s, P.underlying d, x with
 | some .string, some .string, .str _ => true
 | _, _, _ => false
noncomputable def sConv (P : Program) (s d : TypeId) (vx : SV) : Option SV := match vx with
 | .str l => must (sameConv P s d (.str l)) (some (.str l))
 | _ => ob (gr vx) fun u => ob (still P (Go.convert s d u)) cv
theorem Sl.conv {s d : TypeId} {x : Operand} {vx v : SV} (hx : a.eval x = dv ρ vx) (h : sConv P s d vx = some v) : Sl P (.convert s d x) ty a w (dv ρ v) := by
 unfold sConv at h
 split at h
 ·rename_i l
  obtain ⟨hc, h⟩ := must_some h
  cases h
  unfold sameConv at hc
  split at hc
  ·rename_i h1 h2 h3
   intro dst pos af g
   simp [execOp, hx, Go.convert, run_underlying h1, run_underlying h2, dv]
  ·cases hc
 ·obtain ⟨u, hu, h⟩ := ob_some h
  rw [gr_ok hu] at hx
  exact Sl.grd (s := Go.convert s d u) (fun dst pos af g => by simp only [execOp, hx]) h
end
end Go.X
namespace Go.X
open Go Go.Eng Go.RowKit Dg Go.Proofs.YtndpdhamadiopaaGreatDoor
section
variable {P : Program} {w0 w : World} {O : List Nat} {N : Nat} {D : List SD} {σ : Asg} {T : TrS} {M : TrB} {a : Act} {ρ : Rho} {ty : TypeId}
def oneS (x : SV) : Bool := match x with
 | .agg _ | .tup _ => false
 | _ => true
theorem oneS_ok {x : SV} (h : oneS x = true) : (dv ρ x).oneCell' = true := by
 cases x <;> first | (cases h; done) | rfl | exact (ρ _).one
theorem oneAll {l : List SV} (h : l.all oneS = true) : ∀ u ∈ dvs ρ l, u.oneCell' = true := fun u hu => by
 rw [dvs_map] at hu
 obtain ⟨x, hx, rfl⟩ := List.mem_map.1 hu
 exact oneS_ok (List.all_eq_true.1 h x hx)
def natS (x : SV) : Option Nat := match x with
 | .int _ (.ofNat n) => some n
 | _ => none
noncomputable def optS (T : TrS) (M : TrB) (x : Option Operand) (d : Nat) : Option Nat := match x with
 | none => some d
 | some x => ob (evS T M x) natS
theorem natS_ok {x : SV} {n : Nat} (h : natS x = some n) : ∃ k, dv ρ x = .int k (n : Int) := by
 unfold natS at h
 split at h
 ·cases h; exact ⟨_, rfl⟩
 ·cases h
theorem bound_run {x : Option Operand} {d n y : Nat} {code : BoundsCode} (hF : FrS N D σ T a) (hG : MemG σ M) (hE : Ext σ ρ) (h : optS T M x d = some n) : (∃ z, x = some z ∧ (n ≤ y → (Instr.sliceBound (a.eval z) y code).run P w = .ok n w)) ∨ (x = none ∧ n = d) := by
 unfold optS at h
 cases x with
 | none => cases h; exact .inr ⟨rfl, rfl⟩
 | some z =>
  obtain ⟨v, hv, hn⟩ := ob_some h
  obtain ⟨k, hk⟩ := natS_ok (ρ := ρ) hn
  refine .inl ⟨z, rfl, fun hle => ?_⟩
  rw [evS_eval hF hG hE hv, hk]
  exact run_bound hle
theorem bounds_run {b : Bool} {len cap l h m : Nat} {lo hi mx : Option Operand} (hF : FrS N D σ T a) (hG : MemG σ M) (hE : Ext σ ρ) (hl : optS T M lo 0 = some l) (hh : optS T M hi len = some h) (hm : optS T M mx cap = some m) (h1 : l ≤ h) (h2 : h ≤ m) (h3 : m ≤ cap) (hx : mx.isSome = true → hi.isSome = true) :
  (Instr.sliceBounds b len cap (lo.map a.eval) (hi.map a.eval) (mx.map a.eval)).run P w = .ok (l, h, m) w := by
 unfold Instr.sliceBounds
 rcases bound_run (P := P) (w := w) (y := cap) (code := if b then .slice3Acap else .slice3Alen) hF hG hE hm with ⟨z, rfl, hz⟩ | ⟨rfl, rfl⟩
 ·obtain ⟨zh, rfl⟩ := Option.isSome_iff_exists.1 (hx rfl)
  rcases bound_run (P := P) (w := w) (y := m) (code := .slice3B) hF hG hE hh with ⟨z2, h4, hz2⟩ | ⟨h4, _⟩
  ·cases h4
   rcases bound_run (P := P) (w := w) (y := h) (code := .slice3C) hF hG hE hl with ⟨z3, rfl, hz3⟩ | ⟨rfl, rfl⟩
   ·simp [hz h3, hz2 h2, hz3 h1]
   ·simp [hz h3, hz2 h2]
  ·cases h4
 ·rcases bound_run (P := P) (w := w) (y := m) (code := if b then .sliceAcap else .sliceAlen) hF hG hE hh with ⟨z2, rfl, hz2⟩ | ⟨rfl, rfl⟩
  ·rcases bound_run (P := P) (w := w) (y := h) (code := .sliceB) hF hG hE hl with ⟨z3, rfl, hz3⟩ | ⟨rfl, rfl⟩
   ·simp [hz2 h2, hz3 h1]
   ·simp [hz2 h2]
  ·rcases bound_run (P := P) (w := w) (y := h) (code := .sliceB) hF hG hE hl with ⟨z3, rfl, hz3⟩ | ⟨rfl, rfl⟩
   ·simp [hz3 h1]
   ·simp
end
end Go.X
namespace Go.X
open Go Go.Eng Go.RowKit Dg Go.Proofs.YtndpdhamadiopaaGreatDoor
section
variable {P : Program} {w0 w : World} {O : List Nat} {N : Nat} {D : List SD} {σ : Asg} {T : TrS} {M : TrB} {a : Act} {ρ : Rho} {ty : TypeId}
noncomputable def sSlice (P : Program) (T : TrS) (M : TrB) (t : TypeId) (vx : SV) (lo hi mx : Option Operand) : Option SV := match vx with
 | .str l => must (isStrT P t && mx.isNone) (ob (optS T M lo 0) fun i => ob (optS T M hi l.length) fun j => must (Nat.ble i j && Nat.ble j l.length) (some (.str ((l.drop i).take (j - i)))))
 | .nils => (match P.underlying t with
  | some (.slice e) => ob (sizeB P e) fun sz => ob (optS T M lo 0) fun i => ob (optS T M hi 0) fun j => ob (optS T M mx 0) fun m => must (Nat.beq i 0 && Nat.beq j 0 && Nat.beq m 0 && (mx.isNone || hi.isSome)) (some .nils)
  | _ => none)
 | .slx s off n cap => (match P.underlying t with
  | some (.slice e) => ob (sizeB P e) fun sz => ob (optS T M lo 0) fun i => ob (optS T M hi n) fun j => ob (optS T M mx cap) fun m =>
    must (Nat.ble i j && Nat.ble j m && Nat.ble m cap && (mx.isNone || hi.isSome)) (some (.slx s (bif Nat.beq m i then off else off + i * sz) (j - i) (m - i)))
  | _ => none)
 | .sl s k n sz => (match P.underlying t with
  | some (.slice e) => ob (sizeB P e) fun z => must (Nat.beq z sz) (match M.get s with
   | some (.row _ m0 _ _) => must (Nat.ble (k + n) m0 && Nat.blt 0 m0) (ob (optS T M lo 0) fun i => ob (optS T M hi n) fun j => (match mx with
    | none => must (Nat.ble i j && Nat.ble j n && (Nat.beq i 0 || Nat.blt i n)) (some (.sl s (k + i) (j - i) sz))
    | some _ => ob (optS T M mx 0) fun m => must (Nat.beq i 0 && Nat.ble j m && Nat.ble m n && hi.isSome) (some (.slx s (k * sz) j m))))
   | _ => none)
  | _ => none)
 | .ptr s off => (match P.underlying t with
  | some (.array n e) => must (lo.isNone && hi.isNone && mx.isNone) (ob (sizeB P e) fun sz => ob (zeroB P t) fun _ => some (.slx s off n n))
  | _ => none)
 | _ => none
theorem slice_run {t e : TypeId} {a0 : Option Addr} {n cap i j m sz : Nat} {lo hi mx : Option Operand} (hF : FrS N D σ T a) (hG : MemG σ M) (hE : Ext σ ρ) (hu : P.underlying t = some (.slice e)) (hs : sizeB P e = some sz)
  (hl : optS T M lo 0 = some i) (hh : optS T M hi n = some j) (hm : optS T M mx cap = some m) (h1 : i ≤ j) (h2 : j ≤ m) (h3 : m ≤ cap) (hx : mx.isSome = true → hi.isSome = true) :
  (Instr.sliceAt t (.slice a0 n cap) (lo.map a.eval) (hi.map a.eval) (mx.map a.eval)).run P w = .ok (.slice (if m = i then a0 else a0.map (·.add (i * sz))) (j - i) (m - i)) w := by
 have hb := bounds_run (P := P) (w := w) (b := true) hF hG hE hl hh hm h1 h2 h3 hx
 simp [Instr.sliceAt, Instr.slice, run_underlying hu, hb, Eng.run_sizeOf hs]
theorem Sl.slice {w' : World} {t : TypeId} {x : Operand} {vx v : SV} {lo hi mx : Option Operand} (hF : FrS N D σ T a) (hM : MemS w0 O σ M w) (hG : MemG σ M) (hE : Ext σ ρ) (hx : a.eval x = dv ρ vx) (h : sSlice P T M t vx lo hi mx = some v) : Sl P (.slice t x lo hi mx) ty a w' (dv ρ v) := by
 have mk : ∀ {u : Value}, (Instr.sliceAt t (dv ρ vx) (lo.map a.eval) (hi.map a.eval) (mx.map a.eval)).run P w' = .ok u w' → u = dv ρ v → Sl P (.slice t x lo hi mx) ty a w' (dv ρ v) := by
  intro u hr hu dst pos af g
  subst hu
  simp [execOp, hx, hr]
 unfold sSlice at h
 split at h
 ·rename_i l
  obtain ⟨hc, h⟩ := must_some h
  obtain ⟨i, hi', h⟩ := ob_some h
  obtain ⟨j, hj', h⟩ := ob_some h
  obtain ⟨hb, h⟩ := must_some h
  cases h
  rw [Bool.and_eq_true] at hc hb
  have hb1 := Nat.le_of_ble_eq_true hb.1
  have hb2 := Nat.le_of_ble_eq_true hb.2
  have hmx : mx = none := by simpa using hc.2
  subst hmx
  have hu : P.underlying t = some .string := by
   have := hc.1
   unfold isStrT at this
   split at this
   ·assumption
   ·cases this
  have hbr := bounds_run (P := P) (w := w') (b := false) (cap := l.length) hF hG hE hi' hj' (mx := none) (m := l.length) rfl hb1 hb2 (Nat.le_refl _) (by simp)
  refine mk (u := .string (str (((sk l).drop i).take (j - i)))) ?_ ?_
  ·have hsz : (str (l.map UInt8.ofNat)).size = l.length := by rw [str_size, List.length_map]
   simp only [Option.map_none] at hbr
   simp [Instr.sliceAt, Instr.slice, run_underlying hu, dv, hsz, hbr, str_extract, sk]
  ·simp [dv, sk, List.map_take, List.map_drop]
 ·split at h
  ·rename_i e hu
   obtain ⟨sz, hs, h⟩ := ob_some h
   obtain ⟨i, hi', h⟩ := ob_some h
   obtain ⟨j, hj', h⟩ := ob_some h
   obtain ⟨m, hm', h⟩ := ob_some h
   obtain ⟨hb, h⟩ := must_some h
   cases h
   simp only [Bool.and_eq_true] at hb
   obtain ⟨⟨⟨h1, h2⟩, h3⟩, h4⟩ := hb
   have h1 := Nat.eq_of_beq_eq_true h1
   have h2 := Nat.eq_of_beq_eq_true h2
   have h3 := Nat.eq_of_beq_eq_true h3
   subst h1; subst h2; subst h3
   refine mk (slice_run hF hG hE hu hs hi' hj' hm' (Nat.le_refl _) (Nat.le_refl _) (Nat.le_refl _) (fun h => by cases mx <;> simp_all)) ?_
   simp [dv]
  ·cases h
 ·rename_i s off n cap
  split at h
  ·rename_i e hu
   obtain ⟨sz, hs, h⟩ := ob_some h
   obtain ⟨i, hi', h⟩ := ob_some h
   obtain ⟨j, hj', h⟩ := ob_some h
   obtain ⟨m, hm', h⟩ := ob_some h
   obtain ⟨hb, h⟩ := must_some h
   cases h
   simp only [Bool.and_eq_true] at hb
   obtain ⟨⟨⟨h1, h2⟩, h3⟩, h4⟩ := hb
   have h1 := Nat.le_of_ble_eq_true h1
   have h2 := Nat.le_of_ble_eq_true h2
   have h3 := Nat.le_of_ble_eq_true h3
   refine mk (slice_run hF hG hE hu hs hi' hj' hm' h1 h2 h3 (fun h => by cases mx <;> simp_all)) ?_
   by_cases hmi : m = i
   ·subst hmi
    simp [dv]
   ·have : Nat.beq m i = false := by
     cases hq : Nat.beq m i with
     | true => exact absurd (Nat.eq_of_beq_eq_true hq) hmi
     | false => rfl
    simp [dv, hmi, this, add_blk]
  ·cases h
 ·rename_i s k n sz
  split at h
  ·rename_i e hu
   obtain ⟨z, hs, h⟩ := ob_some h
   obtain ⟨hz, h⟩ := must_some h
   have hz := Nat.eq_of_beq_eq_true hz
   subst hz
   split at h
   ·rename_i xs m0 e0 s0 hmem
    obtain ⟨hk, h⟩ := must_some h
    rw [Bool.and_eq_true] at hk
    have hk1 := Nat.le_of_ble_eq_true hk.1
    obtain ⟨hb, hc⟩ := row_blk (hM.ok hE hmem) (Nat.le_of_ble_eq_true hk.2)
    obtain ⟨i, hi', h⟩ := ob_some h
    obtain ⟨j, hj', h⟩ := ob_some h
    cases mx with
    | none =>
     dsimp only at h
     obtain ⟨hb2, h⟩ := must_some h
     cases h
     simp only [Bool.and_eq_true] at hb2
     obtain ⟨⟨h1, h2⟩, h3⟩ := hb2
     have h1 := Nat.le_of_ble_eq_true h1
     have h2 := Nat.le_of_ble_eq_true h2
     refine mk (slice_run (mx := none) hF hG hE hu hs hi' hj' rfl h1 (by omega) (Nat.le_refl _) (by simp)) ?_
     simp only [dv, hb, Option.map_some]
     rw [Bool.or_eq_true] at h3
     rcases h3 with h3 | h3
     ·have h3 := Nat.eq_of_beq_eq_true h3
      subst h3
      simp [add_blk]
     ·have h3 : i < n := Nat.le_of_ble_eq_true h3
      rw [if_neg (by omega)]
      simp only [add_blk, Option.map_some]
      rw [Nat.add_mul, Nat.sub_sub]
    | some zz =>
     dsimp only at h
     obtain ⟨m, hm', h⟩ := ob_some h
     obtain ⟨hb2, h⟩ := must_some h
     cases h
     simp only [Bool.and_eq_true] at hb2
     obtain ⟨⟨⟨h1, h2⟩, h3⟩, h4⟩ := hb2
     have h1 := Nat.eq_of_beq_eq_true h1
     have h2 := Nat.le_of_ble_eq_true h2
     have h3 := Nat.le_of_ble_eq_true h3
     subst h1
     have hm2 : optS T M (some zz) ((ρ s).c - k) = some m := hm'
     refine mk (slice_run hF hG hE hu hs hi' hj' hm2 (Nat.zero_le _) h2 (by omega) (fun _ => h4)) ?_
     simp [dv, hb, add_blk]
   ·cases h
  ·cases h
 ·rename_i s off
  split at h
  ·rename_i n e hu
   obtain ⟨hc, h⟩ := must_some h
   obtain ⟨sz, hs, h⟩ := ob_some h
   obtain ⟨zs, hzs, h⟩ := ob_some h
   cases h
   simp only [Bool.and_eq_true, Option.isNone_iff_eq_none] at hc
   obtain ⟨⟨rfl, rfl⟩, rfl⟩ := hc
   refine mk (u := .slice (some ⟨bl ρ s, off, none⟩) n n) ?_ rfl
   simp [Instr.sliceAt, Instr.sureAddr, Instr.sliceBounds, dv, run_underlying hu, Eng.run_sizeOf hs, Addr.add]
  ·cases h
 ·cases h
end
end Go.X
namespace Go.X
open Go Go.Eng Go.RowKit Dg Go.Proofs.YtndpdhamadiopaaGreatDoor
section
variable {P : Program} {w0 w : World} {O : List Nat} {N : Nat} {D : List SD} {σ : Asg} {T : TrS} {M : TrB} {a : Act} {ρ : Rho} {ty : TypeId}
noncomputable def layS (cs vs : List SV) : Nat → List SV := List.rec (fun _ => []) (fun c r ih off => Nat.rec (List.rec (c :: r) (fun v _ ihv => v :: ihv.tail) vs) (fun o _ => c :: ih o) off) cs
def lay (cs vs : List SV) (off : Nat) : List SV := cs.take off ++ vs ++ cs.drop (off + vs.length)
theorem setN_lay : ∀ (cs vs : List Value) (off : Nat), off + vs.length ≤ cs.length → SetN cs off vs (cs.take off ++ vs ++ cs.drop (off + vs.length))
 | [], vs, off, h => by
  have h1 : off = 0 := by simp at h; exact h.1
  have h2 : vs = [] := by simp at h; exact h.2
  subst h1; subst h2
  exact .nil
 | c :: cs, [], 0, h => by simpa using SetN.done
 | c :: cs, v :: vs, 0, h => by
  have := setN_lay cs vs 0 (by simp at h ⊢; omega)
  simp only [List.take_zero, List.nil_append, Nat.zero_add, List.length_cons, List.cons_append, List.drop_succ_cons] at this ⊢
  exact .put this
 | c :: cs, vs, off + 1, h => by
  have := setN_lay cs vs off (by simp at h; omega)
  simp only [List.take_succ_cons, List.cons_append, Nat.add_right_comm, List.drop_succ_cons] at this ⊢
  exact .skip this
theorem dvs_lay (cs vs : List SV) (off : Nat) : dvs ρ (lay cs vs off) = (dvs ρ cs).take off ++ dvs ρ vs ++ (dvs ρ cs).drop (off + (dvs ρ vs).length) := by
 simp [lay, dvs_map, List.map_take, List.map_drop]
def cellsS (x : SV) : Option (List SV) := match x with
 | .agg l => some l
 | .tup _ => none
 | x => some [x]
noncomputable def builtS (pl : Nat → Option (Nat × Nat)) (ps : List (Nat × SV)) : List SV → Option (List SV) :=
 List.rec (fun cs => some cs) (fun p _ ih cs => ob (pl p.1) fun q => ob (cellsS p.2) fun vs => must (Nat.beq vs.length q.2 && Nat.ble (q.1 + q.2) cs.length) (ih (lay cs vs q.1))) ps
theorem builtS_cons (pl : Nat → Option (Nat × Nat)) (p : Nat × SV) (ps : List (Nat × SV)) (cs : List SV) : builtS pl (p :: ps) cs = ob (pl p.1) fun q => ob (cellsS p.2) fun vs => must (Nat.beq vs.length q.2 && Nat.ble (q.1 + q.2) cs.length) (builtS pl ps (lay cs vs q.1)) := rfl
theorem builtS_ok {pl : Nat → Option (Nat × Nat)} : ∀ {ps : List (Nat × SV)} {cs cs' : List SV}, builtS pl ps cs = some cs' → Built pl (dvs ρ cs) (ps.map fun p => (p.1, dv ρ p.2)) (dvs ρ cs')
 | [], cs, cs', h => by cases h; exact .nil
 | p :: ps, cs, cs', h => by
  rw [builtS_cons] at h
  obtain ⟨⟨off, n⟩, hp, h⟩ := ob_some h
  obtain ⟨vs, hv, h⟩ := ob_some h
  obtain ⟨hb, h⟩ := must_some h
  rw [Bool.and_eq_true] at hb
  have h1 := Nat.eq_of_beq_eq_true hb.1
  have h2 := Nat.le_of_ble_eq_true hb.2
  dsimp only at h1 h2 h
  have hs := setN_lay (dvs ρ cs) (dvs ρ vs) off (by rw [dvs_len, dvs_len]; omega)
  rw [← dvs_lay] at hs
  have ih := builtS_ok h
  obtain ⟨i, x⟩ := p
  have one : ∀ y : SV, oneS y = true → vs = [y] → Built pl (dvs ρ cs) ((i, dv ρ y) :: ps.map fun p => (p.1, dv ρ p.2)) (dvs ρ cs') := fun y hy he => by
   subst he
   refine .one (off := off) ?_ (oneS_ok hy) hs ih
   rw [hp]; simp at h1; rw [h1]
  cases x with
  | agg l =>
   cases hv
   exact .agg (off := off) (n := n) hp (by rw [dvs_len]; exact h1) hs ih
  | tup l => cases hv
  | _ => cases hv; exact one _ rfl rfl
noncomputable def partsS (T : TrS) (M : TrB) (l : List (Nat × Operand)) : Option (List (Nat × SV)) :=
 List.rec (some []) (fun p _ ih => ob (evS T M p.2) fun v => ob ih fun vs => some ((p.1, v) :: vs)) l
theorem partsS_ok (hF : FrS N D σ T a) (hG : MemG σ M) (hE : Ext σ ρ) : ∀ {l : List (Nat × Operand)} {ps : List (Nat × SV)}, partsS T M l = some ps → evp (full a) l = some (ps.map fun p => (p.1, dv ρ p.2))
 | [], ps, h => by cases h; rfl
 | (i, x) :: l, ps, h => by
  have h' : (ob (evS T M x) fun v => ob (partsS T M l) fun vs => some ((i, v) :: vs)) = some ps := h
  obtain ⟨v, hv, h'⟩ := ob_some h'
  obtain ⟨vs, hvs, h'⟩ := ob_some h'
  cases h'
  simp only [evp, evS_ok hF hG hE hv, partsS_ok hF hG hE hvs, List.map_cons]
noncomputable def sBuild (P : Program) (T : TrS) (M : TrB) (t : TypeId) (parts : List (Nat × Operand)) : Option SV :=
 ob (zeroB P t) fun zs => ob (cvs zs) fun cs => ob (partsS T M parts) fun ps => match placesB P t with
  | some pl => ob (builtS (fun i => pl[i]?) ps cs) fun r => some (.agg r)
  | none => match P.underlying t with
   | some (.array n e) => ob (sizeB P e) fun sz => ob (builtS (fun i => some (i * sz, sz)) ps cs) fun r => some (.agg r)
   | _ => none
theorem Sl.build {t : TypeId} {parts : Array (Nat × Operand)} {v : SV} (hF : FrS N D σ T a) (hG : MemG σ M) (hE : Ext σ ρ) (h : sBuild P T M t parts.toList = some v) : Sl P (.build t parts) ty a w (dv ρ v) := by
 unfold sBuild at h
 obtain ⟨zs, hz, h⟩ := ob_some h
 obtain ⟨cs, hc, h⟩ := ob_some h
 obtain ⟨ps, hp, h⟩ := ob_some h
 have hcs := cvs_ok hc ρ
 have hpa : parts = parts.toList.toArray := by simp
 split at h
 ·rename_i pl hpl
  obtain ⟨r, hr, h⟩ := ob_some h
  cases h
  have := builtS_ok (ρ := ρ) hr
  rw [hcs] at this
  rw [hpa]
  exact Sl.of (F := fun _ => True) (fun d pos af => Yl.build ⟨hz, hpl⟩ (partsS_ok hF hG hE hp) this) trivial
 ·split at h
  ·rename_i n e hu
   obtain ⟨sz, hs, h⟩ := ob_some h
   obtain ⟨r, hr, h⟩ := ob_some h
   cases h
   have := builtS_ok (ρ := ρ) hr
   rw [hcs] at this
   rw [hpa]
   exact Sl.of (F := fun _ => True) (fun d pos af => Yl.buildA ⟨hu, hz, hs⟩ (partsS_ok hF hG hE hp) this) trivial
  ·cases h
end
end Go.X
namespace Go.X
open Go Go.Eng Go.RowKit Dg Go.Proofs.YtndpdhamadiopaaGreatDoor
section
variable {P : Program} {w0 w : World} {O : List Nat} {N : Nat} {D : List SD} {σ : Asg} {T : TrS} {M : TrB} {a : Act} {ρ : Rho} {ty : TypeId}
noncomputable def sCap (P : Program) (t : TypeId) (x : SV) : Option SV := match P.underlying t, x with
 | some (.slice _), .slx _ _ _ c => some (.int .i64 (.ofNat c))
 | some (.slice _), .nils => some (.int .i64 (.ofNat 0))
 | _, _ => none
noncomputable def mm2 (b : Builtin) (x y : SV) : Option SV := match b, x, y with
 | .min, .int k m, .int _ n => some (.int k (if n < m then n else m))
 | .max, .int k m, .int _ n => some (.int k (if m < n then n else m))
 | _, _, _ => none
noncomputable def sCallB (P : Program) (T : TrS) (M : TrB) (b : Builtin) (xs : List Operand) (ts : List TypeId) : Option SV := match b with
 | .len => (match xs, ts with | [x], [t] => ob (evS T M x) fun v => sLen P t v | _, _ => none)
 | .cap => (match xs, ts with | [x], [t] => ob (evS T M x) fun v => sCap P t v | _, _ => none)
 | .min => (match xs with | [x, y] => ob (evS T M x) fun v => ob (evS T M y) fun u => mm2 .min v u | [x, y, z] => ob (evS T M x) fun v => ob (evS T M y) fun u => ob (evS T M z) fun t => ob (mm2 .min v u) fun m => mm2 .min m t | _ => none)
 | .max => (match xs with | [x, y] => ob (evS T M x) fun v => ob (evS T M y) fun u => mm2 .max v u | _ => none)
 | _ => none
noncomputable def bPick (T : TrS) (M : TrB) (x y : Operand) (v : SV) : Option SV := match v with | .bool true => evS T M x | .bool false => evS T M y | _ => none
noncomputable def bExtract (i : Nat) (v : SV) : Option SV := match v with | .tup l => nthS l i | _ => none
noncomputable def bNil (v : SV) : Option SV := match v with | .ptr s o => some (.ptr s o) | .fn f us cs => some (.fn f us cs) | .ifc t u => some (.ifc t u) | .yl s => some (.yl s) | _ => none
noncomputable def bFld (P : Program) (t : TypeId) (f : Nat) (v : SV) : Option SV := match v with | .ptr s o => ob (fldB P t f) fun k => some (.ptr s (o + k)) | _ => none
noncomputable def bField (P : Program) (t : TypeId) (f : Nat) (v : SV) : Option SV := match v with | .agg l => ob (fldTB P t f) fun q => sPart P q.1 l q.2 | _ => none
noncomputable def sPick (T : TrS) (M : TrB) (c x y : Operand) : Option SV := ob (evS T M c) (bPick T M x y)
noncomputable def sExtract (T : TrS) (M : TrB) (x : Operand) (i : Nat) : Option SV := ob (evS T M x) (bExtract i)
noncomputable def sNilC (T : TrS) (M : TrB) (x : Operand) : Option SV := ob (evS T M x) bNil
noncomputable def sFld (P : Program) (T : TrS) (M : TrB) (t : TypeId) (x : Operand) (f : Nat) : Option SV := ob (evS T M x) (bFld P t f)
noncomputable def sField (P : Program) (T : TrS) (M : TrB) (t : TypeId) (x : Operand) (f : Nat) : Option SV := ob (evS T M x) (bField P t f)
noncomputable def sIxA (P : Program) (T : TrS) (M : TrB) (t : TypeId) (x i : Operand) : Option SV := ob (evS T M x) fun v => ob (evS T M i) (sIndexAddr P M t v)
noncomputable def sIx (P : Program) (T : TrS) (M : TrB) (t : TypeId) (x i : Operand) : Option SV := ob (evS T M x) fun v => ob (evS T M i) (sIndex P t v)
noncomputable def sLd (P : Program) (T : TrS) (M : TrB) (t : TypeId) (x : Operand) : Option SV := ob (evS T M x) (sLoad P M t)
noncomputable def bIfc (t : TypeId) (v : SV) : Option SV := some (.ifc t v)
noncomputable def sMkI (P : Program) (T : TrS) (M : TrB) (t : TypeId) (x : Operand) : Option SV := must (P.concrete t) (ob (evS T M x) (bIfc t))
noncomputable def sMkF (T : TrS) (M : TrB) (fn : Fn) (us cs : Array Operand) : Option SV := match fn with | .func f => ob (evsS T M us.toList) fun u => ob (evsS T M cs.toList) fun c => some (.fn f u c) | _ => none
noncomputable def rowNon (M : TrB) (u : SV) : Bool := match u with
 | .sl s _ _ _ => (match M.get s with | some (.row _ m _ _) => Nat.blt 0 m | _ => false)
 | _ => false
def isNils (u : SV) : Bool := match u with | .nils => true | _ => false
theorem rowNon_ok (hM : MemS w0 O σ M w) (hE : Ext σ ρ) {u : SV} (h : rowNon M u = true) : ∃ a n c, dv ρ u = .slice (some a) n c := by
 unfold rowNon at h
 split at h
 ·split at h
  ·rename_i s k n z xs m e z0 hs
   have := (row_blk (hM.ok hE hs) (Nat.le_of_ble_eq_true h)).1
   exact ⟨_, _, _, by rw [dv, this]; rfl⟩
  ·cases h
 ·cases h
noncomputable def sNilRow (P : Program) (M : TrB) (b : BinOp) (t : TypeId) (u v : SV) : Option SV := match P.underlying t with
 | some (.slice _) => must ((rowNon M u && isNils v) || (isNils u && rowNon M v)) (match b with | .eql => some (.bool false) | .neq => some (.bool true) | _ => none)
 | _ => none
theorem sl_ne {t e : TypeId} {a : Addr} {n c : Nat} (hu : P.underlying t = some (.slice e)) {b : BinOp} {x y : Operand} {r : Bool} (hb : (b = .eql ∧ r = false) ∨ (b = .neq ∧ r = true)) :
  (do eqGuard b t x y (.slice (some a) n c) (.slice none 0 0); binOp b t (.slice (some a) n c) (.slice none 0 0)).run P w = .ok (.bool r) w ∧
  (do eqGuard b t x y (.slice none 0 0) (.slice (some a) n c); binOp b t (.slice none 0 0) (.slice (some a) n c)).run P w = .ok (.bool r) w := by
 have h1 : (Op.equal t (.slice (some a) n c) (.slice none 0 0)).run P w = .ok false w := by
  show (Op.equalIn (9999 + 1) t _ _).run P w = _
  generalize 9999 = q
  simp [Op.equalIn, run_underlying hu]
 have h2 : (Op.equal t (.slice none 0 0) (.slice (some a) n c)).run P w = .ok false w := by
  show (Op.equalIn (9999 + 1) t _ _).run P w = _
  generalize 9999 = q
  simp [Op.equalIn, run_underlying hu]
 rcases hb with ⟨rfl, rfl⟩ | ⟨rfl, rfl⟩
 ·exact ⟨by simp [eqGuard, show binOp .eql t (.slice (some a) n c) (.slice none 0 0) = (do pure (.bool (← Op.equal t (.slice (some a) n c) (.slice none 0 0)))) from rfl, h1], by simp [eqGuard, show binOp .eql t (.slice none 0 0) (.slice (some a) n c) = (do pure (.bool (← Op.equal t (.slice none 0 0) (.slice (some a) n c)))) from rfl, h2]⟩
 ·exact ⟨by simp [eqGuard, show binOp .neq t (.slice (some a) n c) (.slice none 0 0) = (do pure (.bool (!(← Op.equal t (.slice (some a) n c) (.slice none 0 0))))) from rfl, h1], by simp [eqGuard, show binOp .neq t (.slice none 0 0) (.slice (some a) n c) = (do pure (.bool (!(← Op.equal t (.slice none 0 0) (.slice (some a) n c))))) from rfl, h2]⟩
theorem Sl.nilRow {w' : World} {b : BinOp} {t t2 : TypeId} {x y : Operand} {vx vy v : SV} (hM : MemS w0 O σ M w) (hE : Ext σ ρ) (hx : Eng.ev (full a) x = some (dv ρ vx)) (hy : Eng.ev (full a) y = some (dv ρ vy)) (h : sNilRow P M b t vx vy = some v) : Sl P (.binOp b t x y t2) ty a w' (dv ρ v) := by
 unfold sNilRow at h
 split at h
 ·rename_i e hu
  obtain ⟨hc, h⟩ := must_some h
  obtain ⟨r, rfl, hb⟩ : ∃ r, v = .bool r ∧ ((b = .eql ∧ r = false) ∨ (b = .neq ∧ r = true)) := by
   split at h <;> cases h
   ·exact ⟨_, rfl, .inl ⟨rfl, rfl⟩⟩
   ·exact ⟨_, rfl, .inr ⟨rfl, rfl⟩⟩
  rw [Bool.or_eq_true, Bool.and_eq_true, Bool.and_eq_true] at hc
  rcases hc with ⟨h1, h2⟩ | ⟨h1, h2⟩
  ·obtain ⟨a1, n1, c1, e1⟩ := rowNon_ok hM hE h1
   have e2 : vy = .nils := by unfold isNils at h2; split at h2 <;> first | rfl | cases h2
   subst e2
   rw [e1] at hx
   exact Sl.of (F := fun _ => True) (fun d pos af => Yl.bin hx hy (fun w => (sl_ne hu hb).1)) trivial
  ·obtain ⟨a1, n1, c1, e1⟩ := rowNon_ok hM hE h2
   have e2 : vx = .nils := by unfold isNils at h1; split at h1 <;> first | rfl | cases h1
   subst e2
   rw [e1] at hy
   exact Sl.of (F := fun _ => True) (fun d pos af => Yl.bin hx hy (fun w => (sl_ne hu hb).2)) trivial
 ·cases h
noncomputable def orE {α : Type} (x y : Option α) : Option α := Option.rec y (fun v => some v) x
theorem orE_ok {α : Type} {x y : Option α} {v : α} (h : orE x y = some v) : x = some v ∨ y = some v := by
 cases x with
 | none => exact .inr h
 | some u => cases h; exact .inl rfl
noncomputable def sBn (P : Program) (T : TrS) (M : TrB) (b : BinOp) (t : TypeId) (x y : Operand) : Option SV := ob (evS T M x) fun vx => ob (evS T M y) fun vy => orE (sBin P b t x y vx vy) (sNilRow P M b t vx vy)
noncomputable def sUn (P : Program) (T : TrS) (M : TrB) (u : UnOp) (x : Operand) : Option SV := ob (evS T M x) fun v => ob (gr v) fun g => ob (still P (Op.unary u g)) cv
noncomputable def sCv (P : Program) (T : TrS) (M : TrB) (s d : TypeId) (x : Operand) : Option SV := ob (evS T M x) (sConv P s d)
noncomputable def sSl (P : Program) (T : TrS) (M : TrB) (t : TypeId) (x : Operand) (lo hi mx : Option Operand) : Option SV := ob (evS T M x) fun v => sSlice P T M t v lo hi mx
noncomputable def sCl (P : Program) (T : TrS) (M : TrB) (c : Call) : Option SV := match c.callee with | .builtin b => sCallB P T M b c.args.toList c.argTypes.toList | _ => none
noncomputable def sop (P : Program) (T : TrS) (M : TrB) (op : Op) : Option SV := match op with
 | .move x => evS T M x
 | .assign x => evS T M x
 | .pick c x y => sPick T M c x y
 | .extract x i => sExtract T M x i
 | .nilCheck x => sNilC T M x
 | .fieldAddr t x f => sFld P T M t x f
 | .field t x f => sField P T M t x f
 | .indexAddr t x i => sIxA P T M t x i
 | .index t x i => sIx P T M t x i
 | .load t x => sLd P T M t x
 | .makeInterface t x => sMkI P T M t x
 | .makeFunc fn us cs => sMkF T M fn us cs
 | .build t parts => sBuild P T M t parts.toList
 | .binOp b t x y _ => sBn P T M b t x y
 | .unOp u _ x => sUn P T M u x
 | .convert s d x => sCv P T M s d x
 | .slice t x lo hi mx => sSl P T M t x lo hi mx
 | .call c => sCl P T M c
 | _ => none
theorem sCallB_ok {b : Builtin} {args : Array Operand} {tys : Array TypeId} {v : SV} (hF : FrS N D σ T a) (hG : MemG σ M) (hE : Ext σ ρ) (h : sCallB P T M b args.toList tys.toList = some v) : Sl P (.call { callee := .builtin b, args := args, argTypes := tys }) ty a w (dv ρ v) := by
 have ea : args = args.toList.toArray := by simp
 have et : tys = tys.toList.toArray := by simp
 unfold sCallB at h
 split at h
 ·split at h
  ·rename_i x t h1 h2
   obtain ⟨vx, hx, h⟩ := ob_some h
   rw [ea, et, h1, h2]
   have hx' := evS_ok hF hG hE hx
   unfold sLen at h
   split at h
   ·rename_i l hu
    cases h
    have := Sl.of (P := P) (a := a) (w := w) (ty := ty) (F := fun _ => True) (fun d pos af => Yl.lenS hu hx') trivial
    rw [List.length_map] at this
    exact this
   ·rename_i e s k n sz hu
    cases h
    exact Sl.of (F := fun _ => True) (fun d pos af => Yl.lenSl hu hx') trivial
   ·rename_i e s k n sz hu
    cases h
    exact Sl.of (F := fun _ => True) (fun d pos af => Yl.lenSl hu hx') trivial
   ·rename_i e hu
    cases h
    exact Sl.of (F := fun _ => True) (fun d pos af => Yl.lenSl hu hx') trivial
   ·cases h
  ·cases h
 ·split at h
  ·rename_i x t h1 h2
   obtain ⟨vx, hx, h⟩ := ob_some h
   rw [ea, et, h1, h2]
   have hx' := evS_eval hF hG hE hx
   unfold sCap at h
   split at h
   ·rename_i e s k n c hu
    cases h
    intro dst pos af g
    simp [execOp, resolve, invoke, builtin, hx', Builtin.cap_, run_underlying hu, goInt, dv]
   ·rename_i e hu
    cases h
    intro dst pos af g
    simp [execOp, resolve, invoke, builtin, hx', Builtin.cap_, run_underlying hu, goInt, dv]
   ·cases h
  ·cases h
 ·split at h
  ·rename_i x y h1
   obtain ⟨vx, hx, h⟩ := ob_some h
   obtain ⟨vy, hy, h⟩ := ob_some h
   rw [ea, h1]
   have hx' := evS_eval hF hG hE hx
   have hy' := evS_eval hF hG hE hy
   unfold mm2 at h
   split at h
   ·cases h
    intro dst pos af g
    simp [execOp, resolve, invoke, builtin, hx', hy', Builtin.min_, Builtin.min2, dv]
   ·contradiction
   ·cases h
  ·rename_i x y z h1
   obtain ⟨vx, hx, h⟩ := ob_some h
   obtain ⟨vy, hy, h⟩ := ob_some h
   obtain ⟨vz, hz, h⟩ := ob_some h
   obtain ⟨m, hm, h⟩ := ob_some h
   rw [ea, h1]
   have hx' := evS_eval hF hG hE hx
   have hy' := evS_eval hF hG hE hy
   have hz' := evS_eval hF hG hE hz
   unfold mm2 at hm
   split at hm
   ·cases hm
    cases vz <;> first | (cases h; done) | skip
    cases h
    intro dst pos af g
    simp [execOp, resolve, invoke, builtin, hx', hy', hz', Builtin.min_, Builtin.min2, dv]
   ·contradiction
   ·cases hm
  ·cases h
 ·split at h
  ·rename_i x y h1
   obtain ⟨vx, hx, h⟩ := ob_some h
   obtain ⟨vy, hy, h⟩ := ob_some h
   rw [ea, h1]
   have hx' := evS_eval hF hG hE hx
   have hy' := evS_eval hF hG hE hy
   unfold mm2 at h
   split at h
   ·contradiction
   ·cases h
    intro dst pos af g
    simp [execOp, resolve, invoke, builtin, hx', hy', Builtin.max_, Builtin.max2, dv]
   ·cases h
  ·cases h
 ·cases h
def isLoad (op : Op) : Bool := match op with
 | .load _ _ => true
 | _ => false
theorem sop_any {w' : World} {op : Op} {v : SV} (hF : FrS N D σ T a) (hM : MemS w0 O σ M w) (hG : MemG σ M) (hE : Ext σ ρ) (hl : isLoad op = false) (h : sop P T M op = some v) : Sl P op ty a w' (dv ρ v) := by
 have E : ∀ {x : Operand} {u : SV}, evS T M x = some u → Eng.ev (full a) x = some (dv ρ u) := fun h => evS_ok hF hG hE h
 have V : ∀ {x : Operand} {u : SV}, evS T M x = some u → a.eval x = dv ρ u := fun h => evS_eval hF hG hE h
 unfold sop at h
 split at h
 ·intro dst pos af g; simp [execOp, V h]
 ·intro dst pos af g; simp [execOp, V h]
 ·unfold sPick at h
  obtain ⟨b, hb, h⟩ := ob_some h
  have e1 := V hb
  unfold bPick at h
  split at h
  ·intro dst pos af g; simp [execOp, e1, dv, asBool, V h]
  ·intro dst pos af g; simp [execOp, e1, dv, asBool, V h]
  ·cases h
 ·unfold sExtract at h
  obtain ⟨u, hu, h⟩ := ob_some h
  have e1 := V hu
  unfold bExtract at h
  split at h
  ·rename_i l
   rw [nthS_eq] at h
   have := dvs_get (ρ := ρ) h
   intro dst pos af g; simp [execOp, e1, dv, Instr.extract, this]
  ·cases h
 ·unfold sNilC at h
  obtain ⟨u, hu, h⟩ := ob_some h
  have e1 := V hu
  unfold bNil at h
  split at h
  ·cases h; intro dst pos af g; simp [execOp, e1, dv]
  ·cases h; intro dst pos af g; simp [execOp, e1, dv]
  ·cases h; intro dst pos af g; simp [execOp, e1, dv]
  ·cases h; intro dst pos af g; simp [execOp, e1, dv]
  ·cases h
 ·unfold sFld at h
  obtain ⟨u, hu, h⟩ := ob_some h
  have e1 := E hu
  unfold bFld at h
  split at h
  ·obtain ⟨k, hk, h⟩ := ob_some h
   cases h
   exact Sl.of (F := fun _ => True) (fun d pos af => Yl.fieldAddr hk e1) trivial
  ·cases h
 ·unfold sField at h
  obtain ⟨u, hu, h⟩ := ob_some h
  have e1 := V hu
  unfold bField at h
  split at h
  ·rename_i l
   obtain ⟨⟨ft, off⟩, hk, h⟩ := ob_some h
   obtain ⟨fields, fd, hu2, hq, h3, h4⟩ := fldTB_some hk
   have hp := sPart_run (P := P) (ρ := ρ) (w := w') h
   dsimp only at hp
   rw [← h3, ← h4] at hp
   intro dst pos af g; simp [execOp, e1, dv, Instr.field, run_underlying hu2, hq, asAgg, hp]
  ·cases h
 ·unfold sIxA at h
  obtain ⟨u, hu, h⟩ := ob_some h
  obtain ⟨u2, hu2, h⟩ := ob_some h
  exact Sl.indexAddr hM hE (E hu) (E hu2) h
 ·unfold sIx at h
  obtain ⟨u, hu, h⟩ := ob_some h
  obtain ⟨u2, hu2, h⟩ := ob_some h
  exact Sl.index (E hu) (E hu2) h
 ·obtain ⟨u, hu, h⟩ := ob_some h
  cases hl
 ·unfold sMkI at h
  obtain ⟨hc, h⟩ := must_some h
  obtain ⟨u, hu, h⟩ := ob_some h
  unfold bIfc at h
  cases h
  exact Sl.of (F := fun _ => True) (fun d pos af => Yl.makeIface hc (E hu)) trivial
 ·rename_i fn us cs
  unfold sMkF at h
  split at h
  ·obtain ⟨u, hu, h⟩ := ob_some h
   obtain ⟨c, hc, h⟩ := ob_some h
   cases h
   have e1 : us = us.toList.toArray := by simp
   have e2 : cs = cs.toList.toArray := by simp
   rw [e1, e2]
   exact Sl.of (F := fun _ => True) (fun d pos af => Yl.makeFunc (evsS_ok hF hG hE hu) (evsS_ok hF hG hE hc)) trivial
  ·cases h
 ·exact Sl.build hF hG hE h
 ·unfold sBn at h
  obtain ⟨u, hu, h⟩ := ob_some h
  obtain ⟨u2, hu2, h⟩ := ob_some h
  rcases orE_ok h with h | h
  ·exact Sl.bin (E hu) (E hu2) h
  ·exact Sl.nilRow hM hE (E hu) (E hu2) h
 ·unfold sUn at h
  obtain ⟨u, hu, h⟩ := ob_some h
  obtain ⟨g, hg, h⟩ := ob_some h
  have e1 := V hu
  rw [gr_ok hg] at e1
  refine Sl.grd (fun dst pos af g => ?_) h
  simp only [execOp, e1]
 ·unfold sCv at h
  obtain ⟨u, hu, h⟩ := ob_some h
  exact Sl.conv (V hu) h
 ·unfold sSl at h
  obtain ⟨u, hu, h⟩ := ob_some h
  exact Sl.slice hF hM hG hE (V hu) h
 ·rename_i c
  obtain ⟨callee, args, tys⟩ := c
  unfold sCl at h
  dsimp only at h
  split at h
  ·exact sCallB_ok hF hG hE h
  ·cases h
 ·cases h
theorem sop_ok {op : Op} {v : SV} (hF : FrS N D σ T a) (hM : MemS w0 O σ M w) (hG : MemG σ M) (hE : Ext σ ρ) (h : sop P T M op = some v) : Sl P op ty a w (dv ρ v) := by
 cases hl : isLoad op with
 | false => exact sop_any hF hM hG hE hl h
 | true =>
  cases op with
  | load t x =>
   obtain ⟨u, hu, h⟩ := ob_some h
   exact Sl.load hM hE (evS_eval hF hG hE hu) h
  | _ => cases hl
end
end Go.X
namespace Go.Eng
open Go Go.RowKit
section
variable {w0 : World} {O : List Nat} {C : List Chunk}
theorem St.split {w : World} {x c d : Chunk} (h : St w0 O (x :: C) w) (hc : x.ok w → c.ok w) (hd : x.ok w → d.ok w) (hfc : ∀ k, c.fp k → x.fp k) (hfd : ∀ k, d.fp k → x.fp k) (hdis : x.ok w → ∀ k, c.fp k → ¬ d.fp k) : St w0 O (c :: d :: C) w := by
 have hx := h.ok x (List.mem_cons_self ..)
 have hD := List.pairwise_cons.1 h.disj
 refine ⟨h.os, h.tape, h.output, h.size, h.old, fun y hy => ?_, fun y hy k hk => ?_, ?_⟩
 ·rcases List.mem_cons.1 hy with rfl | hy
  ·exact hc hx
  ·rcases List.mem_cons.1 hy with rfl | hy
   ·exact hd hx
   ·exact h.ok y (List.mem_cons_of_mem _ hy)
 ·rcases List.mem_cons.1 hy with rfl | hy
  ·exact h.bnd x (List.mem_cons_self ..) k (hfc k hk)
  ·rcases List.mem_cons.1 hy with rfl | hy
   ·exact h.bnd x (List.mem_cons_self ..) k (hfd k hk)
   ·exact h.bnd y (List.mem_cons_of_mem _ hy) k hk
 ·refine List.Pairwise.cons (fun y hy k hk hk' => ?_) (List.Pairwise.cons (fun y hy k hk hk' => hD.1 y hy k (hfd k hk) hk') hD.2)
  rcases List.mem_cons.1 hy with rfl | hy
  ·exact hdis hx k hk hk'
  ·exact hD.1 y hy k (hfc k hk) hk'
end
open Go Go.RowKit
section
variable {P : Program} {w0 : World} {O : List Nat} {ops : Array Oper} {Q : Exit → Act → World → Prop} {N : Nat} {D : List Deferred} {L : FL} {C : List Chunk} {K : Act → World → Prop}
variable {ty : TypeId} {pos : String} {af : Array Edge}
theorem WL.storeRow1 {t : TypeId} {n sz cap : Nat} {x y : Operand} {g off : Nat} {xs xs' : List Value} {v : Value} {e : TypeId} {C' : List Chunk} (ht : One P t) (hx : ev L x = some (.pointer (some ⟨g, off, none⟩))) (hy : ev L y = some v) (hv : v.oneCell' = true)
  (hu : Upd (rowc (.slice (some ⟨g, 0, none⟩) n cap) n e sz xs) (rowc (.slice (some ⟨g, 0, none⟩) n cap) n e sz xs') C C') (hn : SetN xs off [v] xs') (h : WA w0 O K N D L C') :
  WK P w0 O ops Q ⟨none, .store t x y, ty, pos, af, none⟩ K N D L C := fun a w hF hS => by
 obtain ⟨hlen, hr⟩ := (show w.ownsRow 0 e sz (.slice (some ⟨g, 0, none⟩) n cap) n xs from hS.ok _ hu.mem)
 rcases hr with ⟨h1, _⟩ | ⟨g', cap', cur, h1, _, hh, hnc, hcm, hcs, htk⟩
 ·cases h1
 ·injection h1 with h1 h2 h3
  injection h1 with h1
  injection h1 with h1
  subst h1; subst h3
  have hsplit : cur.toList = xs ++ cur.toList.drop (n * sz) := by rw [← htk, List.take_append_drop]
  have hn' : SetN cur.toList off [v] (xs' ++ cur.toList.drop (n * sz)) := by
   have := hn.append (cur.toList.drop (n * sz))
   rw [← hsplit] at this
   exact this
  have hh' : w.heap[g]? = some (.cells cur.toList.toArray e (0, 0)) := by rw [Array.toArray_toList]; exact hh
  have hr := run_storeN (P := P) (t := t) (vs := [v]) ht.size (cells_one hv) (by simpa using hv) hh' hn'
  have hxl : xs'.length = xs.length := hn.len
  have hSt : St w0 O C' (w.setRow g (xs' ++ cur.toList.drop (n * sz)).toArray) := by
   refine hS.rowUpd (b := g) hu (fun k => ?_) (fun k => ?_) ?_
   ·constructor
    ·intro hk; exact (Option.some.inj hk).symm
    ·intro hk; rw [hk]; rfl
   ·constructor
    ·intro hk; exact (Option.some.inj hk).symm
    ·intro hk; rw [hk]; rfl
   ·refine ⟨by rw [hxl, hlen], .inr ⟨g, cap, (xs' ++ cur.toList.drop (n * sz)).toArray, rfl, Nat.zero_le _, setRow_heap w g _ _ e _ hh', hnc, hcm, ?_, ?_⟩⟩
    ·have := congrArg List.length hsplit
     simp at this ⊢
     omega
    ·have e2 : xs'.length = n * sz := by rw [hxl, hlen]
     show (xs' ++ cur.toList.drop (n * sz)).take (n * sz) = xs'
     rw [List.take_left' e2]
  exact wpo_skip rfl (by simp [execOp, hF.ev hx, hF.ev hy, hr]) (h _ _ hF hSt)
end
end Go.Eng
namespace Go.X
open Go Go.Eng Go.RowKit Dg Go.Proofs.YtndpdhamadiopaaGreatDoor
section
variable {P : Program} {w0 w : World} {O : List Nat} {N : Nat} {D : List SD} {σ : Asg} {T : TrS} {M : TrB} {a : Act} {ρ : Rho} {ty : TypeId}
theorem memC_set {s : Nat} {b : Blk} (hlt : s < 2 ^ 40) {c : Nat → Option Chunk} (hc : ∀ t, t ≠ s → c t = (M.get t).map (bch ρ t)) {x : Chunk} (hx : x = bch ρ s b) {C : List Chunk} (h : St w0 O (fam (fun t => if t = s then some x else c t) :: C) w) : St w0 O (memC ρ (M.set b s) :: C) w := by
 refine fam_eq (fun t => ?_) h
 rw [TrB.get_set _ _ _ _ hlt]
 by_cases ht : t = s
 ·subst ht; rw [if_pos rfl, if_pos rfl, hx]; rfl
 ·rw [if_neg ht, if_neg ht, hc t ht]
theorem mem_out {s : Nat} {b : Blk} (hb : M.get s = some b) {C : List Chunk} (h : St w0 O (memC ρ M :: C) w) : St w0 O (bch ρ s b :: fam (fun t => if t = s then none else (M.get t).map (bch ρ t)) :: C) w :=
 fam_split h (by rw [hb]; rfl)
theorem mem_in {s : Nat} {b : Blk} (hlt : s < 2 ^ 40) {C : List Chunk} (h : St w0 O (bch ρ s b :: fam (fun t => if t = s then none else (M.get t).map (bch ρ t)) :: C) w) : St w0 O (memC ρ (M.set b s) :: C) w :=
 memC_set hlt (fun t ht => by rw [if_neg ht]) rfl (fam_join (by rw [if_pos rfl]) h)
theorem mem_new {s : Nat} {b : Blk} (hlt : s < 2 ^ 40) (hs : M.get s = none) {x : Chunk} (hx : x = bch ρ s b) {C : List Chunk} (h : St w0 O (x :: memC ρ M :: C) w) : St w0 O (memC ρ (M.set b s) :: C) w :=
 memC_set hlt (c := fun t => (M.get t).map (bch ρ t)) (fun t ht => rfl) hx (fam_join (by rw [hs]; rfl) h)
theorem MemG.set {b : Blk} {s : Nat} (hG : MemG σ M) (hlt : s < 2 ^ 40) (hb : ∀ cs, b ≠ .ro cs) {τ : Asg} (hle : σ.le τ) : MemG τ (M.set b s) := ⟨fun t cs ht => by
 rw [TrB.get_set _ _ _ _ hlt] at ht
 split at ht
 ·cases ht; exact absurd rfl (hb cs)
 ·obtain ⟨p, h1, h2⟩ := hG.glo t cs ht
  exact ⟨p, hle t p h1, h2⟩⟩
abbrev asB (b : Nat) : As := ⟨some b, 0, .bool false, none, rfl⟩
theorem MemS.alloc (hM : MemS w0 O σ M w) {s : Nat} (hs : M.get s = none) (hlt : s < 2 ^ 40) {cs : List SV} {us : List Value} (hc : ∀ ρ, Ext σ ρ → dvs ρ cs = us) (e : TypeId) :
  MemS w0 O (σ.put s (asB w.heap.size)) (M.set (.cells cs e) s) (w.alloc (.cells us.toArray e)) := by
 refine ⟨fun ρ hE => ?_, fun t => ?_⟩
 ·have hE' := hE.le (Asg.put_le ((hM.dom s).1 hs))
  have hr := Asg.put_at hE
  refine mem_new hlt hs ?_ ((hM.st ρ hE').alloc us e)
  show pt _ us e = pt (bl ρ s) (dvs ρ cs) e
  rw [hc ρ hE', bl, hr]; rfl
 ·rw [TrB.get_set _ _ _ _ hlt]
  unfold Asg.put
  split
  ·simp
  ·exact hM.dom t
structure Nw (P : Program) (w0 : World) (O : List Nat) (σ : Asg) (op : Op) (ty : TypeId) (a : Act) (w : World) (v : Option SV) (M' : TrB) : Prop where
 run : ∃ (τ : Asg) (w' : World), σ.le τ ∧ MemS w0 O τ M' w' ∧ MemG τ M' ∧ ∀ dst pos af g, match v with
  | some x => ∃ u, (∀ ρ, Ext τ ρ → u = dv ρ x) ∧ (execOp a.eval ⟨dst, op, ty, pos, af, g⟩).run P w = .ok (.value u) w'
  | none => (execOp a.eval ⟨dst, op, ty, pos, af, g⟩).run P w = .ok .skip w'
theorem Nw.new (hM : MemS w0 O σ M w) (hG : MemG σ M) {op : Op} {s : Nat} (hs : M.get s = none) (hlt : s < 2 ^ 40) {cs : List SV} {us : List Value} (hc : ∀ ρ, Ext σ ρ → dvs ρ cs = us) {e : TypeId} {x : SV} {u : Value}
  (hx : ∀ ρ : Rho, ρ s = asB w.heap.size → u = dv ρ x)
  (hr : ∀ dst pos af g, (execOp a.eval ⟨dst, op, ty, pos, af, g⟩).run P w = .ok (.value u) (w.alloc (.cells us.toArray e))) :
  Nw P w0 O σ op ty a w (some x) (M.set (.cells cs e) s) := ⟨⟨_, _, Asg.put_le ((hM.dom s).1 hs), hM.alloc hs hlt hc e, hG.set hlt (fun _ h => by cases h) (Asg.put_le ((hM.dom s).1 hs)), fun dst pos af g => ⟨u, fun ρ hE => hx ρ (Asg.put_at hE), hr dst pos af g⟩⟩⟩
noncomputable def newS (M : TrB) (n : Nat) : Option Nat := match M.get n with
 | none => must (Nat.blt n 1000000000) (some n)
 | some _ => none
theorem newS_ok {n m : Nat} (h : newS M n = some m) : m = n ∧ M.get n = none ∧ n < 2 ^ 40 := by
 unfold newS at h
 split at h
 ·rename_i hn
  obtain ⟨h1, h⟩ := must_some h
  cases h
  exact ⟨rfl, hn, Nat.lt_trans (Nat.le_of_ble_eq_true h1) (by decide)⟩
 ·cases h
abbrev NR := Option SV × TrB × Nat
noncomputable def nAlloc (P : Program) (M : TrB) (n : Nat) (e : TypeId) : Option NR := ob (newS M n) fun s => ob (zeroB P e) fun zs => ob (cvs zs) fun cs => some (some (.ptr s 0), M.set (.cells cs e) s, Nat.succ n)
theorem nAlloc_ok {n n' : Nat} {e : TypeId} {v : Option SV} {M' : TrB} (hM : MemS w0 O σ M w) (hG : MemG σ M) (h : nAlloc P M n e = some (v, M', n')) : Nw P w0 O σ (.alloc e) ty a w v M' := by
 obtain ⟨s, hs, h⟩ := ob_some h
 obtain ⟨zs, hz, h⟩ := ob_some h
 obtain ⟨cs, hc, h⟩ := ob_some h
 cases h
 obtain ⟨rfl, h1, h2⟩ := newS_ok hs
 obtain ⟨z, hz1, hz2⟩ := run_zeroValue hz w
 refine Nw.new hM hG h1 h2 (fun ρ _ => cvs_ok hc ρ) (u := .pointer (some ⟨w.heap.size, 0, none⟩)) (fun ρ hr => by rw [dv, bl, hr]; rfl) (fun dst pos af g => ?_)
 simp [execOp, Instr.alloc, hz1, newVar, newRow, hz2]
noncomputable def nBox (T : TrS) (M : TrB) (n : Nat) (e : TypeId) (x : Operand) : Option NR := ob (newS M n) fun s => ob (evS T M x) fun v => ob (cellsS v) fun cs => some (some (.ptr s 0), M.set (.cells cs e) s, Nat.succ n)
theorem cellsS_dv {x : SV} {cs : List SV} (h : cellsS x = some cs) (ρ : Rho) : (dv ρ x).cells = (dvs ρ cs).toArray := by
 have one : ∀ y : SV, oneS y = true → (dv ρ y).cells = (dvs ρ [y]).toArray := fun y hy => by
  rw [cells_one (oneS_ok hy)]; rfl
 cases x with
 | agg l => cases h; rfl
 | tup l => cases h
 | _ => cases h; exact one _ rfl
theorem nBox_ok {n n' : Nat} {e : TypeId} {x : Operand} {v : Option SV} {M' : TrB} (hF : FrS N D σ T a) (hM : MemS w0 O σ M w) (hG : MemG σ M) (h : nBox T M n e x = some (v, M', n')) : Nw P w0 O σ (.box e x) ty a w v M' := by
 obtain ⟨s, hs, h⟩ := ob_some h
 obtain ⟨vx, hx, h⟩ := ob_some h
 obtain ⟨cs, hc, h⟩ := ob_some h
 cases h
 obtain ⟨rfl, h1, h2⟩ := newS_ok hs
 have key : ∀ ρ, Ext σ ρ → dvs ρ cs = (a.eval x).cells.toList := fun ρ hE => by
  rw [evS_eval hF hG hE hx, cellsS_dv hc]
 refine Nw.new hM hG h1 h2 key (u := .pointer (some ⟨w.heap.size, 0, none⟩)) (fun ρ hr => by rw [dv, bl, hr]; rfl) (fun dst pos af g => ?_)
 simp [execOp, Instr.box, newVar, newRow]
end
end Go.X
namespace Go.X
open Go Go.Eng Go.RowKit Dg Go.Proofs.YtndpdhamadiopaaGreatDoor
section
variable {P : Program} {w0 w : World} {O : List Nat} {N : Nat} {D : List Deferred} {σ : Asg} {T : TrS} {M : TrB} {a : Act} {ρ : Rho} {ty : TypeId} {L : FL} {C : List Chunk} {K : Act → World → Prop} {d : Nat} {pos : String} {af : Array Edge} {op : Op}
abbrev noQ : Exit → Act → World → Prop := fun _ _ _ => False
theorem noQ_out : ¬ LetsOut noQ := fun ⟨_, _, h⟩ => h
theorem grabV {s : Sem Value} (hs : execOp a.eval ⟨some d, op, ty, pos, af, none⟩ = (do pure (.value (← s)))) (h : WK P w0 O #[] noQ ⟨some d, op, ty, pos, af, none⟩ K N D L C) (hF : Fr N D L a) (hS : St w0 O C w) :
  ∃ u w', s.run P w = .ok u w' ∧ K (a.put (some d) u) w' := by
 have h1 := h a w hF hS
 unfold wpO at h1
 rw [if_pos (by simp [Region.wanted])] at h1
 rcases h1 with h1 | ⟨_, h1⟩
 ·unfold Oper.wp at h1
  rw [hs] at h1
  cases hr : s.run P w with
  | ok u w' =>
   simp only [Sem.run_bind, hr, Result.andThen_ok, Sem.run_pure, Oper.upon_value] at h1
   exact ⟨u, w', rfl, h1⟩
  | halt e w' =>
   exfalso
   simp only [Sem.run_bind, hr, Result.andThen_halt] at h1
   unfold Oper.upon at h1
   split at h1 <;> first | exact h1 | (rename_i he; cases he; done) | skip
 ·exact absurd h1 noQ_out
theorem grabU {s : Sem Unit} (hs : execOp a.eval ⟨none, op, ty, pos, af, none⟩ = (do s; pure .skip)) (h : WK P w0 O #[] noQ ⟨none, op, ty, pos, af, none⟩ K N D L C) (hF : Fr N D L a) (hS : St w0 O C w) :
  ∃ w', s.run P w = .ok () w' ∧ K (a.put none undef) w' := by
 have h1 := h a w hF hS
 unfold wpO at h1
 rw [if_pos (by simp [Region.wanted])] at h1
 rcases h1 with h1 | ⟨_, h1⟩
 ·unfold Oper.wp at h1
  rw [hs] at h1
  cases hr : s.run P w with
  | ok u w' =>
   simp only [Sem.run_bind, hr, Result.andThen_ok, Sem.run_pure, Oper.upon_skip] at h1
   exact ⟨w', rfl, h1⟩
  | halt e w' =>
   exfalso
   simp only [Sem.run_bind, hr, Result.andThen_halt] at h1
   unfold Oper.upon at h1
   split at h1 <;> first | exact h1 | (rename_i he; cases he; done) | skip
 ·exact absurd h1 noQ_out
end
end Go.X
namespace Go.X
open Go Go.Eng Go.RowKit Dg Go.Proofs.YtndpdhamadiopaaGreatDoor
section
variable {P : Program} {w0 w : World} {O : List Nat} {N : Nat} {D : List SD} {σ : Asg} {T : TrS} {M M' : TrB} {a : Act} {ρ : Rho} {ty : TypeId} {op : Op}
theorem Nw.per (hM : MemS w0 O σ M w) {s0 : Nat} (hs0 : M.get s0 = none) (f : Value → As) (hd : ∀ t, M'.get t = none ↔ M.get t = none ∧ t ≠ s0) (hG : ∀ τ, σ.le τ → MemG τ M') {s : Sem Value} {x : SV}
  (hs : ∀ dst pos af g, execOp a.eval ⟨dst, op, ty, pos, af, g⟩ = (do pure (.value (← s)))) (per : ∀ ρ, Ext σ ρ → ∃ u w', s.run P w = .ok u w' ∧ (ρ s0 = f u → u = dv ρ x ∧ St w0 O [memC ρ M'] w')) : Nw P w0 O σ op ty a w (some x) M' := by
 obtain ⟨u, w', hr, _⟩ := per σ.rho σ.rho_ext
 have hle : σ.le (σ.put s0 (f u)) := Asg.put_le ((hM.dom s0).1 hs0)
 have key : ∀ ρ, Ext (σ.put s0 (f u)) ρ → u = dv ρ x ∧ St w0 O [memC ρ M'] w' := fun ρ hE => by
  obtain ⟨u2, w2, hr2, h2⟩ := per ρ (hE.le hle)
  rw [hr] at hr2
  cases hr2
  exact h2 (Asg.put_at hE)
 refine ⟨⟨σ.put s0 (f u), w', hle, ⟨fun ρ hE => (key ρ hE).2, fun t => ?_⟩, hG _ hle, fun dst pos af g => ⟨u, fun ρ hE => (key ρ hE).1, by rw [hs]; simp [hr]⟩⟩⟩
 rw [hd t]
 unfold Asg.put
 by_cases h2 : t = s0
 ·subst h2; simp
 ·rw [if_neg h2, hM.dom t]; simp [h2]
theorem Nw.perV (hM : MemS w0 O σ M w) (hd : ∀ t, M'.get t = none ↔ M.get t = none) (hG : MemG σ M') {s : Sem Value} {x : SV}
  (hs : ∀ dst pos af g, execOp a.eval ⟨dst, op, ty, pos, af, g⟩ = (do pure (.value (← s)))) (per : ∀ ρ, Ext σ ρ → ∃ u w', s.run P w = .ok u w' ∧ u = dv ρ x ∧ St w0 O [memC ρ M'] w') : Nw P w0 O σ op ty a w (some x) M' := by
 obtain ⟨u, w', hr, _⟩ := per σ.rho σ.rho_ext
 have key : ∀ ρ, Ext σ ρ → u = dv ρ x ∧ St w0 O [memC ρ M'] w' := fun ρ hE => by
  obtain ⟨u2, w2, hr2, h2⟩ := per ρ hE
  rw [hr] at hr2
  cases hr2
  exact h2
 exact ⟨⟨σ, w', Asg.le.refl σ, ⟨fun ρ hE => (key ρ hE).2, fun t => (hd t).trans (hM.dom t)⟩, hG, fun dst pos af g => ⟨u, fun ρ hE => (key ρ hE).1, by rw [hs]; simp [hr]⟩⟩⟩
theorem Nw.perU (hM : MemS w0 O σ M w) (hd : ∀ t, M'.get t = none ↔ M.get t = none) (hG : MemG σ M') {s : Sem Unit}
  (hs : ∀ dst pos af g, execOp a.eval ⟨dst, op, ty, pos, af, g⟩ = (do s; pure .skip)) (per : ∀ ρ, Ext σ ρ → ∃ w', s.run P w = .ok () w' ∧ St w0 O [memC ρ M'] w') : Nw P w0 O σ op ty a w none M' := by
 obtain ⟨w', hr, _⟩ := per σ.rho σ.rho_ext
 have key : ∀ ρ, Ext σ ρ → St w0 O [memC ρ M'] w' := fun ρ hE => by
  obtain ⟨w2, hr2, h2⟩ := per ρ hE
  rw [hr] at hr2
  cases hr2
  exact h2
 exact ⟨⟨σ, w', Asg.le.refl σ, ⟨fun ρ hE => key ρ hE, fun t => (hd t).trans (hM.dom t)⟩, hG, fun dst pos af g => by dsimp only; rw [hs]; simp [hr]⟩⟩
theorem set_dom {b b0 : Blk} {s : Nat} (hlt : s < 2 ^ 40) (hs : M.get s = some b0) : ∀ t, (M.set b s).get t = none ↔ M.get t = none := fun t => by
 rw [TrB.get_set _ _ _ _ hlt]
 split
 ·rename_i e; subst e; simp [hs]
 ·exact Iff.rfl
theorem set_dom2 {b : Blk} {s : Nat} (hlt : s < 2 ^ 40) : ∀ t, (M.set b s).get t = none ↔ M.get t = none ∧ t ≠ s := fun t => by
 rw [TrB.get_set _ _ _ _ hlt]
 split
 ·rename_i h; simp [h]
 ·rename_i h; simp [h]
theorem hol_lay {cs : List (Option SV)} {us : List Value} {vs : List SV} {off : Nat} (hl : us.length = cs.length) (h : ∀ (j : Nat) (x : SV), cs[j]? = some (some x) → us[j]? = some (dv ρ x)) (hle : off + vs.length ≤ cs.length) (j : Nat) (x : SV)
  (hx : (cs.take off ++ vs.map some ++ cs.drop (off + vs.length))[j]? = some (some x)) : (us.take off ++ dvs ρ vs ++ us.drop (off + (dvs ρ vs).length))[j]? = some (dv ρ x) := by
 have l1 : (cs.take off).length = off := by rw [List.length_take]; omega
 have l2 : (us.take off).length = off := by rw [List.length_take]; omega
 rw [dvs_len]
 rw [List.append_assoc] at hx ⊢
 by_cases h1 : j < off
 ·rw [List.getElem?_append_left (by rw [l1]; exact h1), List.getElem?_take_of_lt h1] at hx
  rw [List.getElem?_append_left (by rw [l2]; exact h1), List.getElem?_take_of_lt h1]
  exact h j x hx
 ·rw [List.getElem?_append_right (by rw [l1]; omega), l1] at hx
  rw [List.getElem?_append_right (by rw [l2]; omega), l2]
  by_cases h2 : j - off < vs.length
  ·rw [List.getElem?_append_left (by rw [List.length_map]; exact h2), List.getElem?_map] at hx
   rw [List.getElem?_append_left (by rw [dvs_len]; exact h2)]
   cases hq : vs[j - off]? with
   | none => rw [hq] at hx; cases hx
   | some y =>
    rw [hq] at hx
    simp only [Option.map_some, Option.some.injEq] at hx
    subst hx
    exact dvs_get hq
  ·rw [List.getElem?_append_right (by rw [List.length_map]; omega), List.length_map, List.getElem?_drop] at hx
   rw [List.getElem?_append_right (by rw [dvs_len]; omega), dvs_len, List.getElem?_drop]
   exact h _ x hx
noncomputable def nStore (P : Program) (T : TrS) (M : TrB) (n : Nat) (t : TypeId) (x y : Operand) : Option NR :=
 ob (evS T M x) fun p => ob (evS T M y) fun v => match p with
 | .ptr s off => must (Nat.blt s 1000000000) (ob (aggB P t) fun g => ob (sizeB P t) fun z => ob (cellsS v) fun vs => must (Nat.beq vs.length z && vs.all oneS && (match v with | .agg _ => g | _ => !g)) (ob (M.get s) fun b => match b with
  | .cells cs e => must (Nat.ble (off + z) cs.length) (some (none, M.set (.cells (lay cs vs off) e) s, n))
  | .row xs m e sz => must (Nat.ble (off + z) xs.length && Nat.blt 0 m) (some (none, M.set (.row (lay xs vs off) m e sz) s, n))
  | .hol cs e => must (Nat.ble (off + z) cs.length) (some (none, M.set (.hol (cs.take off ++ vs.map some ++ cs.drop (off + vs.length)) e) s, n))
  | _ => none))
 | _ => none
theorem nStore_ok {n n' : Nat} {t : TypeId} {x y : Operand} {v : Option SV} (hF : FrS N D σ T a) (hM : MemS w0 O σ M w) (hG : MemG σ M) (h : nStore P T M n t x y = some (v, M', n')) : Nw P w0 O σ (.store t x y) ty a w v M' := by
 obtain ⟨p, hp, h⟩ := ob_some h
 obtain ⟨u, hu, h⟩ := ob_some h
 cases p with
 | ptr s off =>
  dsimp only at h
  obtain ⟨hlt, h⟩ := must_some h
  have hlt : s < 2 ^ 40 := Nat.lt_trans (Nat.le_of_ble_eq_true hlt) (by decide)
  obtain ⟨g, hg, h⟩ := ob_some h
  obtain ⟨z, hz, h⟩ := ob_some h
  obtain ⟨vs, hvs, h⟩ := ob_some h
  obtain ⟨hb, h⟩ := must_some h
  simp only [Bool.and_eq_true] at hb
  obtain ⟨⟨hlen, hone⟩, hag⟩ := hb
  have hlen := Nat.eq_of_beq_eq_true hlen
  obtain ⟨b, hbk, h⟩ := ob_some h
  have hs9 : ∀ dst pos af g, execOp a.eval ⟨dst, .store t x y, ty, pos, af, g⟩ = (do Instr.storeAt t (a.eval x) (a.eval y); pure .skip) := fun _ _ _ _ => rfl
  split at h
  ·rename_i cs e
   obtain ⟨hle, h⟩ := must_some h
   have hle := Nat.le_of_ble_eq_true hle
   cases h
   refine Nw.perU hM (set_dom hlt hbk) (hG.set hlt (fun _ h => by cases h) (Asg.le.refl σ)) hs9 (fun ρ hE => ?_)
   have hS := mem_out hbk (hM.st ρ hE)
   have hx := evS_eval hF hG hE hp
   have hy := evS_eval hF hG hE hu
   have hsn := setN_lay (dvs ρ cs) (dvs ρ vs) off (by rw [dvs_len, dvs_len]; omega)
   rw [← dvs_lay] at hsn
   have hr := run_storeN (P := P) (t := t) (v := dv ρ u) (by rw [hz, dvs_len, hlen]) (cellsS_dv hvs ρ) (oneAll hone) (hS.heap (List.mem_cons_self ..)) hsn
   refine ⟨_, by rw [hx, hy]; exact hr, mem_in hlt (hS.row (Upd.here))⟩
  ·rename_i xs m e sz
   obtain ⟨hle, h⟩ := must_some h
   rw [Bool.and_eq_true] at hle
   have hm : 0 < m := Nat.le_of_ble_eq_true hle.2
   have hle := Nat.le_of_ble_eq_true hle.1
   cases h
   refine Nw.perU hM (set_dom hlt hbk) (hG.set hlt (fun _ h => by cases h) (Asg.le.refl σ)) hs9 (fun ρ hE => ?_)
   have hok := hM.ok hE hbk
   have hS := mem_out hbk (hM.st ρ hE)
   obtain ⟨hbb, _⟩ := row_blk hok hm
   have hch : ∀ ys : List SV, bch ρ s (.row ys m e sz) = rowc (.slice (some ⟨bl ρ s, 0, none⟩) m (ρ s).c) m e sz (dvs ρ ys) := fun ys => by
    show rowc (.slice (ad ρ s) m (ρ s).c) m e sz (dvs ρ ys) = _
    unfold ad; rw [hbb]; rfl
   rw [hch] at hS
   have hx := evS_ok hF hG hE hp
   have hy := evS_ok hF hG hE hu
   have hsn := setN_lay (dvs ρ xs) (dvs ρ vs) off (by rw [dvs_len, dvs_len]; omega)
   rw [← dvs_lay] at hsn
   have fin : ∀ {w'}, St w0 O [rowc (.slice (some ⟨bl ρ s, 0, none⟩) m (ρ s).c) m e sz (dvs ρ (lay xs vs off)), fam (fun t => if t = s then none else (M.get t).map (bch ρ t))] w' → St w0 O [memC ρ (M.set (.row (lay xs vs off) m e sz) s)] w' := fun h => by
    rw [← hch] at h
    exact mem_in hlt h
   have hex : ∀ pos af, execOp a.eval ⟨none, .store t x y, ty, pos, af, none⟩ = (do Instr.storeAt t (a.eval x) (a.eval y); pure .skip) := fun _ _ => rfl
   cases u with
   | agg l =>
    have hg1 : g = true := hag
    cases hvs
    subst hg1
    obtain ⟨w', hr, hK⟩ := grabU (hex "" #[]) (WL.storeRow (K := fun _ w' => St w0 O [memC ρ (M.set (.row (lay xs vs off) m e sz) s)] w') ⟨hg, hz⟩ hx hy (by rw [dvs_len]; exact hlen) (oneAll hone) hm Upd.here hsn (fun a2 w2 _ h2 => fin h2)) (Fr.full a) hS
    exact ⟨w', hr, hK⟩
   | tup l => cases hvs
   | _ =>
    have hg1 : g = false := by revert hag; cases g <;> simp
    cases hvs
    subst hg1
    have hz1 : sizeB P t = some 1 := by rw [hz, ← hlen]; rfl
    obtain ⟨w', hr, hK⟩ := grabU (hex "" #[]) (WL.storeRow1 (K := fun _ w' => St w0 O [memC ρ (M.set (.row (lay xs _ off) m e sz) s)] w') ⟨hg, hz1⟩ hx hy (oneS_ok rfl) Upd.here hsn (fun a2 w2 _ h2 => fin h2)) (Fr.full a) hS
    exact ⟨w', hr, hK⟩
  ·rename_i cs e
   obtain ⟨hle, h⟩ := must_some h
   have hle := Nat.le_of_ble_eq_true hle
   cases h
   refine Nw.perU hM (set_dom hlt hbk) (hG.set hlt (fun _ h => by cases h) (Asg.le.refl σ)) hs9 (fun ρ hE => ?_)
   obtain ⟨us, k1, k2, k3⟩ := (show (bch ρ s (.hol cs e)).ok w from hM.ok hE hbk)
   have hS := (mem_out hbk (hM.st ρ hE)).swap (c' := pt (bl ρ s) us e) (fun _ => k1) (fun k hk => hk)
   have hx := evS_eval hF hG hE hp
   have hy := evS_eval hF hG hE hu
   have hsn := setN_lay us (dvs ρ vs) off (by rw [dvs_len, k2, hlen]; exact hle)
   have hr := run_storeN (P := P) (t := t) (v := dv ρ u) (by rw [hz, dvs_len, hlen]) (cellsS_dv hvs ρ) (oneAll hone) (hS.heap (List.mem_cons_self ..)) hsn
   refine ⟨_, by rw [hx, hy]; exact hr, mem_in hlt ((hS.row (Upd.here)).swap (c' := bch ρ s (.hol (cs.take off ++ vs.map some ++ cs.drop (off + vs.length)) e)) (fun hok => ⟨_, hok, ?_, fun j x hx => hol_lay k2 k3 (by rw [hlen]; exact hle) j x hx⟩) (fun k hk => hk))⟩
   simp only [List.length_append, List.length_take, List.length_drop, dvs_len, List.length_map, k2]
  ·cases h
 | _ => cases h
end
end Go.X
namespace Go.X
open Go Go.Eng Go.RowKit Dg Go.Proofs.YtndpdhamadiopaaGreatDoor
section
variable {P : Program} {w0 w : World} {O : List Nat} {N : Nat} {D : List SD} {σ : Asg} {T : TrS} {M M' : TrB} {a : Act} {ρ : Rho} {ty : TypeId} {op : Op} {C : List Chunk}
theorem grabR {s : Sem Value} {R : Value → World → Prop} (hN : 0 < a.tmps.size) (hs : ∀ dst pos af g, execOp a.eval ⟨dst, op, ty, pos, af, g⟩ = (do pure (.value (← s))))
  (h : WK P w0 O #[] noQ ⟨some 0, op, ty, "", #[], none⟩ (fun a' w' => ∃ u, a'.tmps[0]? = some u ∧ R u w') a.tmps.size a.defers (full a) C) (hS : St w0 O C w) : ∃ u w', s.run P w = .ok u w' ∧ R u w' := by
 obtain ⟨u, w', hr, u2, h1, h2⟩ := grabV (hs _ _ _ _) h (Fr.full a) hS
 have : (a.put (some 0) u).tmps[0]? = some u := by simp [Act.put, hN]
 rw [this] at h1
 cases h1
 exact ⟨u, w', hr, h2⟩
theorem blt0 {n : Nat} (h : 0 < n) : Nat.blt 0 n = true := by unfold Nat.blt; rw [Nat.ble_eq]; exact h
theorem fr_at {d : Nat} {v : Value} {L : FL} {D : List Deferred} {a : Act} (h : Fr N D ((d, v) :: L) a) : a.tmps[d]? = some v := h.get d v (by simp [lk])
def asOf (u : Value) : As := match u with
 | .slice (some x) _ c => ⟨some x.block, c, .bool false, none, rfl⟩
 | .slice none _ c => ⟨none, c, .bool false, none, rfl⟩
 | .map (some b) => asB b
 | _ => default
noncomputable def nBuildS (P : Program) (T : TrS) (M : TrB) (n : Nat) (t : TypeId) (len : Nat) (parts : List (Nat × Operand)) : Option NR := match P.underlying t with
 | some (.slice e) => ob (newS M n) fun s => ob (sizeB P e) fun sz => ob (zeroB P e) fun zs => must (Nat.beq zs.length sz && Nat.blt 0 (len * sz) && Nat.ble (len * sz) 16777216) (ob (cvs zs) fun zc => ob (partsS T M parts) fun ps =>
   ob (builtS (fun i => some (i * sz, sz)) ps (List.replicate len zc).flatten) fun cs => some (some (.slx s 0 len len), M.set (.cells cs e) s, Nat.succ n))
 | _ => none
theorem dvs_rep (l : List SV) : ∀ n : Nat, dvs ρ (List.replicate n l).flatten = (List.replicate n (dvs ρ l)).flatten
 | 0 => rfl
 | n + 1 => by rw [List.replicate_succ, List.flatten_cons, dvs_append, dvs_rep l n, List.replicate_succ, List.flatten_cons]
theorem nBuildS_ok {n n' : Nat} {t : TypeId} {len : Nat} {parts : Array (Nat × Operand)} {v : Option SV} (hN : 0 < a.tmps.size) (hF : FrS N D σ T a) (hM : MemS w0 O σ M w) (hG : MemG σ M) (h : nBuildS P T M n t len parts.toList = some (v, M', n')) : Nw P w0 O σ (.buildSlice t len parts) ty a w v M' := by
 obtain ⟨pl⟩ := parts
 replace h : nBuildS P T M n t len pl = some (v, M', n') := h
 show Nw P w0 O σ (.buildSlice t len pl.toArray) ty a w v M'
 unfold nBuildS at h
 split at h
 ·rename_i e hu
  obtain ⟨s, hs, h⟩ := ob_some h
  obtain ⟨sz, hsz, h⟩ := ob_some h
  obtain ⟨zs, hzs, h⟩ := ob_some h
  obtain ⟨hb, h⟩ := must_some h
  obtain ⟨zc, hzc, h⟩ := ob_some h
  obtain ⟨ps, hps, h⟩ := ob_some h
  obtain ⟨cs, hcs, h⟩ := ob_some h
  cases h
  obtain ⟨rfl, h1, h2⟩ := newS_ok hs
  simp only [Bool.and_eq_true] at hb
  have hzl := Nat.eq_of_beq_eq_true hb.1.1
  obtain ⟨s9, hs9⟩ : ∃ s9 : Sem Value, ∀ dst pos af g, execOp a.eval ⟨dst, .buildSlice t len pl.toArray, ty, pos, af, g⟩ = (do pure (.value (← s9))) := ⟨_, fun _ _ _ _ => rfl⟩
  refine Nw.per hM h1 asOf (set_dom2 h2) (fun τ hle => hG.set h2 (fun _ h => by cases h) hle) hs9 (fun ρ hE => ?_)
  have hbt := builtS_ok (ρ := ρ) hcs
  rw [dvs_rep, cvs_ok hzc] at hbt
  obtain ⟨u, w', hr, b, hu2, hS⟩ := grabR (op := .buildSlice t len pl.toArray) (ty := ty) (s := s9) (R := fun u w' => ∃ b, u = .slice (some ⟨b, 0, none⟩) len len ∧ St w0 O [pt b (dvs ρ cs) e, memC ρ M] w') hN hs9
   (WL.buildSlice ⟨hu, hsz⟩ hzs hzl hb.1.2 hb.2 (partsS_ok hF hG hE hps) hbt (blt0 hN) (fun b a2 w2 hF2 hS2 => ⟨_, fr_at hF2, b, rfl, hS2⟩)) (hM.st ρ hE)
  refine ⟨u, w', hr, fun hρ => ?_⟩
  subst hu2
  have hbl : bl ρ s = b := by unfold bl; rw [hρ]; rfl
  refine ⟨by rw [dv, hbl], mem_new h2 h1 ?_ hS⟩
  show pt b (dvs ρ cs) e = pt (bl ρ s) (dvs ρ cs) e
  rw [hbl]
 ·cases h
noncomputable def nBuild0 (P : Program) (M : TrB) (n : Nat) (t : TypeId) : Option NR := match P.underlying t with
 | some (.slice e) => ob (newS M n) fun s => ob (sizeB P e) fun _ => some (some (.slx s 0 0 0), M.set (.cells [] e) s, Nat.succ n)
 | _ => none
theorem nBuild0_ok {n n' : Nat} {t : TypeId} {v : Option SV} (hM : MemS w0 O σ M w) (hG : MemG σ M) (h : nBuild0 P M n t = some (v, M', n')) : Nw P w0 O σ (.buildSlice t 0 #[]) ty a w v M' := by
 unfold nBuild0 at h
 split at h
 ·rename_i e hu
  obtain ⟨s, hs, h2⟩ := ob_some h
  obtain ⟨sz, hsz, h3⟩ := ob_some h2
  clear h h2
  cases h3
  obtain ⟨rfl, h1, h2⟩ := newS_ok hs
  refine Nw.new hM hG h1 h2 (us := []) (fun _ _ => rfl) (u := .slice (some ⟨w.heap.size, 0, none⟩) 0 0) (fun ρ hr => by rw [dv, bl, hr]; rfl) (fun dst pos af g => ?_)
  simp [execOp, Instr.buildSlice, run_underlying hu, Eng.run_sizeOf hsz, Instr.fill, newRow, Array.range_zero']
 ·cases h
noncomputable def nMakeS (P : Program) (T : TrS) (M : TrB) (n : Nat) (t : TypeId) (x y : Operand) : Option NR := match P.underlying t with
 | some (.slice e) => ob (P.info? e) fun i => ob i.zero fun z => ob (newS M n) fun s => ob (evS T M x) fun vl => ob (evS T M y) fun vc => (match vl, vc with
  | .int _ (.ofNat l), .int _ (.ofNat c) => must (Nat.ble l c && Nat.ble (i.bytes * c) 281474976710656 && Nat.ble c 1000000) (ob (cvs (madeCells z.cells (c * i.size)).toList) fun cs => some (some (.slx s 0 l c), M.set (.cells cs e) s, Nat.succ n))
  | _, _ => none)
 | _ => none
theorem nMakeS_ok {n n' : Nat} {t : TypeId} {x y : Operand} {v : Option SV} (hF : FrS N D σ T a) (hM : MemS w0 O σ M w) (hG : MemG σ M) (h : nMakeS P T M n t x y = some (v, M', n')) : Nw P w0 O σ (.makeSlice t x y) ty a w v M' := by
 unfold nMakeS at h
 split at h
 ·rename_i e hu
  obtain ⟨i, hi, h2⟩ := ob_some h
  obtain ⟨z, hz, h3⟩ := ob_some h2
  obtain ⟨s, hs, h4⟩ := ob_some h3
  obtain ⟨vl, hl, h5⟩ := ob_some h4
  obtain ⟨vc, hc, h6⟩ := ob_some h5
  clear h h2 h3 h4 h5
  split at h6
  ·rename_i kl l kc c
   obtain ⟨hb, h7⟩ := must_some h6
   obtain ⟨cs, hcs, h8⟩ := ob_some h7
   clear h6 h7
   cases h8
   obtain ⟨rfl, g1, g2⟩ := newS_ok hs
   simp only [Bool.and_eq_true] at hb
   have b1 := Nat.le_of_ble_eq_true hb.1.1
   have b2 := Nat.le_of_ble_eq_true hb.1.2
   have b3 := Nat.le_of_ble_eq_true hb.2
   have hx := evS_eval hF hG σ.rho_ext hl
   have hy := evS_eval hF hG σ.rho_ext hc
   simp only [dv] at hx hy
   have hr := run_make (P := P) w t e i z hu hi hz kl kc (l : Int) (c : Int) (by omega) (by omega) (by rw [← Int.natCast_mul]; omega) (by omega)
   refine Nw.new hM hG g1 g2 (us := (madeCells z.cells (c * i.size)).toList) (fun ρ _ => cvs_ok hcs ρ) (u := .slice (some ⟨w.heap.size, 0, none⟩) l c) (fun ρ hr => by rw [dv, bl, hr]; rfl) (fun dst pos af g => ?_)
   have hx' : a.eval x = .int kl (l : Int) := hx
   have hy' : a.eval y = .int kc (c : Int) := hy
   simp only [Int.toNat_natCast] at hr
   simp only [execOp, hx', hy', Sem.run_bind, hr, Result.andThen_ok, Sem.run_pure]
  ·cases h6
 ·cases h
theorem cell_of {w : World} {b j : Nat} {cs : Array Value} {e : TypeId} {fz : Nat × Nat} {u : Value} (h : w.heap[b]? = some (.cells cs e fz)) (hj : cs[j]? = some u) : w.cell? ⟨b, j, none⟩ = some u := by
 simp [World.cell?, h, hj]
noncomputable def byteSV (l : List Nat) : List SV := l.map fun c => .int .u8 (.ofNat (Nat.mod c 256))
def isU8 (P : Program) (t : TypeId) : Bool := match P.underlying t with
 | some (.int .u8) => true
 | _ => false
noncomputable def nConv (P : Program) (T : TrS) (M : TrB) (n : Nat) (src dst : TypeId) (x : Operand) : Option NR := match P.underlying dst with
 | some (.slice e) => must (isStrT P src && isU8 P e) (ob (evS T M x) fun v => (match v with
  | .str l => ob (newS M n) fun s => some (some (.sl s 0 l.length 1), M.set (.rd (byteSV l)) s, Nat.succ n)
  | _ => none))
 | _ => none
theorem isStrT_eq {t : TypeId} (h : isStrT P t = true) : P.underlying t = some .string := by
 unfold isStrT at h
 split at h
 ·assumption
 ·cases h
theorem isU8_eq {t : TypeId} (h : isU8 P t = true) : P.underlying t = some (.int .u8) := by
 unfold isU8 at h
 split at h
 ·assumption
 ·cases h
theorem nConv_ok {n n' : Nat} {src dst : TypeId} {x : Operand} {v : Option SV} (hF : FrS N D σ T a) (hM : MemS w0 O σ M w) (hG : MemG σ M) (h : nConv P T M n src dst x = some (v, M', n')) : Nw P w0 O σ (.convert src dst x) ty a w v M' := by
 unfold nConv at h
 split at h
 ·rename_i e hu
  obtain ⟨hb, h2⟩ := must_some h
  obtain ⟨vx, hx, h3⟩ := ob_some h2
  clear h h2
  cases vx with
  | str l =>
   dsimp only at h3
   obtain ⟨s, hs, h4⟩ := ob_some h3
   cases h4
   obtain ⟨rfl, g1, g2⟩ := newS_ok hs
   rw [Bool.and_eq_true] at hb
   have hs9 : ∀ dst9 pos af g, execOp a.eval ⟨dst9, .convert src dst x, ty, pos, af, g⟩ = (do pure (.value (← convert src dst (a.eval x)))) := fun _ _ _ _ => rfl
   refine Nw.per hM g1 asOf (set_dom2 g2) (fun τ hle => hG.set g2 (fun _ h => by cases h) hle) hs9 (fun ρ hE => ?_)
   have hx' := evS_eval hF hG hE hx
   rw [dv] at hx'
   have hr := run_bytes_of_string (P := P) w src dst e (str (l.map UInt8.ofNat)) (isStrT_eq hb.1) hu (isU8_eq hb.2)
   rw [← hx'] at hr
   have hsz : (str (l.map UInt8.ofNat)).size = l.length := by rw [str_size, List.length_map]
   refine ⟨_, _, hr, fun hρ => ?_⟩
   have hbl : (ρ s).b = some w.heap.size := by rw [hρ]; rfl
   have hc : (ρ s).c = grownCap w (str (l.map UInt8.ofNat)).size 0 e := by rw [hρ]; rfl
   have hbb : bl ρ s = w.heap.size := by unfold bl; rw [hbl]; rfl
   refine ⟨by rw [dv, hbl, hc, hsz]; simp, mem_new g2 g1 rfl (((hM.st ρ hE).drew.allocO _).swap (c' := bch ρ s (.rd (byteSV l))) (fun hok => ⟨by rw [hbb]; exact hbl, fun j y hj => ?_⟩) (fun k hk => ?_))⟩
   ·have hok' : (w.drew.alloc (.cells (bytesRow (str (l.map UInt8.ofNat)) (grownCap w (str (l.map UInt8.ofNat)).size 0 e)) e ((bytesRow (str (l.map UInt8.ofNat)) (grownCap w (str (l.map UInt8.ofNat)).size 0 e)).size, (bytesRow (str (l.map UInt8.ofNat)) (grownCap w (str (l.map UInt8.ofNat)).size 0 e)).size + 1))).heap[w.heap.size]? = some (.cells (bytesRow (str (l.map UInt8.ofNat)) (grownCap w (str (l.map UInt8.ofNat)).size 0 e)) e ((bytesRow (str (l.map UInt8.ofNat)) (grownCap w (str (l.map UInt8.ofNat)).size 0 e)).size, (bytesRow (str (l.map UInt8.ofNat)) (grownCap w (str (l.map UInt8.ofNat)).size 0 e)).size + 1)) := hok
    unfold byteSV at hj
    rw [List.getElem?_map] at hj
    cases hq : l[j]? with
    | none => rw [hq] at hj; cases hj
    | some c =>
     rw [hq] at hj
     simp only [Option.map_some, Option.some.injEq] at hj
     subst hj
     have hjl : j < l.length := (List.getElem?_eq_some_iff.1 hq).1
     obtain ⟨_, e2⟩ := List.getElem?_eq_some_iff.1 hq
     have hcell : (bytesRow (str (l.map UInt8.ofNat)) (grownCap w (str (l.map UInt8.ofNat)).size 0 e))[j]? = some (dv ρ (.int .u8 (.ofNat (Nat.mod c 256)))) := by
      unfold bytesRow
      rw [Array.getElem?_append_left (by simpa [str] using hjl)]
      simp only [str, List.map_toArray, List.map_map, List.getElem?_toArray, List.getElem?_map, hq, Option.map_some, Function.comp]
      rw [dv]; simp; rfl
     rw [hbb]
     exact cell_of hok' hcell
   ·have hk' : k = bl ρ s := hk
    rw [hbb] at hk'
    exact hk'
  | _ => cases h3
 ·cases h
end
end Go.X
namespace Go.X
open Go Go.Eng Go.RowKit Dg Go.Proofs.YtndpdhamadiopaaGreatDoor
section
variable {P : Program} {w0 w : World} {O : List Nat} {N : Nat} {D : List SD} {σ : Asg} {T : TrS} {M M' : TrB} {a : Act} {ρ : Rho} {ty : TypeId} {op : Op} {C : List Chunk}
noncomputable def elems (M : TrB) (v : SV) (sz : Nat) : Option (Nat × List SV) := match v with
 | .nils => some (0, [])
 | .sl s k m z => ob (M.get s) fun b => match b with
  | .row xs m0 _ _ => must (Nat.beq z sz && Nat.blt 0 m0) (let l := (xs.drop (k * sz)).take (m * sz); must (Nat.beq l.length (m * sz)) (some (m, l)))
  | _ => none
 | .slx s off m _ => ob (M.get s) fun b => ob (blkCells b) fun cs => let l := (cs.drop off).take (m * sz); must (Nat.beq l.length (m * sz)) (some (m, l))
 | _ => none
theorem take_drop_get {α : Type} {cs : List α} {off n j : Nat} {y : α} (h : ((cs.drop off).take n)[j]? = some y) : cs[off + j]? = some y := by
 rw [List.getElem?_take] at h
 split at h
 ·rwa [List.getElem?_drop] at h
 ·cases h
theorem elems_ok (hM : MemS w0 O σ M w) (hE : Ext σ ρ) {v : SV} {sz m : Nat} {l : List SV} (h : elems M v sz = some (m, l)) : ∃ a0 c, dv ρ v = .slice a0 m c ∧ l.length = m * sz ∧ (m ≠ 0 → ∃ bx ox, a0 = some ⟨bx, ox, none⟩ ∧ ∀ j u, (dvs ρ l)[j]? = some u → w.cell? ⟨bx, ox + j, none⟩ = some u) := by
 have cell : ∀ {s off : Nat} {b : Blk} {cs : List SV}, M.get s = some b → blkCells b = some cs → ∀ j u, (dvs ρ ((cs.drop off).take (m * sz)))[j]? = some u → w.cell? ⟨bl ρ s, off + j, none⟩ = some u := by
  intro s off b cs hb hc j u hu
  rw [dvs_map, List.getElem?_map] at hu
  cases hq : ((cs.drop off).take (m * sz))[j]? with
  | none => rw [hq] at hu; cases hu
  | some y =>
   rw [hq] at hu
   simp only [Option.map_some, Option.some.injEq] at hu
   rw [← hu]
   exact blk_cell (hM.ok hE hb) hc (take_drop_get hq)
 unfold elems at h
 split at h
 ·cases h
  exact ⟨none, 0, rfl, by simp, fun h => absurd rfl h⟩
 ·rename_i s k m1 z
  obtain ⟨b, hb, h⟩ := ob_some h
  split at h
  ·rename_i xs m0 e0 z0
   obtain ⟨h1, h⟩ := must_some h
   obtain ⟨h2, h⟩ := must_some h
   cases h
   rw [Bool.and_eq_true] at h1
   have hz := Nat.eq_of_beq_eq_true h1.1
   subst hz
   obtain ⟨hbb, _⟩ := row_blk (hM.ok hE hb) (Nat.le_of_ble_eq_true h1.2)
   refine ⟨some ⟨bl ρ s, k * z, none⟩, (ρ s).c - k, by rw [dv, hbb]; rfl, Nat.eq_of_beq_eq_true h2, fun _ => ⟨_, _, rfl, cell hb rfl⟩⟩
  ·cases h
 ·rename_i s off m1 cap
  obtain ⟨b, hb, h⟩ := ob_some h
  obtain ⟨cs, hc, h⟩ := ob_some h
  obtain ⟨h2, h⟩ := must_some h
  cases h
  exact ⟨_, _, rfl, Nat.eq_of_beq_eq_true h2, fun _ => ⟨_, _, rfl, cell hb hc⟩⟩
 ·cases h
theorem rowc_short {a0 : Option Addr} {m n c e sz : Nat} {xs : List SV} (h : (rowc (.slice a0 m c) m e sz (dvs ρ xs)).ok w) (hle : n ≤ m) : (rowc (.slice a0 n c) n e sz (dvs ρ (xs.take (n * sz)))).ok w := by
 have hl : n * sz ≤ m * sz := Nat.mul_le_mul_right _ hle
 obtain ⟨h1, h2⟩ := h
 rw [dvs_len] at h1
 refine ⟨by rw [dvs_len, List.length_take]; omega, ?_⟩
 rcases h2 with ⟨hv, h0⟩ | ⟨g, cap, cur, hv, h3, h4, h5, h6, h7, h8⟩
 ·injection hv with e1 _ e2
  subst e1; subst e2
  exact .inl ⟨by rw [show n = 0 by omega], by omega⟩
 ·injection hv with e1 _ e2
  subst e1; subst e2
  refine .inr ⟨g, _, cur, rfl, h3, h4, by omega, h6, h7, ?_⟩
  have e3 : dvs ρ (xs.take (n * sz)) = (dvs ρ xs).take (n * sz) := by simp [dvs_map, List.map_take]
  rw [e3, ← h8, List.take_take]
  congr 1
  omega
noncomputable def ownRow (M : TrB) (v : SV) (e sz : Nat) : Option (Option Nat × Nat × List SV) := match v with
 | .nils => some (none, 0, [])
 | .sl s k n z => ob (M.get s) fun b => match b with
  | .row xs m0 e0 z0 => must (Nat.beq k 0 && Nat.beq z sz && Nat.ble n m0 && Nat.beq e0 e && Nat.beq z0 sz && Nat.blt s 1000000000) (some (some s, n, xs.take (n * sz)))
  | _ => none
 | .slx s off n cap => ob (M.get s) fun b => match b with
  | .cells cs e0 => must (Nat.beq off 0 && Nat.beq e0 e && Nat.beq cs.length (cap * sz) && Nat.ble n cap && Nat.ble cap 1000000 && Nat.blt s 1000000000) (some (some s, n, cs.take (n * sz)))
  | _ => none
 | _ => none
noncomputable def deadS (M : TrB) (s : Option Nat) : TrB := match s with
 | none => M
 | some s => M.set .dead s
theorem St.noC (h : St w0 O C w) : St w0 O (noC :: C) w :=
 ⟨h.os, h.tape, h.output, h.size, h.old, fun c hc => by
  rcases List.mem_cons.1 hc with rfl | hc
  ·trivial
  ·exact h.ok c hc, fun c hc k hk => by
  rcases List.mem_cons.1 hc with rfl | hc
  ·cases hk
  ·exact h.bnd c hc k hk, List.Pairwise.cons (fun _ _ _ hk => by cases hk) h.disj⟩
theorem ownRow_ok (hM : MemS w0 O σ M w) (hE : Ext σ ρ) {v : SV} {e sz n : Nat} {s : Option Nat} {xs : List SV} (h : ownRow M v e sz = some (s, n, xs)) :
  ∃ C1, St w0 O (rowc (dv ρ v) n e sz (dvs ρ xs) :: C1) w ∧ ∀ {w' : World} {c : Chunk}, St w0 O (c :: C1) w' → St w0 O (c :: [memC ρ (deadS M s)]) w' := by
 have close : ∀ {s : Nat}, s < 2 ^ 40 → ∀ {w' : World} {c : Chunk}, St w0 O (c :: [fam (fun t => if t = s then none else (M.get t).map (bch ρ t))]) w' → St w0 O (c :: [memC ρ (M.set .dead s)]) w' := by
  intro s hlt w' c h
  have h1 := h.perm (List.Perm.swap _ _ [])
  have h2 := mem_in (b := .dead) hlt (show St w0 O (bch ρ s .dead :: _) w' from St.noC h1)
  exact h2.perm (List.Perm.swap _ _ [])
 unfold ownRow at h
 split at h
 ·cases h
  exact ⟨_, (hM.st ρ hE).rowNil e sz, fun h => h⟩
 ·rename_i s1 k n1 z
  obtain ⟨b, hb, h⟩ := ob_some h
  split at h
  ·rename_i xs1 m0 e0 z0
   obtain ⟨h1, h⟩ := must_some h
   cases h
   simp only [Bool.and_eq_true] at h1
   obtain ⟨⟨⟨⟨⟨h1, h2⟩, h3⟩, h4⟩, h5⟩, h6⟩ := h1
   have h1 := Nat.eq_of_beq_eq_true h1
   have h2 := Nat.eq_of_beq_eq_true h2
   have h3 := Nat.le_of_ble_eq_true h3
   have h4 := Nat.eq_of_beq_eq_true h4
   have h5 := Nat.eq_of_beq_eq_true h5
   subst h1; subst h2; subst h4; subst h5
   refine ⟨_, ?_, fun h => close (Nat.lt_trans (Nat.le_of_ble_eq_true h6) (by decide)) h⟩
   have hS := mem_out hb (hM.st ρ hE)
   have e1 : ∀ q, dv ρ (.sl s1 0 q z0) = .slice (ad ρ s1) q (ρ s1).c := fun q => by simp [dv, ad]
   rw [e1]
   refine hS.swap (c' := rowc (.slice (ad ρ s1) n (ρ s1).c) n e0 z0 (dvs ρ (xs1.take (n * z0)))) (fun hok => rowc_short hok h3) (fun k hk => ?_)
   revert hk
   show Value.ownBlock _ = _ → Value.ownBlock _ = _
   cases ad ρ s1 <;> exact fun h => h
  ·cases h
 ·rename_i s1 off n1 cap
  obtain ⟨b, hb, h⟩ := ob_some h
  split at h
  ·rename_i cs e0
   obtain ⟨h1, h⟩ := must_some h
   cases h
   simp only [Bool.and_eq_true] at h1
   obtain ⟨⟨⟨⟨⟨h1, h2⟩, h3⟩, h4⟩, h5⟩, h6⟩ := h1
   have h1 := Nat.eq_of_beq_eq_true h1
   have h2 := Nat.eq_of_beq_eq_true h2
   have h3 := Nat.eq_of_beq_eq_true h3
   have h4 := Nat.le_of_ble_eq_true h4
   have h5 := Nat.le_of_ble_eq_true h5
   subst h1; subst h2
   refine ⟨_, ?_, fun h => close (Nat.lt_trans (Nat.le_of_ble_eq_true h6) (by decide)) h⟩
   have hS := mem_out hb (hM.st ρ hE)
   refine hS.swap (c' := rowc (.slice (some ⟨bl ρ s1, 0, none⟩) n cap) n e0 sz (dvs ρ (cs.take (n * sz)))) (fun hok => ?_) (fun k hk => (Option.some.inj hk).symm)
   have hok' : w.heap[bl ρ s1]? = some (.cells (dvs ρ cs).toArray e0 (0, 0)) := hok
   have hle : n * sz ≤ cap * sz := Nat.mul_le_mul_right _ h4
   refine ⟨by rw [dvs_len, List.length_take]; omega, .inr ⟨bl ρ s1, cap, (dvs ρ cs).toArray, rfl, Nat.zero_le _, hok', h4, by simp only [maxLen]; omega, by simp [dvs_len, h3], ?_⟩⟩
   simp [dvs_map, List.map_take]
  ·cases h
 ·cases h
end
end Go.X
namespace Go.X
open Go Go.Eng Go.RowKit Dg Go.Proofs.YtndpdhamadiopaaGreatDoor
section
variable {P : Program} {w0 w : World} {O : List Nat} {N : Nat} {D : List SD} {σ : Asg} {T : TrS} {M M' : TrB} {a : Act} {ρ : Rho} {ty : TypeId} {op : Op} {C : List Chunk}
theorem row_as {s : Nat} {a2 : Option Addr} {n c sz : Nat} {e : TypeId} {xs : List Value} (h : (rowc (.slice a2 n c) n e sz xs).ok w) (hρ : ρ s = asOf (.slice a2 n c)) : ad ρ s = a2 ∧ (ρ s).c = c := by
 rcases h.2 with ⟨h1, _⟩ | ⟨g, cap, cur, hv, _⟩
 ·injection h1 with h1 _ h3
  subst h1
  unfold ad; rw [hρ]; exact ⟨rfl, rfl⟩
 ·injection hv with h1 _ h3
  subst h1
  unfold ad; rw [hρ]; exact ⟨rfl, rfl⟩
theorem dead_get {M : TrB} {s : Option Nat} (hs : ∀ t, s = some t → t < 2 ^ 40 ∧ ∃ b, M.get t = some b) (t : Nat) : (deadS M s).get t = none ↔ M.get t = none := by
 cases s with
 | none => exact Iff.rfl
 | some q =>
  unfold deadS
  obtain ⟨h1, b, h2⟩ := hs q rfl
  exact set_dom h1 h2 t
theorem ownRow_lt {v : SV} {e sz n : Nat} {s : Option Nat} {xs : List SV} (h : ownRow M v e sz = some (s, n, xs)) : ∀ t, s = some t → t < 2 ^ 40 ∧ ∃ b, M.get t = some b := by
 intro t ht
 unfold ownRow at h
 split at h
 ·cases h; cases ht
 ·obtain ⟨b, hb, h⟩ := ob_some h
  split at h
  ·obtain ⟨h1, h⟩ := must_some h
   cases h; cases ht
   simp only [Bool.and_eq_true] at h1
   exact ⟨Nat.lt_trans (Nat.le_of_ble_eq_true h1.2) (by decide), _, hb⟩
  ·cases h
 ·obtain ⟨b, hb, h⟩ := ob_some h
  split at h
  ·obtain ⟨h1, h⟩ := must_some h
   cases h; cases ht
   simp only [Bool.and_eq_true] at h1
   exact ⟨Nat.lt_trans (Nat.le_of_ble_eq_true h1.2) (by decide), _, hb⟩
  ·cases h
 ·cases h
theorem MemG.dead {s : Option Nat} (hG : MemG σ M) (hs : ∀ t, s = some t → t < 2 ^ 40) : MemG σ (deadS M s) := by
 cases s with
 | none => exact hG
 | some q => exact hG.set (hs q rfl) (fun _ h => by cases h) (Asg.le.refl σ)
noncomputable def nAppend (P : Program) (T : TrS) (M : TrB) (n : Nat) (x y : Operand) (t : TypeId) : Option NR :=
 ob (elB P t) fun q => match q with
 | (e, sz, bytes, z2) => must (Nat.beq z2 sz && Nat.blt 0 sz) (ob (evS T M x) fun vx => ob (evS T M y) fun vy => ob (elems M vy sz) fun p => match p with
  | (m, news) => ob (ownRow M vx e sz) fun r => match r with
   | (s, n0, xs) => match Nat.beq m 0 with
    | true => some (some vx, M, n)
    | false => must (Nat.ble (n0 + m) 1000000 && Nat.ble ((n0 + m) * bytes) 140737488355328 && news.all oneS) (ob (newS (deadS M s) n) fun s1 =>
     some (some (.sl s1 0 (n0 + m) sz), (deadS M s).set (.row (xs ++ news) (n0 + m) e sz) s1, Nat.succ n)))
theorem nAppend_ok {n n' : Nat} {x y : Operand} {t : TypeId} {v : Option SV} (hN : 0 < a.tmps.size) (hF : FrS N D σ T a) (hM : MemS w0 O σ M w) (hG : MemG σ M) (h : nAppend P T M n x y t = some (v, M', n')) :
  Nw P w0 O σ (.call { callee := .builtin .append, args := #[x, y], argTypes := #[t, t] }) ty a w v M' := by
 unfold nAppend at h
 obtain ⟨⟨e, sz, bytes, z2⟩, hq, h⟩ := ob_some h
 dsimp only at h
 obtain ⟨hb, h⟩ := must_some h
 rw [Bool.and_eq_true] at hb
 have hz := Nat.eq_of_beq_eq_true hb.1
 subst hz
 have hE9 : ElT P t e z2 bytes := ElT.of hq (Nat.le_of_ble_eq_true hb.2)
 obtain ⟨vx, hx, h⟩ := ob_some h
 obtain ⟨vy, hy, h⟩ := ob_some h
 obtain ⟨⟨m, news⟩, hp, h⟩ := ob_some h
 dsimp only at h
 obtain ⟨⟨s, n0, xs⟩, hr, hh⟩ := ob_some h
 clear h
 dsimp only at hh
 have hs9 : ∀ dst pos af g, execOp a.eval ⟨dst, .call { callee := .builtin .append, args := #[x, y], argTypes := #[t, t] }, ty, pos, af, g⟩ = (do pure (.value (← Builtin.append_ #[t, t] ty #[a.eval x, a.eval y]))) := fun _ _ _ _ => by
  simp [execOp, resolve, invoke, builtin]
 cases hm0 : Nat.beq m 0 with
 | true =>
  rw [hm0] at hh
  cases hh
  have hm := Nat.eq_of_beq_eq_true hm0
  subst hm
  refine Nw.perV hM (fun _ => Iff.rfl) hG hs9 (fun ρ hE => ?_)
  obtain ⟨C1, hS, hcl⟩ := ownRow_ok hM hE hr
  obtain ⟨a0, c, e1, e2, e3⟩ := elems_ok hM hE hp
  have hx' := evS_eval hF hG hE hx
  have hy' := evS_eval hF hG hE hy
  rw [e1] at hy'
  obtain ⟨i9, z9, h1', h2', h3', h4', h5'⟩ := hE9.row
  have hown : w.ownsRow 0 e z2 (dv ρ vx) n0 (dvs ρ xs) := hS.ok _ (List.mem_cons_self ..)
  obtain ⟨a1, cap1, hv1⟩ := ownsRow_slice hown
  have hle : n0 ≤ cap1 := by
   rcases hown.2 with ⟨hv, h0⟩ | ⟨g, cp, cur, hv, _, _, hle, _⟩
   ·omega
   ·rw [hv1] at hv; injection hv with _ _ h2; omega
  have hsz : sizeB P e = some z2 := by unfold sizeB; rw [h1']; simp [h3']
  refine ⟨_, w, ?_, rfl, hM.st ρ hE⟩
  rw [hx', hy', hv1]
  exact run_append_zero hE9.und hsz hle w
 | false =>
 rw [hm0] at hh
 dsimp only at hh
 obtain ⟨hb2, h⟩ := must_some hh
 clear hh
 obtain ⟨s1, hs1, h⟩ := ob_some h
 cases h
 obtain ⟨rfl, g1, g2⟩ := newS_ok hs1
 simp only [Bool.and_eq_true] at hb2
 obtain ⟨⟨k1, k2⟩, k3⟩ := hb2
 have k1 := Nat.le_of_ble_eq_true k1
 have k2 := Nat.le_of_ble_eq_true k2
 have hlt := ownRow_lt hr
 have hfr : M.get s1 = none := (dead_get hlt s1).1 g1
 refine Nw.per hM hfr asOf (fun t => ?_) (fun τ hle => ((hG.dead fun t ht => (hlt t ht).1).set g2 (fun _ h => by cases h) hle)) hs9 (fun ρ hE => ?_)
 ·rw [set_dom2 g2 t, dead_get hlt t]
 ·obtain ⟨C1, hS, hcl⟩ := ownRow_ok hM hE hr
  obtain ⟨a0, c, e1, e2, e3⟩ := elems_ok hM hE hp
  have hx' := evS_eval hF hG hE hx
  have hy' := evS_eval hF hG hE hy
  rw [e1] at hy'
  obtain ⟨i9, z9, h1', h2', h3', h4', h5'⟩ := hE9.row
  obtain ⟨a2, c2, w', hrun, hS2⟩ : ∃ a2 c2 w', (Builtin.append_ #[t, t] ty #[a.eval x, a.eval y]).run P w = .ok (.slice a2 (n0 + m) c2) w' ∧ St w0 O (rowc (.slice a2 (n0 + m) c2) (n0 + m) e z2 (dvs ρ xs ++ dvs ρ news) :: C1) w' := by
   rw [hx', hy']
   by_cases hm : m = 0
   ·subst hm
    have hn0 : news = [] := List.eq_nil_of_length_eq_zero (by simpa using e2)
    subst hn0
    have hown : w.ownsRow 0 e z2 (dv ρ vx) n0 (dvs ρ xs) := hS.ok _ (List.mem_cons_self ..)
    obtain ⟨a1, cap1, hv1⟩ := ownsRow_slice hown
    have hle : n0 ≤ cap1 := by
     rcases hown.2 with ⟨hv, h0⟩ | ⟨g, cp, cur, hv, _, _, hle, _⟩
     ·omega
     ·rw [hv1] at hv; injection hv with _ _ h2; omega
    have hsz : sizeB P e = some z2 := by unfold sizeB; rw [h1']; simp [h3']
    rw [hv1] at hS ⊢
    refine ⟨a1, cap1, w, run_append_zero hE9.und hsz hle w, ?_⟩
    simpa [dvs] using hS
   ·obtain ⟨bx, ox, rfl, hcell⟩ := e3 hm
    exact append_st hE9.und h1' h2' h3' h4' h5' hE9.pos hS hcell (by rw [dvs_len]; exact e2) (oneAll k3) (by simp only [maxLen]; omega) k2
  refine ⟨_, w', hrun, fun hρ => ?_⟩
  have hok : (rowc (.slice a2 (n0 + m) c2) (n0 + m) e z2 (dvs ρ xs ++ dvs ρ news)).ok w' := hS2.ok _ (List.mem_cons_self ..)
  obtain ⟨f1, f2⟩ := row_as hok hρ
  have hch : bch ρ s1 (.row (xs ++ news) (n0 + m) e z2) = rowc (.slice a2 (n0 + m) c2) (n0 + m) e z2 (dvs ρ xs ++ dvs ρ news) := by
   show rowc (.slice (ad ρ s1) (n0 + m) (ρ s1).c) (n0 + m) e z2 (dvs ρ (xs ++ news)) = _
   rw [f1, f2, dvs_append]
  refine ⟨?_, mem_new g2 g1 hch.symm (hcl hS2)⟩
  rw [← f1, ← f2]; simp [dv, ad]
def isIntT (P : Program) (t : TypeId) : Bool := match P.underlying t with
 | some (.int _) => true
 | _ => false
noncomputable def nAppZ (P : Program) (T : TrS) (M : TrB) (n : Nat) (x y : Operand) (t tn : TypeId) : Option NR := match P.underlying t with
 | some (.slice e) => must (isIntT P tn) (ob (P.info? e) fun i => ob i.zero fun z => ob (evS T M x) fun vx => ob (evS T M y) fun vy => (match vx, vy with
  | .nils, .int _ (.ofNat m) => must (Nat.blt 0 m && Nat.ble m 1000000 && Nat.blt 0 i.size && Nat.ble (m * i.bytes) 281474976710656 && Nat.beq z.cells.size i.size) (ob (newS M n) fun s => ob (cvs (Builtin.zeroCells z.cells m).toList) fun cs => some (some (.sl s 0 m i.size), M.set (.row cs m e i.size) s, Nat.succ n))
  | _, _ => none))
 | _ => none
theorem nAppZ_ok {n n' : Nat} {x y : Operand} {t tn : TypeId} {v : Option SV} (hF : FrS N D σ T a) (hM : MemS w0 O σ M w) (hG : MemG σ M) (h : nAppZ P T M n x y t tn = some (v, M', n')) :
  Nw P w0 O σ (.call { callee := .builtin .append, args := #[x, y], argTypes := #[t, tn] }) ty a w v M' := by
 unfold nAppZ at h
 split at h
 ·rename_i e hu
  obtain ⟨hi, h1⟩ := must_some h
  obtain ⟨i, hinf, h2⟩ := ob_some h1
  obtain ⟨z, hz, h3⟩ := ob_some h2
  obtain ⟨vx, hx, h4⟩ := ob_some h3
  obtain ⟨vy, hy, h5⟩ := ob_some h4
  clear h h1 h2 h3 h4
  split at h5
  ·rename_i k m
   obtain ⟨hb, h6⟩ := must_some h5
   obtain ⟨s, hs, h7⟩ := ob_some h6
   obtain ⟨cs, hcs, h8⟩ := ob_some h7
   clear h5 h6 h7
   cases h8
   obtain ⟨rfl, g1, g2⟩ := newS_ok hs
   simp only [Bool.and_eq_true] at hb
   obtain ⟨⟨⟨⟨b1, b2⟩, b3⟩, b4⟩, b5⟩ := hb
   have b1 := Nat.le_of_ble_eq_true b1
   have b2 := Nat.le_of_ble_eq_true b2
   have b3 := Nat.le_of_ble_eq_true b3
   have b4 := Nat.le_of_ble_eq_true b4
   have b5 := Nat.eq_of_beq_eq_true b5
   obtain ⟨kn, htn⟩ : ∃ kn, P.underlying tn = some (.int kn) := by
    unfold isIntT at hi
    split at hi
    ·exact ⟨_, by assumption⟩
    ·cases hi
   have hs9 : ∀ dst pos af g, execOp a.eval ⟨dst, .call { callee := .builtin .append, args := #[x, y], argTypes := #[t, tn] }, ty, pos, af, g⟩ = (do pure (.value (← Builtin.append_ #[t, tn] ty #[a.eval x, a.eval y]))) := fun _ _ _ _ => by
    simp [execOp, resolve, invoke, builtin]
   refine Nw.per hM g1 asOf (set_dom2 g2) (fun τ hle => hG.set g2 (fun _ h => by cases h) hle) hs9 (fun ρ hE => ?_)
   have hx' := evS_eval hF hG hE hx
   have hy' := evS_eval hF hG hE hy
   simp only [dv] at hx' hy'
   have hr := Lib.run_append_nil_zeros (P := P) w t tn ty e i z k kn hu htn hinf hz m b1 b3 (by omega) b4
   have hy2 : a.eval y = .int k (m : Int) := hy'
   rw [← hx', ← hy2] at hr
   refine ⟨_, _, hr, fun hρ => ?_⟩
   have hbl : ad ρ s = some ⟨w.heap.size, 0, none⟩ := by unfold ad; rw [hρ]; rfl
   have hc : (ρ s).c = grownCap w m 0 e := by rw [hρ]; rfl
   have hbb : (ρ s).b = some w.heap.size := by rw [hρ]; rfl
   refine ⟨by rw [dv, hbb, hc]; simp, mem_new g2 g1 rfl (((hM.st ρ hE).drew.allocO _).swap (c' := bch ρ s (.row cs m e i.size)) (fun hok => ?_) (fun q hq => ?_))⟩
   ·have hok' : (w.drew.alloc (.cells (Builtin.zeroCells z.cells m ++ Builtin.zeroCells z.cells (grownCap w m 0 e - m)) e)).heap[w.heap.size]? = some (.cells (Builtin.zeroCells z.cells m ++ Builtin.zeroCells z.cells (grownCap w m 0 e - m)) e (0, 0)) := hok
    show (rowc (.slice (ad ρ s) m (ρ s).c) m e i.size (dvs ρ cs)).ok _
    rw [hbl, hc, cvs_ok hcs]
    have hge := grownCap_ge w m 0 e
    have hcm : grownCap w m 0 e ≤ maxLen := grownCap_le_maxLen w m 0 e (by simp only [maxLen]; omega)
    have hz0 := size_zeroCells z.cells m
    have hz1 := size_zeroCells z.cells (grownCap w m 0 e - m)
    rw [b5] at hz0 hz1
    refine ⟨by rw [Array.length_toList]; exact hz0, .inr ⟨w.heap.size, grownCap w m 0 e, _, rfl, Nat.zero_le _, hok', hge, hcm, ?_, ?_⟩⟩
    ·rw [Array.size_append, hz0, hz1, ← Nat.add_mul, Nat.add_sub_cancel' hge]
    ·rw [Array.toList_append, List.take_append_of_le_length (by rw [Array.length_toList, hz0]; exact Nat.le_refl _), List.take_of_length_le (by rw [Array.length_toList, hz0]; exact Nat.le_refl _)]
   ·have hq' : (Value.slice (ad ρ s) m (ρ s).c).ownBlock = some q := hq
    rw [hbl] at hq'
    simp only [Value.ownBlock, Option.some.injEq] at hq'
    exact hq'.symm
  ·cases h5
 ·cases h
end
end Go.X
