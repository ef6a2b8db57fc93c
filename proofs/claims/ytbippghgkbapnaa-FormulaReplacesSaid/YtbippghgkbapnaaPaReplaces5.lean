import Derived.Test.YtbippghgkbapnaaPaReplaces4
set_option linter.unusedSimpArgs false
set_option linter.unusedVariables false
namespace Go.Proofs.Ytbippghgkbapnaa
open Go Go.Eng Go.Proofs
theorem rdL_nodes {w : World} : ∀ {ts : List Tree} {F : List Nat} {vs : List Value}, rdL w ts F vs → NodesOk w ts vs
  | [], F, vs, h => by
    simp only [rdL] at h
    obtain ⟨_, rfl⟩ := h
    exact ⟨rfl, fun i t v h => by simp at h⟩
  | t :: ts, F, vs, h => by
    simp only [rdL] at h
    obtain ⟨F1, F2, v, vs', rfl, rfl, h1, h2⟩ := h
    obtain ⟨a, n, c, hv, hn⟩ : ∃ a n c, v = Value.agg [Value.int .u8 t.op, .string (str t.name), .slice a n c].toArray ∧ n = t.kids.length := by
      cases t with
      | mk op name kids =>
        simp only [rdT] at h1
        obtain ⟨s, hv, hs⟩ := h1
        rcases hs with ⟨hk, _, a, c, hs⟩ | ⟨_, b, off, cap, G, ws, hs, _⟩
        · exact ⟨a, _, c, by rw [hv, hs]; rfl, by rw [hk]; rfl⟩
        · exact ⟨_, _, cap, by rw [hv, hs]; rfl, rfl⟩
    subst hn
    subst hv
    exact NodesOk.append (NodesOk.one h1) (rdL_nodes h2)
theorem rdT_nodes {w : World} {t : Tree} {G : List Nat} {a : Option Addr} {c : Nat} (h : rdT w t G (tv t a c)) : ∃ vs, NodesOk w t.kids vs ∧ (t.kids.length ≠ 0 → ∃ b off, a = some ⟨b, off, none⟩ ∧ cellsAt w b off (flat vs)) := by
  cases t with
  | mk op name kids =>
    simp only [rdT] at h
    obtain ⟨s, hv, hs⟩ := h
    have hs' : s = .slice a kids.length c := by
      have := congrArg Value.cells hv
      simp [tv, Value.cells, Tree.kids] at this
      exact this.2.2.symm
    rcases hs with ⟨hk, _⟩ | ⟨hne, b, off, cap, G', vs, h1, _, h3, h4⟩
    · subst hk
      exact ⟨[], ⟨rfl, fun i t v h => by simp [Tree.kids] at h⟩, fun h => absurd rfl h⟩
    · refine ⟨vs, rdL_nodes h4, fun _ => ⟨b, off, ?_, h3⟩⟩
      rw [hs'] at h1
      injection h1
theorem flat_get {l : List Value} {i j : Nat} {v u : Value} (h3 : ∀ v ∈ l, v.cells.toList.length = 3) (hi : l[i]? = some v) (hj : v.cells.toList[j]? = some u) : (flat l)[i * 3 + j]? = some u := by
  induction l generalizing i with
  | nil => simp at hi
  | cons v0 l ih =>
    have hv0 := h3 v0 (by simp)
    rw [flat_cons]
    cases i with
    | zero =>
      simp at hi
      subst hi
      rw [Nat.zero_mul, Nat.zero_add, List.getElem?_append_left (List.getElem?_eq_some_iff.1 hj).1]
      exact hj
    | succ i =>
      rw [List.getElem?_append_right (by omega), show (i + 1) * 3 + j - v0.cells.toList.length = i * 3 + j by omega]
      exact ih (fun v hv => h3 v (by simp [hv])) (by simpa using hi)
theorem NodesOk.three {wb : World} {ts : List Tree} {vs : List Value} (h : NodesOk wb ts vs) : ∀ v ∈ vs, v.cells.toList.length = 3 := fun v hv => by
  obtain ⟨i, hi⟩ := List.getElem?_of_mem hv
  have hlt := (List.getElem?_eq_some_iff.1 hi).1
  obtain ⟨F, a, c, h1, _⟩ := h.2 i _ v (List.getElem?_eq_getElem (by rw [← h.1]; exact hlt)) hi
  rw [h1]; rfl
theorem set_mid {vn vs : List Value} {i : Nat} {v : Value} (hl : vn.length = i) (hi : i < vs.length) : (vn ++ vs.drop i).set i v = (vn ++ [v]) ++ vs.drop (i + 1) := by
  subst hl
  rw [List.set_append_right _ _ (Nat.le_refl _), Nat.sub_self, List.drop_eq_getElem_cons hi, List.set_cons_zero, List.append_assoc]
  rfl
theorem get_mid {vn vs : List Value} {i : Nat} {v : Value} (hl : vn.length = i) (hi : vs[i]? = some v) : (vn ++ vs.drop i)[i]? = some v := by
  subst hl
  rw [List.getElem?_append_right (Nat.le_refl _), Nat.sub_self, List.getElem?_drop]
  simpa using hi

theorem CloneE_c (n : Nat) (vs : List Value) (a : Option Addr) (cap : Nat) (w : World) (hn : n ≤ 1099511627776) (hl : (flat vs).length = n * 3) (h1 : ∀ u ∈ flat vs, u.oneCell' = true) (hr : n ≠ 0 → ∃ b off, a = some ⟨b, off, none⟩ ∧ cellsAt w b off (flat vs)) :
    Calls Try.prog 103 [.slice a n cap].toArray w fun e w' => ∃ x : Option Addr × Nat, e = .returned (.slice x.1 n x.2) ∧ St w [] [rowc (.slice x.1 n x.2) n 25 3 (flat vs)] w' := by
  refine enter Try.func103 rfl Try.ntmps103 rfl (St.init _) ?_
  refine WC.seq ?_
  refine WC.region ?_
  refine WL.step ?_
  refine WL.assign rfl rfl ?_
  refine WL.nil ?_
  refine WQ.then_normal ?_
  refine WC.seq ?_
  refine WC.seq ?_
  rcases a with _ | a0
  · skip
    obtain rfl : n = 0 := by
      by_cases h0 : n = 0
      · exact h0
      · obtain ⟨b, off, ha, _⟩ := hr h0
        cases ha
    have hfe : flat vs = [] := List.eq_nil_of_length_eq_zero (by simpa using hl)
    refine WC.region ?_
    refine WL.step ?_
    refine WL.move rfl rfl ?_
    refine WL.step ?_
    refine WL.bin rfl rfl rfl (v := .bool true) (fun w => by kernel_rfl) ?_
    refine WL.nil ?_
    refine WQ.then_normal ?_
    refine WC.condT rfl ?_
    refine WC.seq ?_
    refine WC.region ?_
    refine WL.step ?_
    refine WL.assign rfl rfl ?_
    refine WL.nil ?_
    refine WQ.then_normal ?_
    refine WC.ret ?_
    refine WQ.then_ret ?_
    exact WQ.ret (rs := [.tmp 2]) rfl (.tmp rfl .nil) (fun w hS => ⟨(none, 0), rfl, by rw [hfe]; exact hS.rowNil 25 3⟩)
  · skip
    refine WC.region ?_
    refine WL.step ?_
    refine WL.move rfl rfl ?_
    refine WL.step ?_
    refine WL.bin rfl rfl rfl (v := .bool false) (fun w => by kernel_rfl) ?_
    refine WL.nil ?_
    refine WQ.then_normal ?_
    refine WC.condF rfl ?_
    refine WC.skip ?_
    refine WQ.then_normal ?_
    refine WC.seq ?_
    refine WC.region ?_
    refine WL.step ?_
    refine WL.buildSlice0 F.sl23 rfl (fun b5 => ?_)
    refine WA.chunks (fun w hS => hS.rowOf (n := 0) (sz := 3) rfl (by decide)) ?_
    refine WL.step ?_
    refine WL.move rfl rfl ?_
    refine WL.step ?_
    refine WL.appendC (n := 0) (v := .slice (some ⟨b5, 0, none⟩) 0 0) (xs := []) (news := flat vs) F.el23 rfl rfl rfl (by repeat (first | exact Rem.here | apply Rem.there)) (fun w hS hm => by obtain ⟨b, off, ha, hc⟩ := hr hm; exact ⟨b, off, ha, fun j u hu => hS.oldc (hc j u hu) (by simp)⟩) hl h1 (Nat.le_trans (m := 1099511627776) (by omega) (by decide)) (by omega) (fun a2 cap2 => ?_)
    rw [Nat.zero_add, List.nil_append]
    refine WL.step ?_
    refine WL.assign rfl rfl ?_
    refine WL.nil ?_
    refine WQ.then_normal ?_
    refine WC.ret ?_
    exact WQ.ret (rs := [.tmp 2]) rfl (.tmp rfl .nil) (fun w hS => ⟨(a2, cap2), rfl, ((St.pick hS (c := rowc (.slice a2 n cap2) n 25 3 (flat vs)) (by repeat (first | exact Rem.here | apply Rem.there)))).sublist (List.Sublist.cons_cons _ (List.nil_sublist _))⟩)

end Go.Proofs.Ytbippghgkbapnaa

namespace Go.Proofs.Ytbippghgkbapnaa
open Go Go.Eng Go.Proofs
def CloC (n : Nat) : Prop := ∀ (t : Tree) (wb : World) (G : List Nat) (a : Option Addr) (c : Nat) (w : World), (Fm.rowT t).length ≤ n → rdT wb t G (tv t a c) → Ext wb w →
  Calls Try.prog 102 [tv t a c].toArray w fun e w' => ∃ y : List Nat × Option Addr × Nat, e = .returned (tv t y.2.1 y.2.2) ∧ St w [] [own y.1 t (tv t y.2.1 y.2.2)] w'
structure KG where
  i : Nat
  F : List Nat
  vn : List Value

theorem Clo_step (n : Nat) (hn : n ≤ 1099511627776) (hrec : CloC n) : CloC (n + 1) := by
  intro t wb G a c w hsz hr hE
  obtain ⟨vs, hok, hcells⟩ := rdT_nodes hr
  have hkl := Fm.kids_le t
  refine enter Try.func102 rfl Try.ntmps102 rfl (St.init _) ?_
  refine WC.seq ?_
  refine WC.region ?_
  refine WL.step ?_
  refine WL.boxN rfl rfl (fun b1 => ?_)
  refine WL.step ?_
  refine WL.alloc F.zero25 rfl (fun b2 => ?_)
  refine WL.nil ?_
  refine WQ.then_normal ?_
  refine WC.seq ?_
  refine WC.region ?_
  refine WL.step ?_
  refine WL.fieldAddr0 F.fld25_2 rfl rfl ?_
  refine WL.step ?_
  refine WL.loadP F.one23 rfl rfl (by repeat (first | exact List.Mem.head _ | apply List.Mem.tail)) rfl ?_
  refine WL.step ?_
  refine WL.callC (β := Option Addr × Nat) (res := fun y => .slice y.1 t.kids.length y.2) (cs := fun y => [rowc (.slice y.1 t.kids.length y.2) t.kids.length 25 3 (flat vs)]) (Cs := []) (O' := []) F.fun103 (fun d h => by cases h; rfl) rfl (List.Perm.refl _) (by simp) (by simp) (fun w hS _ => CloneE_c t.kids.length vs a c w (by omega) hok.flat_len hok.flat_one (fun h0 => by obtain ⟨b, off, ha, hc⟩ := hcells h0; exact ⟨b, off, ha, fun j u hu => (hE.st hS).cell (hc j u hu)⟩)) (fun x7 => ?_)
  obtain ⟨ad, cap⟩ := x7
  refine WL.step ?_
  refine WL.assign rfl rfl ?_
  refine WL.nil ?_
  refine WQ.then_normal ?_
  refine WC.seq ?_
  refine WC.seq ?_
  refine WC.region ?_
  refine WL.step ?_
  refine WL.move rfl rfl ?_
  refine WL.step ?_
  refine WL.lenSl F.und23 rfl rfl ?_
  refine WL.step ?_
  refine WL.move rfl rfl ?_
  refine WL.nil ?_
  refine WQ.then_normal ?_
  refine WC.block ?_
  refine WC.chunks (fun w hS => hS.ownNil) ?_
  refine WC.chunks (C' := [pt b1 [Value.int .u8 t.op, .string (str t.name), .slice a t.kids.length c] 25, pt b2 [Value.int .u8 0, .string (str []), .slice none 0 0] 25, rowc (.slice ad t.kids.length cap) t.kids.length 25 3 (flat ([] ++ vs.drop 0)), ownL [] [] []]) (fun w hS => ((St.pick (St.pick (St.pick (St.pick hS (c := ownL [] [] []) (by repeat (first | exact Rem.here | apply Rem.there))) (c := rowc (.slice ad t.kids.length cap) t.kids.length 25 3 (flat vs)) (by repeat (first | exact Rem.here | apply Rem.there))) (c := pt b2 [Value.int .u8 0, .string (str []), .slice none 0 0] 25) (by repeat (first | exact Rem.here | apply Rem.there))) (c := pt b1 [Value.int .u8 t.op, .string (str t.name), .slice a t.kids.length c] 25) (by repeat (first | exact Rem.here | apply Rem.there)))).sublist (List.Sublist.cons_cons _ (List.Sublist.cons_cons _ (List.Sublist.cons_cons _ (List.Sublist.cons_cons _ (List.nil_sublist _)))))) ?_
  refine WC.loop (α := KG) (fun g => g.i ≤ t.kids.length ∧ g.vn.length = g.i ∧ ∀ v ∈ g.vn, v.cells.toList.length = 3) (fun s => [(1, pp b1), (2, pp b2), (3, .slice ad t.kids.length cap), (8, .slice ad t.kids.length cap), (9, .int .i64 (t.kids.length : Int)), (10, .int .i64 (s.i : Int))]) (fun s => [pt b1 [Value.int .u8 t.op, .string (str t.name), .slice a t.kids.length c] 25, pt b2 [Value.int .u8 0, .string (str []), .slice none 0 0] 25, rowc (.slice ad t.kids.length cap) t.kids.length 25 3 (flat (s.vn ++ vs.drop s.i)), ownL s.F (t.kids.take s.i) s.vn]) (fun g => t.kids.length - g.i) (⟨0, [], []⟩) ?_ ?_ ?_ ?_
  · exact ⟨Nat.zero_le _, rfl, fun v hv => by simp at hv⟩
  · exact ⟨rfl, rfl, rfl, rfl, rfl, rfl, trivial⟩
  · rfl
  rintro ⟨i, Fb, vn⟩ ⟨hi, hvl, hvn3⟩
  dsimp only at hi hvl hvn3
  show WC _ _ _ _ _ _ _ [(1, pp b1), (2, pp b2), (3, .slice ad t.kids.length cap), (8, .slice ad t.kids.length cap), (9, .int .i64 (t.kids.length : Int)), (10, .int .i64 (i : Int))] [pt b1 [Value.int .u8 t.op, .string (str t.name), .slice a t.kids.length c] 25, pt b2 [Value.int .u8 0, .string (str []), .slice none 0 0] 25, rowc (.slice ad t.kids.length cap) t.kids.length 25 3 (flat (vn ++ vs.drop i)), ownL Fb (t.kids.take i) vn]
  refine WC.seq ?_
  refine WC.region ?_
  refine WL.step ?_
  refine WL.ltI rfl rfl rfl ?_
  refine WL.nil ?_
  refine WQ.then_normal ?_
  refine WC.seq ?_
  refine WC.cond rfl (fun h11 => ?_) (fun h11 => ?_)
  · skip
    have hlt : i < t.kids.length := by simpa using h11
    obtain ⟨k, hk⟩ : ∃ k, t.kids[i]? = some k := ⟨_, List.getElem?_eq_getElem hlt⟩
    obtain ⟨F1, a1, c1, hv1, hrk⟩ := hok.at hk
    have hks := Fm.rowT_kid hk
    have h3 : ∀ v ∈ vn ++ vs.drop i, v.cells.toList.length = 3 := fun v hv => by
      rcases List.mem_append.1 hv with hv | hv
      · exact hvn3 v hv
      · exact NodesOk.three hok v (List.mem_of_mem_drop hv)
    refine WC.know (φ := ∃ g, ad = some ⟨g, 0, none⟩ ∧ t.kids.length = t.kids.length ∧ t.kids.length ≤ cap) (fun w hS => rowc_addr (hS.ok (rowc (.slice ad t.kids.length cap) t.kids.length 25 3 (flat (vn ++ vs.drop i))) (by repeat (first | exact List.Mem.head _ | apply List.Mem.tail))) (by omega)) (fun ⟨g, hg, _, _⟩ => ?_)
    subst hg
    refine WC.skip ?_
    refine WQ.then_normal ?_
    refine WC.seq ?_
    refine WC.block ?_
    refine WC.seq ?_
    refine WC.region ?_
    refine WL.step ?_
    refine WL.move rfl rfl ?_
    refine WL.step ?_
    refine WL.assign rfl rfl ?_
    refine WL.nil ?_
    refine WQ.then_normal ?_
    refine WC.region ?_
    refine WL.step ?_
    refine WL.move rfl rfl ?_
    refine WL.step ?_
    refine WL.move rfl rfl ?_
    refine WL.step ?_
    refine WL.move rfl rfl ?_
    refine WL.step ?_
    refine WL.move rfl rfl ?_
    refine WL.step ?_
    refine WL.indexAddr F.sl23 rfl rfl rfl hlt ?_
    refine WL.step ?_
    refine WL.loadN F.agg25 rfl rfl (vs := [Value.int .u8 k.op, .string (str k.name), .slice a1 k.kids.length c1]) rfl (fun w hS j v hv => by rw [Nat.zero_add]; exact rowc_cells (hS.ok (rowc (.slice (some ⟨g, 0, none⟩) t.kids.length cap) t.kids.length 25 3 (flat (vn ++ vs.drop i))) (by repeat (first | exact List.Mem.head _ | apply List.Mem.tail))) (flat_get h3 (get_mid hvl hv1) hv)) ?_
    refine WL.step ?_
    refine WL.callC (β := List Nat × Option Addr × Nat) (res := fun y => tv k y.2.1 y.2.2) (cs := fun y => [own y.1 k (tv k y.2.1 y.2.2)]) (Cs := []) (O' := []) F.fun102 (fun d h => by cases h; rfl) rfl (List.Perm.refl _) (by simp) (by simp) (fun w hS _ => hrec k wb F1 a1 c1 w (by omega) hrk (hE.st hS)) (fun y19 => ?_)
    refine WL.step ?_
    refine WL.indexAddr F.sl23 rfl rfl rfl hlt ?_
    refine WL.step ?_
    refine WL.storeRow F.agg25 rfl rfl (n := t.kids.length) (sz := 3) (cap := cap) (g := g) (e := 25) (xs := flat (vn ++ vs.drop i)) (xs' := flat ((vn ++ vs.drop i).set i (tv k y19.2.1 y19.2.2))) (vs := [Value.int .u8 k.op, .string (str k.name), .slice y19.2.1 k.kids.length y19.2.2]) rfl (by simp [Value.oneCell']) (by omega) (by repeat (first | exact Upd.here | apply Upd.there)) (by rw [Nat.zero_add]; exact SetN.flat3 (u := tv k a1 c1) rfl rfl (v' := tv k y19.2.1 y19.2.2) rfl (get_mid hvl hv1) h3) ?_
    refine WL.nil ?_
    refine WQ.block_normal ?_
    refine WQ.then_normal ?_
    refine WC.region ?_
    refine WL.step ?_
    refine WL.add rfl rfl rfl ⟨by omega, by omega⟩ ?_
    refine WL.step ?_
    refine WL.move rfl rfl ?_
    refine WL.nil ?_
    rw [set_mid hvl (by rw [hok.1]; exact hlt)]
    refine WQ.chunks (C' := [pt b1 [Value.int .u8 t.op, .string (str t.name), .slice a t.kids.length c] 25, pt b2 [Value.int .u8 0, .string (str []), .slice none 0 0] 25, rowc (.slice (some ⟨g, 0, none⟩) t.kids.length cap) t.kids.length 25 3 (flat ((vn ++ [tv k y19.2.1 y19.2.2]) ++ vs.drop (i + 1))), ownL (Fb ++ y19.1) (t.kids.take i ++ [k]) (vn ++ [tv k y19.2.1 y19.2.2])]) (fun w hS => ?_) ?_
    · have h2 := St.ownSnoc (St.pick (St.pick hS (c := own y19.1 k (tv k y19.2.1 y19.2.2)) (by repeat (first | exact Rem.here | apply Rem.there))) (c := ownL Fb (t.kids.take i) vn) (by repeat (first | exact Rem.here | apply Rem.there)))
      exact ((St.pick (St.pick (St.pick (St.pick h2 (c := ownL (Fb ++ y19.1) (t.kids.take i ++ [k]) (vn ++ [tv k y19.2.1 y19.2.2])) (by repeat (first | exact Rem.here | apply Rem.there))) (c := rowc (.slice (some ⟨g, 0, none⟩) t.kids.length cap) t.kids.length 25 3 (flat ((vn ++ [tv k y19.2.1 y19.2.2]) ++ vs.drop (i + 1)))) (by repeat (first | exact Rem.here | apply Rem.there))) (c := pt b2 [Value.int .u8 0, .string (str []), .slice none 0 0] 25) (by repeat (first | exact Rem.here | apply Rem.there))) (c := pt b1 [Value.int .u8 t.op, .string (str t.name), .slice a t.kids.length c] 25) (by repeat (first | exact Rem.here | apply Rem.there)))).sublist (List.Sublist.cons_cons _ (List.Sublist.cons_cons _ (List.Sublist.cons_cons _ (List.Sublist.cons_cons _ (List.nil_sublist _)))))
    have e1 : t.kids.take i ++ [k] = t.kids.take (i + 1) := by rw [List.take_add_one, hk]; rfl
    rw [e1]
    refine WQ.back (⟨i + 1, Fb ++ y19.1, vn ++ [tv k y19.2.1 y19.2.2]⟩) ?_ ?_ ?_ ?_
    · exact ⟨by show i + 1 ≤ _; omega, by show (vn ++ [_]).length = i + 1; simp [hvl], fun v hv => by rcases List.mem_append.1 hv with hv | hv; exact hvn3 v hv; rw [List.mem_singleton] at hv; rw [hv]; rfl⟩
    · (show t.kids.length - (i + 1) < t.kids.length - i; omega)
    · exact ⟨rfl, rfl, rfl, rfl, rfl, rfl, trivial⟩
    · rfl
  · skip
    have hie : i = t.kids.length := by simp at h11; omega
    subst hie
    rw [List.take_length, List.drop_eq_nil_of_le (by rw [hok.1]; exact Nat.le_refl _), List.append_nil]
    refine WC.exit ?_
    refine WQ.then_exit ?_
    refine WQ.then_exit ?_
    refine WQ.block_exit ?_
    refine WQ.then_normal ?_
    refine WC.seq ?_
    refine WC.region ?_
    refine WL.step ?_
    refine WL.move rfl rfl ?_
    refine WL.step ?_
    refine WL.fieldAddr0 F.fld25_2 rfl rfl ?_
    refine WL.step ?_
    refine WL.store1 F.one23 rfl rfl rfl (by repeat (first | exact Upd.here | apply Upd.there)) (by repeat constructor) ?_
    refine WL.nil ?_
    refine WQ.then_normal ?_
    refine WC.seq ?_
    refine WC.region ?_
    refine WL.step ?_
    refine WL.loadW F.agg25 rfl rfl (by repeat (first | exact List.Mem.head _ | apply List.Mem.tail)) rfl ?_
    refine WL.step ?_
    refine WL.storeN F.agg25 rfl rfl rfl (by simp [Value.oneCell']) (by repeat (first | exact Upd.here | apply Upd.there)) (by repeat constructor) ?_
    refine WL.nil ?_
    refine WQ.then_normal ?_
    refine WC.ret ?_
    refine WQ.ret (rs := [.cell 2 25]) rfl (.cellN F.agg25 rfl (by repeat (first | exact List.Mem.head _ | apply List.Mem.tail)) rfl .nil) (fun w hS => ?_)
    obtain ⟨F2, h2⟩ := St.ownNode (ts := t.kids) t.op t.name rfl (St.pick (St.pick hS (c := ownL Fb t.kids vn) (by repeat (first | exact Rem.here | apply Rem.there))) (c := rowc (.slice ad t.kids.length cap) t.kids.length 25 3 (flat vn)) (by repeat (first | exact Rem.here | apply Rem.there)))
    rw [show Tree.mk t.op t.name t.kids = t by cases t; rfl] at h2
    exact ⟨(F2, ad, cap), rfl, h2.one1⟩

theorem Clo_c : ∀ n, n ≤ 1099511627776 → CloC n
  | 0, _ => fun t wb G a c w hsz _ _ => by rw [Fm.rowT_eq] at hsz; simp at hsz
  | n + 1, h => Clo_step n (by omega) (Clo_c n (by omega))

end Go.Proofs.Ytbippghgkbapnaa

namespace Go.Proofs.Ytbippghgkbapnaa
open Go Go.Eng Go.Proofs
mutual
def replT (nm : List UInt8) (u : Tree) : Tree → Tree
  | .mk op name kids => if op == 3 && name == nm then u else .mk op name (replL nm u kids)
def replL (nm : List UInt8) (u : Tree) : List Tree → List Tree
  | [] => []
  | k :: ks => replT nm u k :: replL nm u ks
end
theorem replL_map (nm : List UInt8) (u : Tree) : ∀ ks : List Tree, replL nm u ks = ks.map (replT nm u)
  | [] => by simp [replL]
  | k :: ks => by simp [replL, replL_map nm u ks]
theorem replT_eq (nm : List UInt8) (u t : Tree) : replT nm u t = if t.op == 3 && t.name == nm then u else .mk t.op t.name (t.kids.map (replT nm u)) := by
  cases t with
  | mk op name kids =>
    unfold replT
    rw [replL_map]
    rfl
def RepC (n : Nat) : Prop := ∀ (t u : Tree) (nm : List UInt8) (wb : World) (G H : List Nat) (a a2 : Option Addr) (c c2 : Nat) (w : World), (Fm.rowT t).length ≤ n → (Fm.rowT u).length ≤ 1099511627776 → rdT wb t G (tv t a c) → rdT wb u H (tv u a2 c2) → Ext wb w →
  Calls Try.prog 81 [tv t a c, .string (str nm), tv u a2 c2].toArray w fun e w' => ∃ y : List Nat × Option Addr × Nat, e = .returned (tv (replT nm u t) y.2.1 y.2.2) ∧ St w [] [own y.1 (replT nm u t) (tv (replT nm u t) y.2.1 y.2.2)] w'

theorem Rep_step (n : Nat) (hn : n ≤ 1099511627776) (hrec : RepC n) : RepC (n + 1) := by
  intro t u nm wb G H a a2 c c2 w hsz husz hr hr2 hE
  obtain ⟨vs, hok, hcells⟩ := rdT_nodes hr
  have hkl := Fm.kids_le t
  refine enter Try.func81 rfl Try.ntmps81 rfl (St.init _) ?_
  refine WC.seq ?_
  refine WC.region ?_
  refine WL.step ?_
  refine WL.boxN rfl rfl (fun b3 => ?_)
  refine WL.step ?_
  refine WL.boxN rfl rfl (fun b5 => ?_)
  refine WL.step ?_
  refine WL.alloc F.zero25 rfl (fun b6 => ?_)
  refine WL.nil ?_
  refine WQ.then_normal ?_
  refine WC.seq ?_
  refine WC.seq ?_
  refine WC.cutF [(17, .bool (t.op == 3 && t.name == nm)), (1, .string (str nm)), (3, pp b3), (5, pp b5), (6, pp b6)] (fun Q' hQ => ?_) ?_
  · skip
    refine WC.region ?_
    refine WL.step ?_
    refine WL.fieldAddr0 F.fld25_0 rfl rfl ?_
    refine WL.step ?_
    refine WL.loadP F.one5 rfl rfl (by repeat (first | exact List.Mem.head _ | apply List.Mem.tail)) rfl ?_
    refine WL.step ?_
    refine WL.eqI rfl rfl rfl ?_
    refine WL.step ?_
    refine WL.move rfl rfl ?_
    refine WA.splitB (i := 12) rfl (fun g12 => ?_) (fun g12 => ?_)
    · skip
      refine WL.step (WL.guardT rfl rfl rfl ?_)
      refine WL.fieldAddr0 F.fld25_1 rfl rfl ?_
      refine WL.step (WL.guardT rfl rfl rfl ?_)
      refine WL.loadP F.one9 rfl rfl (by repeat (first | exact List.Mem.head _ | apply List.Mem.tail)) rfl ?_
      refine WL.step (WL.guardT rfl rfl rfl ?_)
      refine WL.move rfl rfl ?_
      refine WL.step (WL.guardT rfl rfl rfl ?_)
      refine WL.eqS rfl rfl rfl ?_
      refine WL.step ?_
      refine WL.pickT rfl rfl rfl ?_
      refine WL.nil ?_
      refine WQ.byCut hQ (subF_bool ?_ ⟨rfl, rfl, rfl, rfl, trivial⟩ rfl)
      first | (rw [g12, Bool.true_and]) | (rw [g12, Bool.false_and])
    · skip
      refine WL.step (WL.guardF rfl rfl rfl rfl rfl rfl ?_)
      refine WL.step (WL.guardF rfl rfl rfl rfl rfl rfl ?_)
      refine WL.step (WL.guardF rfl rfl rfl rfl rfl rfl ?_)
      refine WL.step (WL.guardF rfl rfl rfl rfl rfl rfl ?_)
      refine WL.step ?_
      refine WL.pickF rfl rfl rfl ?_
      refine WL.nil ?_
      refine WQ.byCut hQ (subF_bool ?_ ⟨rfl, rfl, rfl, rfl, trivial⟩ rfl)
      first | (rw [g12, Bool.true_and]) | (rw [g12, Bool.false_and])
  refine WQ.then_normal ?_
  refine WC.cond rfl (fun h17 => ?_) (fun h17 => ?_)
  · skip
    have hR : replT nm u t = u := by rw [replT_eq, if_pos h17]
    refine WC.seq ?_
    refine WC.region ?_
    refine WL.step ?_
    refine WL.loadW F.agg25 rfl rfl (by repeat (first | exact List.Mem.head _ | apply List.Mem.tail)) rfl ?_
    refine WL.step ?_
    refine WL.callC (β := List Nat × Option Addr × Nat) (res := fun y => tv u y.2.1 y.2.2) (cs := fun y => [own y.1 u (tv u y.2.1 y.2.2)]) (Cs := []) (O' := []) F.fun102 (fun d h => by cases h; rfl) rfl (List.Perm.refl _) (by simp) (by simp) (fun w hS _ => Clo_c _ husz u wb H a2 c2 w (Nat.le_refl _) hr2 (hE.st hS)) (fun y19 => ?_)
    refine WL.step ?_
    refine WL.storeN F.agg25 rfl rfl rfl (by simp [Value.oneCell']) (by repeat (first | exact Upd.here | apply Upd.there)) (by repeat constructor) ?_
    refine WL.nil ?_
    refine WQ.then_normal ?_
    refine WC.ret ?_
    refine WQ.then_ret ?_
    refine WQ.ret (rs := [.cell 6 25]) rfl (.cellN F.agg25 rfl (by repeat (first | exact List.Mem.head _ | apply List.Mem.tail)) rfl .nil) (fun w hS => ⟨y19, by rw [hR]; rfl, by rw [hR]; exact ((St.pick hS (c := own y19.1 u (tv u y19.2.1 y19.2.2)) (by repeat (first | exact Rem.here | apply Rem.there)))).sublist (List.Sublist.cons_cons _ (List.nil_sublist _))⟩)
  · skip
    have hR : replT nm u t = .mk t.op t.name (t.kids.map (replT nm u)) := by rw [replT_eq, if_neg (by rw [h17]; decide)]
    refine WC.skip ?_
    refine WQ.then_normal ?_
    refine WC.seq ?_
    refine WC.region ?_
    refine WL.step ?_
    refine WL.fieldAddr0 F.fld25_2 rfl rfl ?_
    refine WL.step ?_
    refine WL.loadP F.one23 rfl rfl (by repeat (first | exact List.Mem.head _ | apply List.Mem.tail)) rfl ?_
    refine WL.step ?_
    refine WL.callC (β := Option Addr × Nat) (res := fun y => .slice y.1 t.kids.length y.2) (cs := fun y => [rowc (.slice y.1 t.kids.length y.2) t.kids.length 25 3 (flat vs)]) (Cs := []) (O' := []) F.fun103 (fun d h => by cases h; rfl) rfl (List.Perm.refl _) (by simp) (by simp) (fun w hS _ => CloneE_c t.kids.length vs a c w (by omega) hok.flat_len hok.flat_one (fun h0 => by obtain ⟨b, off, ha, hc⟩ := hcells h0; exact ⟨b, off, ha, fun j u hu => (hE.st hS).cell (hc j u hu)⟩)) (fun x22 => ?_)
    obtain ⟨ad, cap⟩ := x22
    refine WL.step ?_
    refine WL.assign rfl rfl ?_
    refine WL.nil ?_
    refine WQ.then_normal ?_
    refine WC.seq ?_
    refine WC.seq ?_
    refine WC.region ?_
    refine WL.step ?_
    refine WL.move rfl rfl ?_
    refine WL.step ?_
    refine WL.lenSl F.und23 rfl rfl ?_
    refine WL.step ?_
    refine WL.move rfl rfl ?_
    refine WL.nil ?_
    refine WQ.then_normal ?_
    refine WC.block ?_
    refine WC.chunks (fun w hS => hS.ownNil) ?_
    refine WC.chunks (C' := [pt b3 [Value.int .u8 t.op, .string (str t.name), .slice a t.kids.length c] 25, pt b5 [Value.int .u8 u.op, .string (str u.name), .slice a2 u.kids.length c2] 25, pt b6 [Value.int .u8 0, .string (str []), .slice none 0 0] 25, rowc (.slice ad t.kids.length cap) t.kids.length 25 3 (flat ([] ++ vs.drop 0)), ownL [] [] []]) (fun w hS => ((St.pick (St.pick (St.pick (St.pick (St.pick hS (c := ownL [] [] []) (by repeat (first | exact Rem.here | apply Rem.there))) (c := rowc (.slice ad t.kids.length cap) t.kids.length 25 3 (flat vs)) (by repeat (first | exact Rem.here | apply Rem.there))) (c := pt b6 [Value.int .u8 0, .string (str []), .slice none 0 0] 25) (by repeat (first | exact Rem.here | apply Rem.there))) (c := pt b5 [Value.int .u8 u.op, .string (str u.name), .slice a2 u.kids.length c2] 25) (by repeat (first | exact Rem.here | apply Rem.there))) (c := pt b3 [Value.int .u8 t.op, .string (str t.name), .slice a t.kids.length c] 25) (by repeat (first | exact Rem.here | apply Rem.there)))).sublist (List.Sublist.cons_cons _ (List.Sublist.cons_cons _ (List.Sublist.cons_cons _ (List.Sublist.cons_cons _ (List.Sublist.cons_cons _ (List.nil_sublist _))))))) ?_
    refine WC.loop (α := KG) (fun g => g.i ≤ t.kids.length ∧ g.vn.length = g.i ∧ ∀ v ∈ g.vn, v.cells.toList.length = 3) (fun s => [(1, .string (str nm)), (3, pp b3), (5, pp b5), (6, pp b6), (7, .slice ad t.kids.length cap), (23, .slice ad t.kids.length cap), (24, .int .i64 (t.kids.length : Int)), (25, .int .i64 (s.i : Int))]) (fun s => [pt b3 [Value.int .u8 t.op, .string (str t.name), .slice a t.kids.length c] 25, pt b5 [Value.int .u8 u.op, .string (str u.name), .slice a2 u.kids.length c2] 25, pt b6 [Value.int .u8 0, .string (str []), .slice none 0 0] 25, rowc (.slice ad t.kids.length cap) t.kids.length 25 3 (flat (s.vn ++ vs.drop s.i)), ownL s.F (List.map (replT nm u) (t.kids.take s.i)) s.vn]) (fun g => t.kids.length - g.i) (⟨0, [], []⟩) ?_ ?_ ?_ ?_
    · exact ⟨Nat.zero_le _, rfl, fun v hv => by simp at hv⟩
    · exact ⟨rfl, rfl, rfl, rfl, rfl, rfl, rfl, rfl, trivial⟩
    · rfl
    rintro ⟨i, Fb, vn⟩ ⟨hi, hvl, hvn3⟩
    dsimp only at hi hvl hvn3
    show WC _ _ _ _ _ _ _ [(1, .string (str nm)), (3, pp b3), (5, pp b5), (6, pp b6), (7, .slice ad t.kids.length cap), (23, .slice ad t.kids.length cap), (24, .int .i64 (t.kids.length : Int)), (25, .int .i64 (i : Int))] [pt b3 [Value.int .u8 t.op, .string (str t.name), .slice a t.kids.length c] 25, pt b5 [Value.int .u8 u.op, .string (str u.name), .slice a2 u.kids.length c2] 25, pt b6 [Value.int .u8 0, .string (str []), .slice none 0 0] 25, rowc (.slice ad t.kids.length cap) t.kids.length 25 3 (flat (vn ++ vs.drop i)), ownL Fb (List.map (replT nm u) (t.kids.take i)) vn]
    refine WC.seq ?_
    refine WC.region ?_
    refine WL.step ?_
    refine WL.ltI rfl rfl rfl ?_
    refine WL.nil ?_
    refine WQ.then_normal ?_
    refine WC.seq ?_
    refine WC.cond rfl (fun h26 => ?_) (fun h26 => ?_)
    · skip
      have hlt : i < t.kids.length := by simpa using h26
      obtain ⟨k, hk⟩ : ∃ k, t.kids[i]? = some k := ⟨_, List.getElem?_eq_getElem hlt⟩
      obtain ⟨F1, a1, c1, hv1, hrk⟩ := hok.at hk
      have hks := Fm.rowT_kid hk
      have h3 : ∀ v ∈ vn ++ vs.drop i, v.cells.toList.length = 3 := fun v hv => by
        rcases List.mem_append.1 hv with hv | hv
        · exact hvn3 v hv
        · exact NodesOk.three hok v (List.mem_of_mem_drop hv)
      refine WC.know (φ := ∃ g, ad = some ⟨g, 0, none⟩ ∧ t.kids.length = t.kids.length ∧ t.kids.length ≤ cap) (fun w hS => rowc_addr (hS.ok (rowc (.slice ad t.kids.length cap) t.kids.length 25 3 (flat (vn ++ vs.drop i))) (by repeat (first | exact List.Mem.head _ | apply List.Mem.tail))) (by omega)) (fun ⟨g, hg, _, _⟩ => ?_)
      subst hg
      refine WC.skip ?_
      refine WQ.then_normal ?_
      refine WC.seq ?_
      refine WC.block ?_
      refine WC.seq ?_
      refine WC.region ?_
      refine WL.step ?_
      refine WL.move rfl rfl ?_
      refine WL.step ?_
      refine WL.assign rfl rfl ?_
      refine WL.nil ?_
      refine WQ.then_normal ?_
      refine WC.drawsL (by kernel_rfl) (FactsOk.cons (ds := [8, 10]) (LoadOk.by (Y := fun w => ∀ j v, [Value.int .u8 k.op, .string (str k.name), .slice a1 k.kids.length c1][j]? = some v → w.cell? ⟨g, 0 + i * 3 + j, none⟩ = some v) (fun w hS => fun j v hv => by rw [Nat.zero_add]; exact rowc_cells (hS.ok (rowc (.slice (some ⟨g, 0, none⟩) t.kids.length cap) t.kids.length 25 3 (flat (vn ++ vs.drop i))) (by repeat (first | exact List.Mem.head _ | apply List.Mem.tail))) (flat_get h3 (get_mid hvl hv1) hv))) (FactsOk.cons (ds := [8, 10]) (LoadOk.whole (t := 5) rfl (by repeat (first | exact List.Mem.head _ | apply List.Mem.tail))) (FactsOk.nil))) ?_
      refine WD.take (i := 0) rfl rfl rfl rfl (by kernel_rfl) (by kernel_rfl) (by kernel_rfl) (fun _ _ _ h => h) (by kernel_rfl) need_none (Yl.move rfl) ?_
      refine WD.take (i := 1) rfl rfl rfl rfl (by kernel_rfl) (by kernel_rfl) (by kernel_rfl) (fun _ _ _ h => h) (by kernel_rfl) need_none (Yl.move rfl) ?_
      refine WD.take (i := 2) rfl rfl rfl rfl (by kernel_rfl) (by kernel_rfl) (by kernel_rfl) (fun _ _ _ h => h) (by kernel_rfl) need_none (Yl.move rfl) ?_
      refine WD.take (i := 3) rfl rfl rfl rfl (by kernel_rfl) (by kernel_rfl) (by kernel_rfl) (fun _ _ _ h => h) (by kernel_rfl) need_none (Yl.move rfl) ?_
      refine WD.take (i := 4) rfl rfl rfl rfl (by kernel_rfl) (by kernel_rfl) (by kernel_rfl) (fun _ _ _ h => h) (by kernel_rfl) need_none (Yl.indexAddr F.sl23 rfl rfl hlt) ?_
      refine WD.take (i := 5) rfl rfl rfl rfl (by kernel_rfl) (by kernel_rfl) (by kernel_rfl) (fun _ _ _ h => h) (by kernel_rfl) (need_at 0 11 rfl (by kernel_rfl)) (Yl.loadN F.agg25 rfl rfl) ?_
      refine WD.take (i := 6) rfl rfl rfl rfl (by kernel_rfl) (by kernel_rfl) (by kernel_rfl) (fun _ _ _ h => h) (by kernel_rfl) need_none (Yl.move rfl) ?_
      refine WD.take (i := 7) rfl rfl rfl rfl (by kernel_rfl) (by kernel_rfl) (by kernel_rfl) (fun _ _ _ h => h) (by kernel_rfl) (need_at 1 11 rfl (by kernel_rfl)) (Yl.loadN F.agg25 rfl rfl) ?_
      refine WD.one (i := 8) (by kernel_rfl) rfl ?_
      refine WL.callC (β := List Nat × Option Addr × Nat) (res := fun y => tv (replT nm u k) y.2.1 y.2.2) (cs := fun y => [own y.1 (replT nm u k) (tv (replT nm u k) y.2.1 y.2.2)]) (Cs := []) (O' := []) F.fun81 (fun d h => by cases h; rfl) rfl (List.Perm.refl _) (by simp) (by simp) (fun w hS _ => hrec k u nm wb F1 H a1 a2 c1 c2 w (by omega) husz hrk hr2 (hE.st hS)) (fun y36 => ?_)
      refine WD.on (closed_of (by kernel_rfl)) (fun w hS => Sx.gone rfl (Sx.gone rfl (Sx.none))) ?_
      refine WD.take (i := 9) rfl rfl rfl rfl (by kernel_rfl) (by kernel_rfl) (by kernel_rfl) (fun _ _ _ h => h) (by kernel_rfl) need_none (Yl.indexAddr F.sl23 rfl rfl hlt) ?_
      refine WD.one (i := 10) (by kernel_rfl) rfl ?_
      refine WL.storeRow F.agg25 rfl rfl (n := t.kids.length) (sz := 3) (cap := cap) (g := g) (e := 25) (xs := flat (vn ++ vs.drop i)) (xs' := flat ((vn ++ vs.drop i).set i (tv (replT nm u k) y36.2.1 y36.2.2))) (vs := [Value.int .u8 (replT nm u k).op, .string (str (replT nm u k).name), .slice y36.2.1 (replT nm u k).kids.length y36.2.2]) rfl (by simp [Value.oneCell']) (by omega) (by repeat (first | exact Upd.here | apply Upd.there)) (by rw [Nat.zero_add]; exact SetN.flat3 (u := tv k a1 c1) rfl rfl (v' := (tv (replT nm u k) y36.2.1 y36.2.2)) rfl (get_mid hvl hv1) h3) ?_
      refine WD.on (closed_of (by kernel_rfl)) (fun w hS => Sx.gone rfl (Sx.gone rfl (Sx.none))) ?_
      refine WD.done (by kernel_rfl) ?_
      refine WQ.block_normal ?_
      refine WQ.then_normal ?_
      refine WC.region ?_
      refine WL.step ?_
      refine WL.add rfl rfl rfl ⟨by omega, by omega⟩ ?_
      refine WL.step ?_
      refine WL.move rfl rfl ?_
      refine WL.nil ?_
      rw [set_mid hvl (by rw [hok.1]; exact hlt)]
      refine WQ.chunks (C' := [pt b3 [Value.int .u8 t.op, .string (str t.name), .slice a t.kids.length c] 25, pt b5 [Value.int .u8 u.op, .string (str u.name), .slice a2 u.kids.length c2] 25, pt b6 [Value.int .u8 0, .string (str []), .slice none 0 0] 25, rowc (.slice (some ⟨g, 0, none⟩) t.kids.length cap) t.kids.length 25 3 (flat ((vn ++ [(tv (replT nm u k) y36.2.1 y36.2.2)]) ++ vs.drop (i + 1))), ownL (Fb ++ y36.1) ((List.map (replT nm u) (t.kids.take i)) ++ [(replT nm u k)]) (vn ++ [(tv (replT nm u k) y36.2.1 y36.2.2)])]) (fun w hS => ?_) ?_
      · have h2 := St.ownSnoc (St.pick (St.pick hS (c := own y36.1 (replT nm u k) (tv (replT nm u k) y36.2.1 y36.2.2)) (by repeat (first | exact Rem.here | apply Rem.there))) (c := ownL Fb (List.map (replT nm u) (t.kids.take i)) vn) (by repeat (first | exact Rem.here | apply Rem.there)))
        exact ((St.pick (St.pick (St.pick (St.pick (St.pick h2 (c := ownL (Fb ++ y36.1) ((List.map (replT nm u) (t.kids.take i)) ++ [(replT nm u k)]) (vn ++ [(tv (replT nm u k) y36.2.1 y36.2.2)])) (by repeat (first | exact Rem.here | apply Rem.there))) (c := rowc (.slice (some ⟨g, 0, none⟩) t.kids.length cap) t.kids.length 25 3 (flat ((vn ++ [(tv (replT nm u k) y36.2.1 y36.2.2)]) ++ vs.drop (i + 1)))) (by repeat (first | exact Rem.here | apply Rem.there))) (c := pt b6 [Value.int .u8 0, .string (str []), .slice none 0 0] 25) (by repeat (first | exact Rem.here | apply Rem.there))) (c := pt b5 [Value.int .u8 u.op, .string (str u.name), .slice a2 u.kids.length c2] 25) (by repeat (first | exact Rem.here | apply Rem.there))) (c := pt b3 [Value.int .u8 t.op, .string (str t.name), .slice a t.kids.length c] 25) (by repeat (first | exact Rem.here | apply Rem.there)))).sublist (List.Sublist.cons_cons _ (List.Sublist.cons_cons _ (List.Sublist.cons_cons _ (List.Sublist.cons_cons _ (List.Sublist.cons_cons _ (List.nil_sublist _))))))
      have e1 : (List.map (replT nm u) (t.kids.take i)) ++ [(replT nm u k)] = (List.map (replT nm u) (t.kids.take (i + 1))) := by rw [List.take_add_one, hk]; simp
      rw [e1]
      refine WQ.back (⟨i + 1, Fb ++ y36.1, vn ++ [(tv (replT nm u k) y36.2.1 y36.2.2)]⟩) ?_ ?_ ?_ ?_
      · exact ⟨by show i + 1 ≤ _; omega, by show (vn ++ [_]).length = i + 1; simp [hvl], fun v hv => by rcases List.mem_append.1 hv with hv | hv; exact hvn3 v hv; rw [List.mem_singleton] at hv; rw [hv]; rfl⟩
      · (show t.kids.length - (i + 1) < t.kids.length - i; omega)
      · exact ⟨rfl, rfl, rfl, rfl, rfl, rfl, rfl, rfl, trivial⟩
      · rfl
    · skip
      have hie : i = t.kids.length := by simp at h26; omega
      subst hie
      rw [List.take_length, List.drop_eq_nil_of_le (by rw [hok.1]; exact Nat.le_refl _), List.append_nil]
      refine WC.exit ?_
      refine WQ.then_exit ?_
      refine WQ.then_exit ?_
      refine WQ.block_exit ?_
      refine WQ.then_normal ?_
      refine WC.seq ?_
      refine WC.region ?_
      refine WL.step ?_
      refine WL.move rfl rfl ?_
      refine WL.step ?_
      refine WL.fieldAddr0 F.fld25_2 rfl rfl ?_
      refine WL.step ?_
      refine WL.store1 F.one23 rfl rfl rfl (by repeat (first | exact Upd.here | apply Upd.there)) (by repeat constructor) ?_
      refine WL.nil ?_
      refine WQ.then_normal ?_
      refine WC.seq ?_
      refine WC.region ?_
      refine WL.step ?_
      refine WL.loadW F.agg25 rfl rfl (by repeat (first | exact List.Mem.head _ | apply List.Mem.tail)) rfl ?_
      refine WL.step ?_
      refine WL.storeN F.agg25 rfl rfl rfl (by simp [Value.oneCell']) (by repeat (first | exact Upd.here | apply Upd.there)) (by repeat constructor) ?_
      refine WL.nil ?_
      refine WQ.then_normal ?_
      refine WC.ret ?_
      refine WQ.ret (rs := [.cell 6 25]) rfl (.cellN F.agg25 rfl (by repeat (first | exact List.Mem.head _ | apply List.Mem.tail)) rfl .nil) (fun w hS => ?_)
      obtain ⟨F2, h2⟩ := St.ownNode (ts := t.kids.map (replT nm u)) t.op t.name (by simp) (St.pick (St.pick hS (c := ownL Fb (List.map (replT nm u) t.kids) vn) (by repeat (first | exact Rem.here | apply Rem.there))) (c := rowc (.slice ad t.kids.length cap) t.kids.length 25 3 (flat vn)) (by repeat (first | exact Rem.here | apply Rem.there)))
      have e9 : (Value.agg [Value.int .u8 t.op, .string (str t.name), .slice ad t.kids.length cap].toArray) = tv (replT nm u t) ad cap := by rw [hR]; simp [tv, Tree.op, Tree.name, Tree.kids]
      rw [← hR] at h2
      refine ⟨(F2, ad, cap), congrArg Ending.returned e9, ?_⟩
      show St _ [] [own F2 (replT nm u t) (tv (replT nm u t) ad cap)] w
      rw [← e9]
      exact h2.one1

theorem Rep_c : ∀ n, n ≤ 1099511627776 → RepC n
  | 0, _ => fun t u nm wb G H a a2 c c2 w hsz => by rw [Fm.rowT_eq] at hsz; simp at hsz
  | n + 1, h => Rep_step n (by omega) (Rep_c n (by omega))

end Go.Proofs.Ytbippghgkbapnaa

namespace Go.Proofs.Ytbippghgkbapnaa
open Go Go.Eng Go.Proofs
def stepR (nm : List UInt8) (d acc : Int) (t : Tree) : Int := if t.op == 3 && t.name == nm then acc + d else acc
def RqC (e4 e8 e10 : Nat) (nm : List UInt8) (acc d : Int) : List Chunk := [pt e4 [.string (str nm)] 9, pt e8 [.int .i64 acc] 3, pt e10 [.int .i64 (d + 1)] 3]
theorem RqC_O1 {e4 e8 e10 : Nat} {nm : List UInt8} {acc d : Int} : ∀ c ∈ RqC e4 e8 e10 nm acc d, ∀ k, c.fp k → k ∈ [e4, e8, e10] := by
  intro c hc k hk
  simp only [RqC, List.mem_cons, List.not_mem_nil, or_false] at hc
  rcases hc with rfl | rfl | rfl
  · have : k = e4 := hk
    simp [this]
  · have : k = e8 := hk
    simp [this]
  · have : k = e10 := hk
    simp [this]
theorem RqC_O2 {e4 e8 e10 : Nat} {nm : List UInt8} {acc d : Int} : ∀ k ∈ [e4, e8, e10], ∃ c ∈ RqC e4 e8 e10 nm acc d, c.fp k := by
  intro k hk
  simp only [List.mem_cons, List.not_mem_nil, or_false] at hk
  rcases hk with rfl | rfl | rfl
  · exact ⟨pt k [.string (str nm)] 9, by simp [RqC], rfl⟩
  · exact ⟨pt k [.int .i64 acc] 3, by simp [RqC], rfl⟩
  · exact ⟨pt k [.int .i64 (d + 1)] 3, by simp [RqC], rfl⟩
theorem RqC_sep {e4 e8 e10 : Nat} {nm : List UInt8} {acc d : Int} {z : Nat} {w0 w : World} {O : List Nat} {C : List Chunk} (hS : St w0 O (RqC e4 e8 e10 nm acc d ++ C) w) (h1 : z < w0.heap.size) (h2 : z ∉ O) : z ∉ [e4, e8, e10] := fun hz => by
  obtain ⟨c, hc, hf⟩ := RqC_O2 (nm := nm) (acc := acc) (d := d) z hz
  exact h2 ((hS.bnd c (List.mem_append_left _ hc) z hf).2 h1)
theorem stepR_le (nm : List UInt8) {d acc : Int} (hd : 0 ≤ d ∧ d ≤ 2000) (t : Tree) : acc ≤ stepR nm d acc t ∧ stepR nm d acc t ≤ acc + 2000 := by
  unfold stepR; split <;> omega
theorem foldR_le (nm : List UInt8) {d : Int} (hd : 0 ≤ d ∧ d ≤ 2000) : ∀ (ts : List Tree) (acc : Int), acc ≤ ts.foldl (stepR nm d) acc ∧ ts.foldl (stepR nm d) acc ≤ acc + 2000 * (ts.length : Int)
  | [], acc => by simp
  | t :: ts, acc => by
    have h1 := stepR_le nm hd t (acc := acc)
    have h2 := foldR_le nm hd ts (stepR nm d acc t)
    simp only [List.foldl_cons, List.length_cons]
    omega

theorem RepF_c (t : Tree) (a : Option Addr) (c : Nat) (nm : List UInt8) (acc d : Int) (e4 e8 e10 : Nat) (w : World) (O : List Nat) (hd : 0 ≤ d ∧ d ≤ 2000) (hacc : 0 ≤ acc ∧ acc ≤ 1000000000000) (hS0 : St w O (RqC e4 e8 e10 nm acc d) w) :
    Calls Try.prog 80 [tv t a c, pp e4, pp e8, pp e10].toArray w fun e w' => ∃ x : Unit, e = .returned (.tuple #[]) ∧ St w O (RqC e4 e8 e10 nm (stepR nm d acc t) d) w' := by
  refine enter Try.func80 rfl Try.ntmps80 rfl (C := [pt e4 [.string (str nm)] 9, pt e8 [.int .i64 acc] 3, pt e10 [.int .i64 (d + 1)] 3]) hS0 ?_
  refine WC.seq ?_
  refine WC.region ?_
  refine WL.step ?_
  refine WL.boxN rfl rfl (fun b4 => ?_)
  refine WL.nil ?_
  refine WQ.then_normal ?_
  refine WC.seq ?_
  refine WC.cutF [(13, .bool (t.op == 3 && t.name == nm)), (1, pp e4), (2, pp e8), (3, pp e10), (4, pp b4)] (fun Q' hQ => ?_) ?_
  · skip
    refine WC.region ?_
    refine WL.step ?_
    refine WL.fieldAddr0 F.fld25_0 rfl rfl ?_
    refine WL.step ?_
    refine WL.loadP F.one5 rfl rfl (by repeat (first | exact List.Mem.head _ | apply List.Mem.tail)) rfl ?_
    refine WL.step ?_
    refine WL.eqI rfl rfl rfl ?_
    refine WL.step ?_
    refine WL.move rfl rfl ?_
    refine WA.splitB (i := 8) rfl (fun g8 => ?_) (fun g8 => ?_)
    · skip
      refine WL.step (WL.guardT rfl rfl rfl ?_)
      refine WL.fieldAddr0 F.fld25_1 rfl rfl ?_
      refine WL.step (WL.guardT rfl rfl rfl ?_)
      refine WL.loadP F.one9 rfl rfl (by repeat (first | exact List.Mem.head _ | apply List.Mem.tail)) rfl ?_
      refine WL.step (WL.guardT rfl rfl rfl ?_)
      refine WL.loadP F.one9 rfl rfl (by repeat (first | exact List.Mem.head _ | apply List.Mem.tail)) rfl ?_
      refine WL.step (WL.guardT rfl rfl rfl ?_)
      refine WL.eqS rfl rfl rfl ?_
      refine WL.step ?_
      refine WL.pickT rfl rfl rfl ?_
      refine WL.nil ?_
      refine WQ.byCut hQ (subF_bool ?_ ⟨rfl, rfl, rfl, rfl, trivial⟩ rfl)
      first | (rw [g8, Bool.true_and]) | (rw [g8, Bool.false_and])
    · skip
      refine WL.step (WL.guardF rfl rfl rfl rfl rfl rfl ?_)
      refine WL.step (WL.guardF rfl rfl rfl rfl rfl rfl ?_)
      refine WL.step (WL.guardF rfl rfl rfl rfl rfl rfl ?_)
      refine WL.step (WL.guardF rfl rfl rfl rfl rfl rfl ?_)
      refine WL.step ?_
      refine WL.pickF rfl rfl rfl ?_
      refine WL.nil ?_
      refine WQ.byCut hQ (subF_bool ?_ ⟨rfl, rfl, rfl, rfl, trivial⟩ rfl)
      first | (rw [g8, Bool.true_and]) | (rw [g8, Bool.false_and])
  refine WQ.then_normal ?_
  refine WC.cond rfl (fun h13 => ?_) (fun h13 => ?_)
  · skip
    refine WC.region ?_
    refine WL.step ?_
    refine WL.loadP F.one3 rfl rfl (by repeat (first | exact List.Mem.head _ | apply List.Mem.tail)) rfl ?_
    refine WL.step ?_
    refine WL.loadP F.one3 rfl rfl (by repeat (first | exact List.Mem.head _ | apply List.Mem.tail)) rfl ?_
    refine WL.step ?_
    refine WL.sub rfl rfl rfl ⟨by omega, by omega⟩ ?_
    refine WL.step ?_
    refine WL.add rfl rfl rfl ⟨by omega, by omega⟩ ?_
    refine WL.step ?_
    refine WL.store1 F.one3 rfl rfl rfl (by repeat (first | exact Upd.here | apply Upd.there)) (by repeat constructor) ?_
    refine WL.nil ?_
    refine WQ.fin (rs := []) rfl .nil (fun w hS => ?_)
    have hst : stepR nm d acc t = acc + (d + 1 - 1) := by unfold stepR; rw [if_pos h13]; omega
    refine ⟨(), rfl, ?_⟩
    rw [hst]
    exact ((St.pick (St.pick (St.pick hS (c := pt e10 [.int .i64 (d + 1)] 3) (by repeat (first | exact Rem.here | apply Rem.there))) (c := pt e8 [.int .i64 (acc + (d + 1 - 1))] 3) (by repeat (first | exact Rem.here | apply Rem.there))) (c := pt e4 [.string (str nm)] 9) (by repeat (first | exact Rem.here | apply Rem.there)))).sublist (List.Sublist.cons_cons _ (List.Sublist.cons_cons _ (List.Sublist.cons_cons _ (List.nil_sublist _))))
  · skip
    refine WC.skip ?_
    refine WQ.fin (rs := []) rfl .nil (fun w hS => ?_)
    have hst : stepR nm d acc t = acc := by unfold stepR; rw [if_neg (by rw [h13]; decide)]
    refine ⟨(), rfl, ?_⟩
    rw [hst]
    exact ((St.pick (St.pick (St.pick hS (c := pt e10 [.int .i64 (d + 1)] 3) (by repeat (first | exact Rem.here | apply Rem.there))) (c := pt e8 [.int .i64 acc] 3) (by repeat (first | exact Rem.here | apply Rem.there))) (c := pt e4 [.string (str nm)] 9) (by repeat (first | exact Rem.here | apply Rem.there)))).sublist (List.Sublist.cons_cons _ (List.Sublist.cons_cons _ (List.Sublist.cons_cons _ (List.nil_sublist _))))

def WalkR (n : Nat) : Prop := ∀ (t : Tree) (G : List Nat) (a : Option Addr) (c : Nat) (nm : List UInt8) (acc d : Int) (e4 e8 e10 : Nat) (w : World) (O : List Nat), (Fm.rowT t).length ≤ n → (0 ≤ d ∧ d ≤ 2000) → (0 ≤ acc ∧ acc + 2000 * ((Fm.rowT t).length : Int) ≤ 1000000000000) → rdT w t G (tv t a c) → (∀ k ∈ G, k ∉ O) → St w O (RqC e4 e8 e10 nm acc d) w →
  Calls Try.prog 76 [tv t a c, Value.func (.func 80) [].toArray [pp e4, pp e8, pp e10].toArray].toArray w fun e w' => ∃ x : Unit, e = .returned (.tuple #[]) ∧ St w O (RqC e4 e8 e10 nm ((Fm.rowT t).foldl (stepR nm d) acc) d) w'

theorem WalkR_step (n : Nat) (hn : n ≤ 1099511627776) (hrec : WalkR n) : WalkR (n + 1) := by
  intro t G a c nm acc d e4 e8 e10 w O hsz hd hacc hr hGO hS0
  have hrl : (Fm.rowT t).length = (Fm.rowL t.kids).length + 1 := by rw [Fm.rowT_eq t]; rfl
  have hu1 := stepR_le nm hd t (acc := acc)
  refine enter Try.func76 rfl Try.ntmps76 rfl (C := [pt e4 [.string (str nm)] 9, pt e8 [.int .i64 acc] 3, pt e10 [.int .i64 (d + 1)] 3]) hS0 ?_
  refine WC.seq ?_
  refine WC.region ?_
  refine WL.step ?_
  refine WL.boxN rfl rfl (fun b2 => ?_)
  refine WL.nil ?_
  refine WQ.then_normal ?_
  refine WC.seq ?_
  refine WC.region ?_
  refine WL.step ?_
  refine WL.move rfl rfl ?_
  refine WL.step ?_
  refine WL.loadW F.agg25 rfl rfl (by repeat (first | exact List.Mem.head _ | apply List.Mem.tail)) rfl ?_
  refine WL.step ?_
  refine WA.chunks (C' := [pt e4 [.string (str nm)] 9, pt e8 [.int .i64 acc] 3, pt e10 [.int .i64 (d + 1)] 3, pt b2 [Value.int .u8 t.op, .string (str t.name), .slice a t.kids.length c] 25]) (fun w hS => ((St.pick (St.pick (St.pick (St.pick hS (c := pt b2 [Value.int .u8 t.op, .string (str t.name), .slice a t.kids.length c] 25) (by repeat (first | exact Rem.here | apply Rem.there))) (c := pt e10 [.int .i64 (d + 1)] 3) (by repeat (first | exact Rem.here | apply Rem.there))) (c := pt e8 [.int .i64 acc] 3) (by repeat (first | exact Rem.here | apply Rem.there))) (c := pt e4 [.string (str nm)] 9) (by repeat (first | exact Rem.here | apply Rem.there)))).sublist (List.Sublist.cons_cons _ (List.Sublist.cons_cons _ (List.Sublist.cons_cons _ (List.Sublist.cons_cons _ (List.nil_sublist _)))))) ?_
  refine WL.callFC (β := Unit) (res := fun _ => .tuple #[]) (cs := fun _ => [pt e4 [.string (str nm)] 9, pt e8 [.int .i64 (stepR nm d acc t)] 3, pt e10 [.int .i64 (d + 1)] 3]) (Cs := [pt e4 [.string (str nm)] 9, pt e8 [.int .i64 acc] 3, pt e10 [.int .i64 (d + 1)] 3]) (C1 := [pt b2 [Value.int .u8 t.op, .string (str t.name), .slice a t.kids.length c] 25]) (O' := [e4, e8, e10]) (us := []) (cap := [pp e4, pp e8, pp e10]) F.fun80 (fun d h => by cases h; rfl) rfl rfl (List.Perm.refl _) RqC_O1 (RqC_O2 (nm := nm) (acc := acc) (d := d)) (fun w hS hS2 => RepF_c t a c nm acc d e4 e8 e10 w _ hd (by omega) hS2) (fun x8 => ?_)
  refine WL.nil ?_
  refine WQ.then_normal ?_
  refine WC.seq ?_
  refine WC.region ?_
  refine WL.step ?_
  refine WL.fieldAddr0 F.fld25_2 rfl rfl ?_
  refine WL.step ?_
  refine WL.loadP F.one23 rfl rfl (by repeat (first | exact List.Mem.head _ | apply List.Mem.tail)) rfl ?_
  refine WL.step ?_
  refine WL.lenSl F.und23 rfl rfl ?_
  refine WL.step ?_
  refine WL.move rfl rfl ?_
  refine WL.nil ?_
  refine WQ.then_normal ?_
  refine WC.block ?_
  refine WC.loop (α := Nat × Int) (fun g => g.1 ≤ t.kids.length ∧ g.2 = ((Fm.rowL (t.kids.take g.1)).foldl (stepR nm d) (stepR nm d acc t))) (fun g => [(1, Value.func (.func 80) [].toArray [pp e4, pp e8, pp e10].toArray), (2, pp b2), (10, .slice a t.kids.length c), (11, .int .i64 (t.kids.length : Int)), (12, .int .i64 (g.1 : Int))]) (fun g => [pt e4 [.string (str nm)] 9, pt e8 [.int .i64 g.2] 3, pt e10 [.int .i64 (d + 1)] 3, pt b2 [Value.int .u8 t.op, .string (str t.name), .slice a t.kids.length c] 25]) (fun g => t.kids.length - g.1) ((0, stepR nm d acc t)) ?_ ?_ ?_ ?_
  · exact ⟨Nat.zero_le _, rfl⟩
  · exact ⟨rfl, rfl, rfl, rfl, rfl, trivial⟩
  · rfl
  rintro ⟨i, at2⟩ ⟨hi, hkt⟩
  dsimp only at hi hkt
  show WC _ _ _ _ _ _ _ [(1, Value.func (.func 80) [].toArray [pp e4, pp e8, pp e10].toArray), (2, pp b2), (10, .slice a t.kids.length c), (11, .int .i64 (t.kids.length : Int)), (12, .int .i64 (i : Int))] [pt e4 [.string (str nm)] 9, pt e8 [.int .i64 at2] 3, pt e10 [.int .i64 (d + 1)] 3, pt b2 [Value.int .u8 t.op, .string (str t.name), .slice a t.kids.length c] 25]
  have hul := foldR_le nm hd (Fm.rowL (t.kids.take i)) (stepR nm d acc t)
  rw [← hkt] at hul
  have htl := Fm.rowL_take_le t.kids i
  refine WC.seq ?_
  refine WC.region ?_
  refine WL.step ?_
  refine WL.ltI rfl rfl rfl ?_
  refine WL.nil ?_
  refine WQ.then_normal ?_
  refine WC.seq ?_
  refine WC.cond rfl (fun h13 => ?_) (fun h13 => ?_)
  · skip
    have hlt : i < t.kids.length := by simpa using h13
    obtain ⟨k, hk⟩ : ∃ k, t.kids[i]? = some k := ⟨_, List.getElem?_eq_getElem hlt⟩
    obtain ⟨b, off, F1, a1, c1, rfl, hb, hF1, hrk, hck⟩ := rdT_at hr hk
    have hks := Fm.rowT_kid hk
    have hkl := Fm.kids_le t
    have hbO := hGO b hb
    have htl2 := Fm.rowL_take_le t.kids (i + 1)
    rw [Fm.rowL_take hk, List.length_append] at htl2
    refine WC.skip ?_
    refine WQ.then_normal ?_
    refine WC.seq ?_
    refine WC.block ?_
    refine WC.seq ?_
    refine WC.region ?_
    refine WL.step ?_
    refine WL.indexAddr F.sl23 rfl rfl rfl hlt ?_
    refine WL.step ?_
    refine WL.loadN F.agg25 rfl rfl (vs := [Value.int .u8 k.op, .string (str k.name), .slice a1 k.kids.length c1]) rfl (fun w hS j v hv => hS.oldc (hck j v hv) hbO) ?_
    refine WL.step ?_
    refine WL.alloc F.zero25 rfl (fun b5 => ?_)
    refine WL.step ?_
    refine WL.storeN F.agg25 rfl rfl rfl (by simp [Value.oneCell']) (by repeat (first | exact Upd.here | apply Upd.there)) (by repeat constructor) ?_
    refine WL.nil ?_
    refine WQ.then_normal ?_
    refine WC.region ?_
    refine WL.step ?_
    refine WL.loadW F.agg25 rfl rfl (by repeat (first | exact List.Mem.head _ | apply List.Mem.tail)) rfl ?_
    refine WL.step ?_
    refine WL.move rfl rfl ?_
    refine WL.step ?_
    refine WA.chunks (C' := [pt e4 [.string (str nm)] 9, pt e8 [.int .i64 at2] 3, pt e10 [.int .i64 (d + 1)] 3, pt b5 [Value.int .u8 k.op, .string (str k.name), .slice a1 k.kids.length c1] 25, pt b2 [Value.int .u8 t.op, .string (str t.name), .slice (some ⟨b, off, none⟩) t.kids.length c] 25]) (fun w hS => ((St.pick (St.pick (St.pick (St.pick (St.pick hS (c := pt b2 [Value.int .u8 t.op, .string (str t.name), .slice (some ⟨b, off, none⟩) t.kids.length c] 25) (by repeat (first | exact Rem.here | apply Rem.there))) (c := pt b5 [Value.int .u8 k.op, .string (str k.name), .slice a1 k.kids.length c1] 25) (by repeat (first | exact Rem.here | apply Rem.there))) (c := pt e10 [.int .i64 (d + 1)] 3) (by repeat (first | exact Rem.here | apply Rem.there))) (c := pt e8 [.int .i64 at2] 3) (by repeat (first | exact Rem.here | apply Rem.there))) (c := pt e4 [.string (str nm)] 9) (by repeat (first | exact Rem.here | apply Rem.there)))).sublist (List.Sublist.cons_cons _ (List.Sublist.cons_cons _ (List.Sublist.cons_cons _ (List.Sublist.cons_cons _ (List.Sublist.cons_cons _ (List.nil_sublist _))))))) ?_
    refine WL.callC (β := Unit) (res := fun _ => .tuple #[]) (cs := fun _ => [pt e4 [.string (str nm)] 9, pt e8 [.int .i64 ((Fm.rowT k).foldl (stepR nm d) at2)] 3, pt e10 [.int .i64 (d + 1)] 3]) (Cs := [pt e4 [.string (str nm)] 9, pt e8 [.int .i64 at2] 3, pt e10 [.int .i64 (d + 1)] 3]) (C1 := [pt b5 [Value.int .u8 k.op, .string (str k.name), .slice a1 k.kids.length c1] 25, pt b2 [Value.int .u8 t.op, .string (str t.name), .slice (some ⟨b, off, none⟩) t.kids.length c] 25]) (O' := [e4, e8, e10]) F.fun76 (fun d h => by cases h; rfl) rfl (List.Perm.refl _) RqC_O1 (RqC_O2 (nm := nm) (acc := at2) (d := d)) (fun w hS hS2 => hrec k F1 a1 c1 nm at2 d e4 e8 e10 w _ (by omega) hd (by omega) (hS.oldT hrk (fun z hz => ⟨rdT_lt hrk z hz, hGO z (hF1 z hz)⟩)) (fun z hz => RqC_sep (nm := nm) (acc := at2) (d := d) hS (rdT_lt hrk z hz) (hGO z (hF1 z hz))) hS2) (fun x18 => ?_)
    refine WL.nil ?_
    refine WQ.block_normal ?_
    refine WQ.then_normal ?_
    refine WC.region ?_
    refine WL.step ?_
    refine WL.add rfl rfl rfl ⟨by omega, by omega⟩ ?_
    refine WL.step ?_
    refine WL.move rfl rfl ?_
    refine WL.nil ?_
    refine WQ.chunks (C' := [pt e4 [.string (str nm)] 9, pt e8 [.int .i64 ((Fm.rowT k).foldl (stepR nm d) at2)] 3, pt e10 [.int .i64 (d + 1)] 3, pt b2 [Value.int .u8 t.op, .string (str t.name), .slice (some ⟨b, off, none⟩) t.kids.length c] 25]) (fun w hS => ((St.pick (St.pick (St.pick (St.pick hS (c := pt b2 [Value.int .u8 t.op, .string (str t.name), .slice (some ⟨b, off, none⟩) t.kids.length c] 25) (by repeat (first | exact Rem.here | apply Rem.there))) (c := pt e10 [.int .i64 (d + 1)] 3) (by repeat (first | exact Rem.here | apply Rem.there))) (c := pt e8 [.int .i64 ((Fm.rowT k).foldl (stepR nm d) at2)] 3) (by repeat (first | exact Rem.here | apply Rem.there))) (c := pt e4 [.string (str nm)] 9) (by repeat (first | exact Rem.here | apply Rem.there)))).sublist (List.Sublist.cons_cons _ (List.Sublist.cons_cons _ (List.Sublist.cons_cons _ (List.Sublist.cons_cons _ (List.nil_sublist _)))))) ?_
    refine WQ.back ((i + 1, (Fm.rowT k).foldl (stepR nm d) at2)) ?_ ?_ ?_ ?_
    · exact ⟨by show i + 1 ≤ _; omega, by show _ = ((Fm.rowL (t.kids.take (i + 1))).foldl (stepR nm d) (stepR nm d acc t)); rw [Fm.rowL_take hk, List.foldl_append, ← hkt]⟩
    · (show t.kids.length - (i + 1) < t.kids.length - i; omega)
    · exact ⟨rfl, rfl, rfl, rfl, rfl, trivial⟩
    · rfl
  · skip
    have hie : i = t.kids.length := by simp at h13; omega
    subst hie
    rw [List.take_length] at hkt
    refine WC.exit ?_
    refine WQ.then_exit ?_
    refine WQ.then_exit ?_
    refine WQ.block_exit ?_
    refine WQ.fin (rs := []) rfl .nil (fun w hS => ?_)
    refine ⟨(), rfl, ?_⟩
    rw [Fm.rowT_eq t, List.foldl_cons, ← hkt]
    exact ((St.pick (St.pick (St.pick hS (c := pt e10 [.int .i64 (d + 1)] 3) (by repeat (first | exact Rem.here | apply Rem.there))) (c := pt e8 [.int .i64 at2] 3) (by repeat (first | exact Rem.here | apply Rem.there))) (c := pt e4 [.string (str nm)] 9) (by repeat (first | exact Rem.here | apply Rem.there)))).sublist (List.Sublist.cons_cons _ (List.Sublist.cons_cons _ (List.Sublist.cons_cons _ (List.nil_sublist _))))

theorem WalkR_c : ∀ n, n ≤ 1099511627776 → WalkR n
  | 0, _ => fun t G a c nm acc d e4 e8 e10 w O hsz => by rw [Fm.rowT_eq] at hsz; simp at hsz
  | n + 1, h => WalkR_step n (by omega) (WalkR_c n (by omega))

end Go.Proofs.Ytbippghgkbapnaa

namespace Go.Proofs.Ytbippghgkbapnaa
open Go Go.Eng Go.Proofs
mutual
theorem fold_T {nm : List UInt8} {u : Tree} : ∀ (t : Tree) (acc : Int), (∀ x ∈ Fm.rowT t, x.op = 3 → x.kids = []) → (Fm.rowT t).foldl (stepR nm (((Fm.rowT u).length : Int) - 1)) acc = acc + ((Fm.rowT (replT nm u t)).length : Int) - ((Fm.rowT t).length : Int)
  | .mk op name kids, acc, h => by
    have h0 : op = 3 → kids = [] := h (.mk op name kids) (by rw [Fm.rowT_eq]; simp)
    have hL := fold_L (nm := nm) (u := u) kids
    have e1 : Fm.rowT (.mk op name kids) = .mk op name kids :: Fm.rowL kids := by simp [Fm.rowT]
    have e2 : replT nm u (.mk op name kids) = if op == 3 && name == nm then u else .mk op name (replL nm u kids) := by simp only [replT]
    have e3 : ∀ d, stepR nm d acc (.mk op name kids) = if op == 3 && name == nm then acc + d else acc := fun d => rfl
    rw [e1, e2, List.foldl_cons, e3]
    cases hc : (op == 3 && name == nm) with
    | true =>
      have hk : kids = [] := h0 (by simp at hc; exact hc.1)
      subst hk
      simp [Fm.rowL]
      omega
    | false =>
      have h1 := hL acc (fun x hx => h x (by rw [e1]; simp [hx]))
      have e4 : Fm.rowT (.mk op name (replL nm u kids)) = .mk op name (replL nm u kids) :: Fm.rowL (replL nm u kids) := by simp [Fm.rowT]
      simp only [Bool.false_eq_true, if_false]
      rw [h1, e4]
      simp only [List.length_cons]
      omega
theorem fold_L {nm : List UInt8} {u : Tree} : ∀ (ks : List Tree) (acc : Int), (∀ x ∈ Fm.rowL ks, x.op = 3 → x.kids = []) → (Fm.rowL ks).foldl (stepR nm (((Fm.rowT u).length : Int) - 1)) acc = acc + ((Fm.rowL (replL nm u ks)).length : Int) - ((Fm.rowL ks).length : Int)
  | [], acc, _ => by simp [Fm.rowL, replL]
  | k :: ks, acc, h => by
    have h1 := fold_T (nm := nm) (u := u) k acc (fun x hx => h x (by simp [Fm.rowL, hx]))
    have h2 := fold_L (nm := nm) (u := u) ks (acc + ((Fm.rowT (replT nm u k)).length : Int) - ((Fm.rowT k).length : Int)) (fun x hx => h x (by simp [Fm.rowL, hx]))
    simp only [Fm.rowL, replL, List.foldl_append, List.length_append]
    rw [h1, h2]
    omega
end
theorem valid_leaf {t : Tree} (h : Fm.validB t = true) : ∀ x ∈ Fm.rowT t, x.op = 3 → x.kids = [] := by
  intro x hx h3
  rw [← Fm.refValid_eq, Fm.refValid] at h
  simp only [Bool.and_eq_true, decide_eq_true_eq, List.all_eq_true] at h
  have h1 := h.1.1 x hx
  unfold Fm.oneB at h1
  rw [if_pos h3] at h1
  simp at h1
  exact h1.1
def repE (nm : List UInt8) (u t : Tree) : Tree × Int :=
  if !Fm.validB t || !Fm.validB u then (Fm.zeroTree, 2) else if !Fm.isNameB nm then (Fm.zeroTree, 6) else if Fm.validB (replT nm u t) then (replT nm u t, 0) else (Fm.zeroTree, 5)

theorem Replace_c (t u : Tree) (nm : List UInt8) (wb : World) (G H : List Nat) (a a2 : Option Addr) (c c2 : Nat) (hr : rdT wb t G (tv t a c)) (hr2 : rdT wb u H (tv u a2 c2)) :
    Calls Try.prog 40 [tv t a c, .string (str nm), tv u a2 c2].toArray wb fun e w' => ∃ y : List Nat × Option Addr × Nat, e = .returned (.tuple #[tv (repE nm u t).1 y.2.1 y.2.2, .int .i64 (repE nm u t).2]) ∧ St wb [] [own y.1 (repE nm u t).1 (tv (repE nm u t).1 y.2.1 y.2.2)] w' := by
  refine enter Try.func40 rfl Try.ntmps40 rfl (St.init _) ?_
  refine WC.seq ?_
  refine WC.region ?_
  refine WL.step ?_
  refine WL.boxN rfl rfl (fun b3 => ?_)
  refine WL.step ?_
  refine WL.box1 rfl rfl rfl (fun b4 => ?_)
  refine WL.step ?_
  refine WL.boxN rfl rfl (fun b5 => ?_)
  refine WL.step ?_
  refine WL.alloc F.zero25 rfl (fun b6 => ?_)
  refine WL.step ?_
  refine WL.assign rfl rfl ?_
  refine WL.nil ?_
  refine WQ.then_normal ?_
  refine WC.seq ?_
  refine WC.block ?_
  refine WC.seq ?_
  refine WC.cutF [(13, .bool (!Fm.validB t || !Fm.validB u)), (3, pp b3), (4, pp b4), (5, pp b5), (6, pp b6), (7, .int .i64 0)] (fun Q' hQ => ?_) ?_
  · skip
    refine WC.region ?_
    refine WL.step ?_
    refine WL.loadW F.agg25 rfl rfl (by repeat (first | exact List.Mem.head _ | apply List.Mem.tail)) rfl ?_
    refine WL.step ?_
    refine WL.callV F.fun30 rfl rfl (fun w hS => Valid_c t G a c w (((Ext.refl wb).st hS).tree hr)) ?_
    refine WL.step ?_
    refine WL.not rfl rfl ?_
    refine WL.step ?_
    refine WL.move rfl rfl ?_
    refine WA.splitB (i := 17) rfl (fun g17 => ?_) (fun g17 => ?_)
    · skip
      refine WL.step (WL.guardF rfl rfl rfl rfl rfl rfl ?_)
      refine WL.step (WL.guardF rfl rfl rfl rfl rfl rfl ?_)
      refine WL.step (WL.guardF rfl rfl rfl rfl rfl rfl ?_)
      refine WL.step ?_
      refine WL.pickT rfl rfl rfl ?_
      refine WL.step ?_
      refine WL.assign rfl rfl ?_
      refine WL.nil ?_
      refine WQ.byCut hQ (subF_bool ?_ ⟨rfl, rfl, rfl, rfl, rfl, trivial⟩ rfl)
      first | (rw [g17, Bool.true_or]) | (rw [g17, Bool.false_or])
    · skip
      refine WL.step (WL.guardT rfl rfl rfl ?_)
      refine WL.loadW F.agg25 rfl rfl (by repeat (first | exact List.Mem.head _ | apply List.Mem.tail)) rfl ?_
      refine WL.step (WL.guardT rfl rfl rfl ?_)
      refine WL.callV F.fun30 rfl rfl (fun w hS => Valid_c u H a2 c2 w (((Ext.refl wb).st hS).tree hr2)) ?_
      refine WL.step (WL.guardT rfl rfl rfl ?_)
      refine WL.not rfl rfl ?_
      refine WL.step ?_
      refine WL.pickF rfl rfl rfl ?_
      refine WL.step ?_
      refine WL.assign rfl rfl ?_
      refine WL.nil ?_
      refine WQ.byCut hQ (subF_bool ?_ ⟨rfl, rfl, rfl, rfl, rfl, trivial⟩ rfl)
      first | (rw [g17, Bool.true_or]) | (rw [g17, Bool.false_or])
  refine WQ.then_normal ?_
  refine WC.cond rfl (fun h13 => ?_) (fun h13 => ?_)
  · skip
    have hres : repE nm u t = (Fm.zeroTree, 2) := by unfold repE; rw [if_pos h13]
    refine WC.seq ?_
    refine WC.region ?_
    refine WL.step ?_
    refine WL.build F.stT25 rfl (by repeat (first | exact Built.nil | apply Built.one rfl rfl (by repeat constructor) | apply Built.agg rfl rfl (by repeat constructor))) rfl ?_
    refine WL.step ?_
    refine WL.storeN F.agg25 rfl rfl rfl (by simp [Value.oneCell']) (by repeat (first | exact Upd.here | apply Upd.there)) (by repeat constructor) ?_
    refine WL.step ?_
    refine WL.assign rfl rfl ?_
    refine WL.nil ?_
    refine WQ.then_normal ?_
    refine WC.ret ?_
    refine WQ.block_ret ?_
    refine WQ.then_ret ?_
    refine WQ.ret (rs := [.cell 6 25, .tmp 7]) rfl (.cellN F.agg25 rfl (by repeat (first | exact List.Mem.head _ | apply List.Mem.tail)) rfl (.tmp rfl .nil)) (fun w hS => ⟨([], none, 0), by rw [hres]; rfl, ?_⟩)
    rw [hres]
    exact (St.node0 0 [] hS).one1
  · skip
    have hvt : Fm.validB t = true := by (simp at h13; exact h13.1)
    have hvu : Fm.validB u = true := by (simp at h13; exact h13.2)
    have hs1 := (valid_all hvt).2
    have hs2 := (valid_all hvu).2
    have hu1 : 1 ≤ (Fm.rowT u).length := by rw [Fm.rowT_eq]; simp
    refine WC.seq ?_
    refine WC.region ?_
    refine WL.step ?_
    refine WL.loadP F.one9 rfl rfl (by repeat (first | exact List.Mem.head _ | apply List.Mem.tail)) rfl ?_
    refine WL.step ?_
    refine WL.callV F.fun79 rfl rfl (fun w _ => isName_c nm w) ?_
    refine WL.step ?_
    refine WL.not rfl rfl ?_
    refine WL.step ?_
    refine WL.assign rfl rfl ?_
    refine WL.nil ?_
    refine WQ.then_normal ?_
    refine WC.cond rfl (fun h23 => ?_) (fun h23 => ?_)
    · skip
      have hres : repE nm u t = (Fm.zeroTree, 6) := by unfold repE; rw [if_neg (by rw [h13]; decide), if_pos h23]
      refine WC.seq ?_
      refine WC.region ?_
      refine WL.step ?_
      refine WL.build F.stT25 rfl (by repeat (first | exact Built.nil | apply Built.one rfl rfl (by repeat constructor) | apply Built.agg rfl rfl (by repeat constructor))) rfl ?_
      refine WL.step ?_
      refine WL.storeN F.agg25 rfl rfl rfl (by simp [Value.oneCell']) (by repeat (first | exact Upd.here | apply Upd.there)) (by repeat constructor) ?_
      refine WL.step ?_
      refine WL.assign rfl rfl ?_
      refine WL.nil ?_
      refine WQ.then_normal ?_
      refine WC.ret ?_
      refine WQ.block_ret ?_
      refine WQ.then_ret ?_
      refine WQ.ret (rs := [.cell 6 25, .tmp 7]) rfl (.cellN F.agg25 rfl (by repeat (first | exact List.Mem.head _ | apply List.Mem.tail)) rfl (.tmp rfl .nil)) (fun w hS => ⟨([], none, 0), by rw [hres]; rfl, ?_⟩)
      rw [hres]
      exact (St.node0 0 [] hS).one1
    · skip
      refine WC.skip ?_
      refine WQ.block_normal ?_
      refine WQ.then_normal ?_
      refine WC.seq ?_
      refine WC.region ?_
      refine WL.step ?_
      refine WL.loadW F.agg25 rfl rfl (by repeat (first | exact List.Mem.head _ | apply List.Mem.tail)) rfl ?_
      refine WL.step ?_
      refine WL.callV F.fun35 rfl rfl (fun w hS => Size_c 1000 (by decide) t wb G a c w hs1 hr ((Ext.refl wb).st hS)) ?_
      refine WL.step ?_
      refine WL.move rfl rfl ?_
      refine WL.step ?_
      refine WL.extract rfl rfl rfl ?_
      refine WL.step ?_
      refine WL.extract rfl rfl rfl ?_
      refine WL.step ?_
      refine WL.alloc F.zero3 rfl (fun b8 => ?_)
      refine WL.step ?_
      refine WL.store1 F.one3 rfl rfl rfl (by repeat (first | exact Upd.here | apply Upd.there)) (by repeat constructor) ?_
      refine WL.step ?_
      refine WL.assign rfl rfl ?_
      refine WL.nil ?_
      refine WQ.then_normal ?_
      refine WC.seq ?_
      refine WC.region ?_
      refine WL.step ?_
      refine WL.loadW F.agg25 rfl rfl (by repeat (first | exact List.Mem.head _ | apply List.Mem.tail)) rfl ?_
      refine WL.step ?_
      refine WL.callV F.fun35 rfl rfl (fun w hS => Size_c 1000 (by decide) u wb H a2 c2 w hs2 hr2 ((Ext.refl wb).st hS)) ?_
      refine WL.step ?_
      refine WL.move rfl rfl ?_
      refine WL.step ?_
      refine WL.extract rfl rfl rfl ?_
      refine WL.step ?_
      refine WL.extract rfl rfl rfl ?_
      refine WL.step ?_
      refine WL.alloc F.zero3 rfl (fun b10 => ?_)
      refine WL.step ?_
      refine WL.store1 F.one3 rfl rfl rfl (by repeat (first | exact Upd.here | apply Upd.there)) (by repeat constructor) ?_
      refine WL.step ?_
      refine WL.assign rfl rfl ?_
      refine WL.nil ?_
      refine WQ.then_normal ?_
      refine WC.seq ?_
      refine WC.region ?_
      refine WL.step ?_
      refine WL.loadW F.agg25 rfl rfl (by repeat (first | exact List.Mem.head _ | apply List.Mem.tail)) rfl ?_
      refine WL.step ?_
      refine WL.makeFunc rfl rfl rfl ?_
      obtain ⟨d, hd⟩ : ∃ d : Int, ((Fm.rowT u).length : Int) = d + 1 := ⟨((Fm.rowT u).length : Int) - 1, by omega⟩
      rw [hd]
      have hdb : 0 ≤ d ∧ d ≤ 2000 := by omega
      have htot : ((Fm.rowT t).foldl (stepR nm d) ((Fm.rowT t).length : Int)) = ((Fm.rowT (replT nm u t)).length : Int) := by
        have h9 := fold_T (nm := nm) (u := u) t ((Fm.rowT t).length : Int) (valid_leaf hvt)
        rw [hd, show d + 1 - 1 = d by omega] at h9
        rw [h9]; omega
      refine WL.step ?_
      refine WA.chunks (C' := [pt b4 [.string (str nm)] 9, pt b8 [.int .i64 ((Fm.rowT t).length : Int)] 3, pt b10 [.int .i64 (d + 1)] 3, pt b3 [Value.int .u8 t.op, .string (str t.name), .slice a t.kids.length c] 25, pt b5 [Value.int .u8 u.op, .string (str u.name), .slice a2 u.kids.length c2] 25, pt b6 [Value.int .u8 0, .string (str []), .slice none 0 0] 25]) (fun w hS => ((St.pick (St.pick (St.pick (St.pick (St.pick (St.pick hS (c := pt b6 [Value.int .u8 0, .string (str []), .slice none 0 0] 25) (by repeat (first | exact Rem.here | apply Rem.there))) (c := pt b5 [Value.int .u8 u.op, .string (str u.name), .slice a2 u.kids.length c2] 25) (by repeat (first | exact Rem.here | apply Rem.there))) (c := pt b3 [Value.int .u8 t.op, .string (str t.name), .slice a t.kids.length c] 25) (by repeat (first | exact Rem.here | apply Rem.there))) (c := pt b10 [.int .i64 (d + 1)] 3) (by repeat (first | exact Rem.here | apply Rem.there))) (c := pt b8 [.int .i64 ((Fm.rowT t).length : Int)] 3) (by repeat (first | exact Rem.here | apply Rem.there))) (c := pt b4 [.string (str nm)] 9) (by repeat (first | exact Rem.here | apply Rem.there)))).sublist (List.Sublist.cons_cons _ (List.Sublist.cons_cons _ (List.Sublist.cons_cons _ (List.Sublist.cons_cons _ (List.Sublist.cons_cons _ (List.Sublist.cons_cons _ (List.nil_sublist _)))))))) ?_
      refine WL.callC (β := Unit) (res := fun _ => .tuple #[]) (cs := fun _ => [pt b4 [.string (str nm)] 9, pt b8 [.int .i64 ((Fm.rowT t).foldl (stepR nm d) ((Fm.rowT t).length : Int))] 3, pt b10 [.int .i64 (d + 1)] 3]) (Cs := [pt b4 [.string (str nm)] 9, pt b8 [.int .i64 ((Fm.rowT t).length : Int)] 3, pt b10 [.int .i64 (d + 1)] 3]) (C1 := [pt b3 [Value.int .u8 t.op, .string (str t.name), .slice a t.kids.length c] 25, pt b5 [Value.int .u8 u.op, .string (str u.name), .slice a2 u.kids.length c2] 25, pt b6 [Value.int .u8 0, .string (str []), .slice none 0 0] 25]) (O' := [b4, b8, b10]) F.fun76 (fun d h => by cases h; rfl) rfl (List.Perm.refl _) RqC_O1 (RqC_O2 (nm := nm) (acc := ((Fm.rowT t).length : Int)) (d := d)) (fun w hS hS2 => WalkR_c 1000 (by decide) t G a c nm _ d b4 b8 b10 w _ hs1 hdb (by omega) (hS.oldT hr (fun z hz => ⟨rdT_lt hr z hz, by simp⟩)) (fun z hz => RqC_sep (nm := nm) (acc := ((Fm.rowT t).length : Int)) (d := d) hS (rdT_lt hr z hz) (by simp)) hS2) (fun x40 => ?_)
      refine WL.nil ?_
      refine WQ.then_normal ?_
      refine WC.seq ?_
      refine WC.seq ?_
      refine WC.region ?_
      refine WL.step ?_
      refine WL.loadP F.one3 rfl rfl (by repeat (first | exact List.Mem.head _ | apply List.Mem.tail)) rfl ?_
      refine WL.step ?_
      refine WL.gtI rfl rfl rfl ?_
      refine WL.nil ?_
      refine WQ.then_normal ?_
      refine WC.cond rfl (fun h42 => ?_) (fun h42 => ?_)
      · skip
        have hres : repE nm u t = (Fm.zeroTree, 5) := by
          have h9 : ¬ Fm.validB (replT nm u t) = true := fun hv => by
            have := (valid_all hv).2
            rw [htot] at h42; simp at h42; omega
          unfold repE; rw [if_neg (by rw [h13]; decide), if_neg (by rw [h23]; decide), if_neg h9]
        refine WC.seq ?_
        refine WC.region ?_
        refine WL.step ?_
        refine WL.build F.stT25 rfl (by repeat (first | exact Built.nil | apply Built.one rfl rfl (by repeat constructor) | apply Built.agg rfl rfl (by repeat constructor))) rfl ?_
        refine WL.step ?_
        refine WL.storeN F.agg25 rfl rfl rfl (by simp [Value.oneCell']) (by repeat (first | exact Upd.here | apply Upd.there)) (by repeat constructor) ?_
        refine WL.step ?_
        refine WL.assign rfl rfl ?_
        refine WL.nil ?_
        refine WQ.then_normal ?_
        refine WC.ret ?_
        refine WQ.then_ret ?_
        refine WQ.ret (rs := [.cell 6 25, .tmp 7]) rfl (.cellN F.agg25 rfl (by repeat (first | exact List.Mem.head _ | apply List.Mem.tail)) rfl (.tmp rfl .nil)) (fun w hS => ⟨([], none, 0), by rw [hres]; rfl, ?_⟩)
        rw [hres]
        exact (St.node0 0 [] hS).one1
      · skip
        refine WC.skip ?_
        refine WQ.then_normal ?_
        refine WC.seq ?_
        refine WC.region ?_
        refine WL.step ?_
        refine WL.loadW F.agg25 rfl rfl (by repeat (first | exact List.Mem.head _ | apply List.Mem.tail)) rfl ?_
        refine WL.step ?_
        refine WL.loadP F.one9 rfl rfl (by repeat (first | exact List.Mem.head _ | apply List.Mem.tail)) rfl ?_
        refine WL.step ?_
        refine WL.loadW F.agg25 rfl rfl (by repeat (first | exact List.Mem.head _ | apply List.Mem.tail)) rfl ?_
        refine WL.step ?_
        refine WL.callC (β := List Nat × Option Addr × Nat) (res := fun y => tv (replT nm u t) y.2.1 y.2.2) (cs := fun y => [own y.1 (replT nm u t) (tv (replT nm u t) y.2.1 y.2.2)]) (Cs := []) (O' := []) F.fun81 (fun d h => by cases h; rfl) rfl (List.Perm.refl _) (by simp) (by simp) (fun w hS _ => Rep_c 1000 (by decide) t u nm wb G H a a2 c c2 w hs1 (by omega) hr hr2 ((Ext.refl wb).st hS)) (fun y47 => ?_)
        refine WL.step ?_
        refine WL.alloc F.zero25 rfl (fun b12 => ?_)
        refine WL.step ?_
        refine WL.storeN F.agg25 rfl rfl rfl (by simp [Value.oneCell']) (by repeat (first | exact Upd.here | apply Upd.there)) (by repeat constructor) ?_
        refine WL.nil ?_
        refine WQ.then_normal ?_
        refine WC.seq ?_
        refine WC.seq ?_
        refine WC.region ?_
        refine WL.step ?_
        refine WL.loadW F.agg25 rfl rfl (by repeat (first | exact List.Mem.head _ | apply List.Mem.tail)) rfl ?_
        refine WL.step ?_
        refine WL.callV F.fun30 rfl rfl (fun w hS => Valid_c (replT nm u t) y47.1 y47.2.1 y47.2.2 w (hS.ok (own y47.1 (replT nm u t) (tv (replT nm u t) y47.2.1 y47.2.2)) (by repeat (first | exact List.Mem.head _ | apply List.Mem.tail))).2) ?_
        refine WL.step ?_
        refine WL.not rfl rfl ?_
        refine WL.nil ?_
        refine WQ.then_normal ?_
        refine WC.cond rfl (fun h50 => ?_) (fun h50 => ?_)
        · skip
          have hres : repE nm u t = (Fm.zeroTree, 5) := by
            unfold repE; rw [if_neg (by rw [h13]; decide), if_neg (by rw [h23]; decide), if_neg (by simpa using h50)]
          refine WC.seq ?_
          refine WC.region ?_
          refine WL.step ?_
          refine WL.build F.stT25 rfl (by repeat (first | exact Built.nil | apply Built.one rfl rfl (by repeat constructor) | apply Built.agg rfl rfl (by repeat constructor))) rfl ?_
          refine WL.step ?_
          refine WL.storeN F.agg25 rfl rfl rfl (by simp [Value.oneCell']) (by repeat (first | exact Upd.here | apply Upd.there)) (by repeat constructor) ?_
          refine WL.step ?_
          refine WL.assign rfl rfl ?_
          refine WL.nil ?_
          refine WQ.then_normal ?_
          refine WC.ret ?_
          refine WQ.then_ret ?_
          refine WQ.ret (rs := [.cell 6 25, .tmp 7]) rfl (.cellN F.agg25 rfl (by repeat (first | exact List.Mem.head _ | apply List.Mem.tail)) rfl (.tmp rfl .nil)) (fun w hS => ⟨([], none, 0), by rw [hres]; rfl, ?_⟩)
          rw [hres]
          exact (St.node0 0 [] hS).one1
        · skip
          have hres : repE nm u t = (replT nm u t, 0) := by
            unfold repE; rw [if_neg (by rw [h13]; decide), if_neg (by rw [h23]; decide), if_pos (by simpa using h50)]
          refine WC.skip ?_
          refine WQ.then_normal ?_
          refine WC.seq ?_
          refine WC.region ?_
          refine WL.step ?_
          refine WL.loadW F.agg25 rfl rfl (by repeat (first | exact List.Mem.head _ | apply List.Mem.tail)) rfl ?_
          refine WL.step ?_
          refine WL.storeN F.agg25 rfl rfl rfl (by simp [Value.oneCell']) (by repeat (first | exact Upd.here | apply Upd.there)) (by repeat constructor) ?_
          refine WL.step ?_
          refine WL.assign rfl rfl ?_
          refine WL.nil ?_
          refine WQ.then_normal ?_
          refine WC.ret ?_
          refine WQ.ret (rs := [.cell 6 25, .tmp 7]) rfl (.cellN F.agg25 rfl (by repeat (first | exact List.Mem.head _ | apply List.Mem.tail)) rfl (.tmp rfl .nil)) (fun w hS => ⟨y47, by rw [hres]; rfl, ?_⟩)
          rw [hres]
          exact ((St.pick hS (c := own y47.1 (replT nm u t) (tv (replT nm u t) y47.2.1 y47.2.2)) (by repeat (first | exact Rem.here | apply Rem.there)))).sublist (List.Sublist.cons_cons _ (List.nil_sublist _))

end Go.Proofs.Ytbippghgkbapnaa

namespace Go.Proofs.Ytbippghgkbapnaa
open Go Go.Eng Go.Proofs
def RpdC (n : Nat) : Prop := ∀ (t u : Tree) (nm : List UInt8) (wb : World) (G H : List Nat) (a a2 : Option Addr) (c c2 : Nat) (w : World), (Fm.rowT t).length ≤ n → rdT wb t G (tv t a c) → rdT wb u H (tv u a2 c2) → Ext wb w →
  Calls Try.prog 42 [tv t a c, .string (str nm), tv u a2 c2].toArray w fun e w' => ∃ y : List Nat × Option Addr × Nat, e = .returned (tv (replT nm u t) y.2.1 y.2.2) ∧ St w [] [shr wb y.1 (replT nm u t) (tv (replT nm u t) y.2.1 y.2.2)] w'
theorem rdT_zero (w : World) : rdT w Fm.zeroTree [] (tv Fm.zeroTree none 0) := by
  simp only [Fm.zeroTree, rdT]
  exact ⟨_, rfl, .inl ⟨trivial, trivial, none, 0, rfl⟩⟩

theorem Rpd_step (n : Nat) (hn : n ≤ 1099511627776) (hrec : RpdC n) : RpdC (n + 1) := by
  intro t u nm wb G H a a2 c c2 w hsz hr hr2 hE
  refine enter Try.func42 rfl Try.ntmps42 rfl (St.init _) ?_
  refine WC.seq ?_
  refine WC.region ?_
  refine WL.step ?_
  refine WL.boxN rfl rfl (fun b3 => ?_)
  refine WL.step ?_
  refine WL.boxN rfl rfl (fun b5 => ?_)
  refine WL.step ?_
  refine WL.alloc F.zero25 rfl (fun b6 => ?_)
  refine WL.nil ?_
  refine WQ.then_normal ?_
  refine WC.seq ?_
  refine WC.seq ?_
  refine WC.cutF [(17, .bool (t.op == 3 && t.name == nm)), (1, .string (str nm)), (3, pp b3), (5, pp b5), (6, pp b6)] (fun Q' hQ => ?_) ?_
  · skip
    refine WC.region ?_
    refine WL.step ?_
    refine WL.fieldAddr0 F.fld25_0 rfl rfl ?_
    refine WL.step ?_
    refine WL.loadP F.one5 rfl rfl (by repeat (first | exact List.Mem.head _ | apply List.Mem.tail)) rfl ?_
    refine WL.step ?_
    refine WL.eqI rfl rfl rfl ?_
    refine WL.step ?_
    refine WL.move rfl rfl ?_
    refine WA.splitB (i := 12) rfl (fun g12 => ?_) (fun g12 => ?_)
    · skip
      refine WL.step (WL.guardT rfl rfl rfl ?_)
      refine WL.fieldAddr0 F.fld25_1 rfl rfl ?_
      refine WL.step (WL.guardT rfl rfl rfl ?_)
      refine WL.loadP F.one9 rfl rfl (by repeat (first | exact List.Mem.head _ | apply List.Mem.tail)) rfl ?_
      refine WL.step (WL.guardT rfl rfl rfl ?_)
      refine WL.move rfl rfl ?_
      refine WL.step (WL.guardT rfl rfl rfl ?_)
      refine WL.eqS rfl rfl rfl ?_
      refine WL.step ?_
      refine WL.pickT rfl rfl rfl ?_
      refine WL.nil ?_
      refine WQ.byCut hQ (subF_bool ?_ ⟨rfl, rfl, rfl, rfl, trivial⟩ rfl)
      first | (rw [g12, Bool.true_and]) | (rw [g12, Bool.false_and])
    · skip
      refine WL.step (WL.guardF rfl rfl rfl rfl rfl rfl ?_)
      refine WL.step (WL.guardF rfl rfl rfl rfl rfl rfl ?_)
      refine WL.step (WL.guardF rfl rfl rfl rfl rfl rfl ?_)
      refine WL.step (WL.guardF rfl rfl rfl rfl rfl rfl ?_)
      refine WL.step ?_
      refine WL.pickF rfl rfl rfl ?_
      refine WL.nil ?_
      refine WQ.byCut hQ (subF_bool ?_ ⟨rfl, rfl, rfl, rfl, trivial⟩ rfl)
      first | (rw [g12, Bool.true_and]) | (rw [g12, Bool.false_and])
  refine WQ.then_normal ?_
  refine WC.cond rfl (fun h17 => ?_) (fun h17 => ?_)
  · skip
    have hR : replT nm u t = u := by rw [replT_eq, if_pos h17]
    refine WC.seq ?_
    refine WC.region ?_
    refine WL.step ?_
    refine WL.loadW F.agg25 rfl rfl (by repeat (first | exact List.Mem.head _ | apply List.Mem.tail)) rfl ?_
    refine WL.step ?_
    refine WL.storeN F.agg25 rfl rfl rfl (by simp [Value.oneCell']) (by repeat (first | exact Upd.here | apply Upd.there)) (by repeat constructor) ?_
    refine WL.nil ?_
    refine WQ.then_normal ?_
    refine WC.ret ?_
    refine WQ.then_ret ?_
    refine WQ.ret (rs := [.cell 6 25]) rfl (.cellN F.agg25 rfl (by repeat (first | exact List.Mem.head _ | apply List.Mem.tail)) rfl .nil) (fun w hS => ⟨([], a2, c2), by rw [hR]; rfl, ?_⟩)
    rw [hR]
    exact (St.shrLeaf hS hr2 (fun k hk => rdT_lt hr2 k hk)).one1
  · skip
    have hR : replT nm u t = .mk t.op t.name (t.kids.map (replT nm u)) := by rw [replT_eq, if_neg (by rw [h17]; decide)]
    refine WC.skip ?_
    refine WQ.then_normal ?_
    refine WC.seq ?_
    refine WC.region ?_
    refine WL.step ?_
    refine WL.fieldAddr0 F.fld25_0 rfl rfl ?_
    refine WL.step ?_
    refine WL.loadP F.one5 rfl rfl (by repeat (first | exact List.Mem.head _ | apply List.Mem.tail)) rfl ?_
    refine WL.step ?_
    refine WL.fieldAddr0 F.fld25_1 rfl rfl ?_
    refine WL.step ?_
    refine WL.loadP F.one9 rfl rfl (by repeat (first | exact List.Mem.head _ | apply List.Mem.tail)) rfl ?_
    refine WL.step ?_
    refine WL.build F.stT25 rfl (by repeat (first | exact Built.nil | apply Built.one rfl rfl (by repeat constructor) | apply Built.agg rfl rfl (by repeat constructor))) rfl ?_
    refine WL.step ?_
    refine WL.alloc F.zero25 rfl (fun b7 => ?_)
    refine WL.step ?_
    refine WL.storeN F.agg25 rfl rfl rfl (by simp [Value.oneCell']) (by repeat (first | exact Upd.here | apply Upd.there)) (by repeat constructor) ?_
    refine WL.nil ?_
    refine WQ.then_normal ?_
    refine WC.seq ?_
    refine WC.seq ?_
    refine WC.region ?_
    refine WL.step ?_
    refine WL.assign rfl rfl ?_
    refine WL.nil ?_
    refine WQ.then_normal ?_
    refine WC.block ?_
    refine WC.chunks (C' := [pt b3 [Value.int .u8 t.op, .string (str t.name), .slice a t.kids.length c] 25, pt b5 [Value.int .u8 u.op, .string (str u.name), .slice a2 u.kids.length c2] 25, pt b6 [Value.int .u8 0, .string (str []), .slice none 0 0] 25, pt b7 [Value.int .u8 t.op, .string (str t.name), .slice none 0 0] 25, rowc (.slice none 0 0) 0 25 3 [], shrL wb [] [] []]) (fun w hS => ?_) ?_
    · exact ((St.pick (St.pick (St.pick (St.pick (St.pick (St.pick ((hS.rowNil 25 3).shrNil wb) (c := shrL wb [] [] []) (by repeat (first | exact Rem.here | apply Rem.there))) (c := rowc (.slice none 0 0) 0 25 3 []) (by repeat (first | exact Rem.here | apply Rem.there))) (c := pt b7 [Value.int .u8 t.op, .string (str t.name), .slice none 0 0] 25) (by repeat (first | exact Rem.here | apply Rem.there))) (c := pt b6 [Value.int .u8 0, .string (str []), .slice none 0 0] 25) (by repeat (first | exact Rem.here | apply Rem.there))) (c := pt b5 [Value.int .u8 u.op, .string (str u.name), .slice a2 u.kids.length c2] 25) (by repeat (first | exact Rem.here | apply Rem.there))) (c := pt b3 [Value.int .u8 t.op, .string (str t.name), .slice a t.kids.length c] 25) (by repeat (first | exact Rem.here | apply Rem.there)))).sublist (List.Sublist.cons_cons _ (List.Sublist.cons_cons _ (List.Sublist.cons_cons _ (List.Sublist.cons_cons _ (List.Sublist.cons_cons _ (List.Sublist.cons_cons _ (List.nil_sublist _)))))))
    refine WC.loop (α := CG) (fun g => g.i ≤ t.kids.length) (fun g => [(1, .string (str nm)), (3, pp b3), (5, pp b5), (6, pp b6), (7, pp b7), (8, .int .i64 (g.i : Int))]) (fun g => [pt b3 [Value.int .u8 t.op, .string (str t.name), .slice a t.kids.length c] 25, pt b5 [Value.int .u8 u.op, .string (str u.name), .slice a2 u.kids.length c2] 25, pt b6 [Value.int .u8 0, .string (str []), .slice none 0 0] 25, pt b7 [Value.int .u8 t.op, .string (str t.name), .slice g.ad g.i g.cap] 25, rowc (.slice g.ad g.i g.cap) g.i 25 3 (flat g.vs), shrL wb g.F (List.map (replT nm u) (t.kids.take g.i)) g.vs]) (fun g => t.kids.length - g.i) (⟨0, [], [], none, 0⟩) ?_ ?_ ?_ ?_
    · exact Nat.zero_le _
    · exact ⟨rfl, rfl, rfl, rfl, rfl, rfl, trivial⟩
    · rfl
    rintro ⟨i, Fb, vs, ad, cap⟩ hi
    dsimp only at hi
    show WC _ _ _ _ _ _ _ [(1, .string (str nm)), (3, pp b3), (5, pp b5), (6, pp b6), (7, pp b7), (8, .int .i64 (i : Int))] [pt b3 [Value.int .u8 t.op, .string (str t.name), .slice a t.kids.length c] 25, pt b5 [Value.int .u8 u.op, .string (str u.name), .slice a2 u.kids.length c2] 25, pt b6 [Value.int .u8 0, .string (str []), .slice none 0 0] 25, pt b7 [Value.int .u8 t.op, .string (str t.name), .slice ad i cap] 25, rowc (.slice ad i cap) i 25 3 (flat vs), shrL wb Fb (List.map (replT nm u) (t.kids.take i)) vs]
    refine WC.seq ?_
    refine WC.seq ?_
    refine WC.region ?_
    refine WL.step ?_
    refine WL.move rfl rfl ?_
    refine WL.step ?_
    refine WL.fieldAddr0 F.fld25_2 rfl rfl ?_
    refine WL.step ?_
    refine WL.loadP F.one23 rfl rfl (by repeat (first | exact List.Mem.head _ | apply List.Mem.tail)) rfl ?_
    refine WL.step ?_
    refine WL.lenSl F.und23 rfl rfl ?_
    refine WL.step ?_
    refine WL.ltI rfl rfl rfl ?_
    refine WL.nil ?_
    refine WQ.then_normal ?_
    refine WC.cond rfl (fun h28 => ?_) (fun h28 => ?_)
    · skip
      have hlt : i < t.kids.length := by simpa using h28
      obtain ⟨k, hk⟩ : ∃ k, t.kids[i]? = some k := ⟨_, List.getElem?_eq_getElem hlt⟩
      obtain ⟨b, off, F1, a1, c1, rfl, hb, hF1, hrk, hck⟩ := rdT_at hr hk
      have hks := Fm.rowT_kid hk
      have hkl := Fm.kids_le t
      refine WC.skip ?_
      refine WQ.then_normal ?_
      refine WC.seq ?_
      refine WC.block ?_
      refine WC.drawsL (by kernel_rfl) (FactsOk.cons (ds := [11, 13]) (LoadOk.one (t := 7) (off := 2) rfl (by repeat (first | exact List.Mem.head _ | apply List.Mem.tail)) rfl) (FactsOk.cons (ds := [9, 10, 11, 13]) (LoadOk.one (t := 3) (off := 2) rfl (by repeat (first | exact List.Mem.head _ | apply List.Mem.tail)) rfl) (FactsOk.cons (ds := [9, 10, 11, 13]) (LoadOk.by (Y := fun w => ∀ j v, [Value.int .u8 k.op, .string (str k.name), .slice a1 k.kids.length c1][j]? = some v → w.cell? ⟨b, off + i * 3 + j, none⟩ = some v) (fun w hS => fun j v hv => (hE.st hS).cell (hck j v hv))) (FactsOk.cons (ds := [9, 10, 11, 13]) (LoadOk.whole (t := 5) rfl (by repeat (first | exact List.Mem.head _ | apply List.Mem.tail))) (FactsOk.nil))))) ?_
      refine WD.take (i := 0) rfl rfl rfl rfl (by kernel_rfl) (by kernel_rfl) (by kernel_rfl) (fun _ _ _ h => h) (by kernel_rfl) need_none (Yl.fieldAddr0 F.fld25_2 rfl) ?_
      refine WD.take (i := 1) rfl rfl rfl rfl (by kernel_rfl) (by kernel_rfl) (by kernel_rfl) (fun _ _ _ h => h) (by kernel_rfl) (need_at 0 14 rfl (by kernel_rfl)) (Yl.load1 F.one23 rfl) ?_
      refine WD.take (i := 2) rfl rfl rfl rfl (by kernel_rfl) (by kernel_rfl) (by kernel_rfl) (fun _ _ _ h => h) (by kernel_rfl) need_none (Yl.fieldAddr0 F.fld25_2 rfl) ?_
      refine WD.take (i := 3) rfl rfl rfl rfl (by kernel_rfl) (by kernel_rfl) (by kernel_rfl) (fun _ _ _ h => h) (by kernel_rfl) (need_at 1 14 rfl (by kernel_rfl)) (Yl.load1 F.one23 rfl) ?_
      refine WD.take (i := 4) rfl rfl rfl rfl (by kernel_rfl) (by kernel_rfl) (by kernel_rfl) (fun _ _ _ h => h) (by kernel_rfl) need_none (Yl.move rfl) ?_
      refine WD.take (i := 5) rfl rfl rfl rfl (by kernel_rfl) (by kernel_rfl) (by kernel_rfl) (fun _ _ _ h => h) (by kernel_rfl) need_none (Yl.indexAddr F.sl23 rfl rfl hlt) ?_
      refine WD.take (i := 6) rfl rfl rfl rfl (by kernel_rfl) (by kernel_rfl) (by kernel_rfl) (fun _ _ _ h => h) (by kernel_rfl) (need_at 2 14 rfl (by kernel_rfl)) (Yl.loadN F.agg25 rfl rfl) ?_
      refine WD.take (i := 7) rfl rfl rfl rfl (by kernel_rfl) (by kernel_rfl) (by kernel_rfl) (fun _ _ _ h => h) (by kernel_rfl) need_none (Yl.move rfl) ?_
      refine WD.take (i := 8) rfl rfl rfl rfl (by kernel_rfl) (by kernel_rfl) (by kernel_rfl) (fun _ _ _ h => h) (by kernel_rfl) (need_at 3 14 rfl (by kernel_rfl)) (Yl.loadN F.agg25 rfl rfl) ?_
      refine WD.one (i := 9) (by kernel_rfl) rfl ?_
      refine WL.callC (β := List Nat × Option Addr × Nat) (res := fun y => tv (replT nm u k) y.2.1 y.2.2) (cs := fun y => [shr wb y.1 (replT nm u k) (tv (replT nm u k) y.2.1 y.2.2)]) (Cs := []) (O' := []) F.fun42 (fun d h => by cases h; rfl) rfl (List.Perm.refl _) (by simp) (by simp) (fun w hS _ => hrec k u nm wb F1 H a1 a2 c1 c2 w (by omega) hrk hr2 (hE.st hS)) (fun y40 => ?_)
      refine WD.on (closed_of (by kernel_rfl)) (fun w hS => Sx.keep (hS.cell (by repeat (first | exact List.Mem.head _ | apply List.Mem.tail)) rfl) (Sx.gone rfl (Sx.gone rfl (Sx.gone rfl (Sx.none))))) ?_
      refine WD.one (i := 10) (by kernel_rfl) rfl ?_
      refine WL.buildSlice F.sl23 F.ez23 rfl rfl rfl rfl (by repeat (first | exact Built.nil | apply Built.one rfl rfl (by repeat constructor) | apply Built.agg rfl rfl (by repeat constructor))) rfl (fun b41 => ?_)
      refine WD.on (closed_of (by kernel_rfl)) (fun w hS => Sx.keep (hS.cell (by repeat (first | exact List.Mem.head _ | apply List.Mem.tail)) rfl) (Sx.gone rfl (Sx.gone rfl (Sx.gone rfl (Sx.none))))) ?_
      refine WD.one (i := 11) (by kernel_rfl) rfl ?_
      refine WL.appendE (news := [Value.int .u8 (replT nm u k).op, .string (str (replT nm u k).name), .slice y40.2.1 (replT nm u k).kids.length y40.2.2]) F.el23 rfl rfl rfl (by repeat (first | exact Rem.here | apply Rem.there)) (fun w hS jj uu hu => by rw [Nat.zero_add]; exact hS.cell (cs := [Value.int .u8 (replT nm u k).op, .string (str (replT nm u k).name), .slice y40.2.1 (replT nm u k).kids.length y40.2.2]) (by repeat (first | exact List.Mem.head _ | apply List.Mem.tail)) hu) rfl (by simp [Value.oneCell']) (Nat.le_trans (m := 1099511627777) (by omega) (by decide)) (by omega) (fun ad3 cap3 => ?_)
      refine WD.on (closed_of (by kernel_rfl)) (fun w hS => Sx.gone rfl (Sx.gone rfl (Sx.gone rfl (Sx.gone rfl (Sx.none))))) ?_
      refine WD.take (i := 12) rfl rfl rfl rfl (by kernel_rfl) (by kernel_rfl) (by kernel_rfl) (fun _ _ _ h => h) (by kernel_rfl) need_none (Yl.fieldAddr0 F.fld25_2 rfl) ?_
      refine WD.one (i := 13) (by kernel_rfl) rfl ?_
      refine WL.store1 F.one23 rfl rfl rfl (by repeat (first | exact Upd.here | apply Upd.there)) (by repeat constructor) ?_
      refine WD.on (closed_of (by kernel_rfl)) (fun w hS => Sx.gone rfl (Sx.gone rfl (Sx.gone rfl (Sx.gone rfl (Sx.none))))) ?_
      refine WD.done (by kernel_rfl) ?_
      refine WQ.block_normal ?_
      refine WQ.then_normal ?_
      refine WC.region ?_
      refine WL.step ?_
      refine WL.move rfl rfl ?_
      refine WL.step ?_
      refine WL.add rfl rfl rfl ⟨by omega, by omega⟩ ?_
      refine WL.step ?_
      refine WL.assign rfl rfl ?_
      refine WL.nil ?_
      refine WQ.chunks (C' := [pt b3 [Value.int .u8 t.op, .string (str t.name), .slice (some ⟨b, off, none⟩) t.kids.length c] 25, pt b5 [Value.int .u8 u.op, .string (str u.name), .slice a2 u.kids.length c2] 25, pt b6 [Value.int .u8 0, .string (str []), .slice none 0 0] 25, pt b7 [Value.int .u8 t.op, .string (str t.name), .slice ad3 (i + 1) cap3] 25, rowc (.slice ad3 (i + 1) cap3) (i + 1) 25 3 (flat vs ++ [Value.int .u8 (replT nm u k).op, .string (str (replT nm u k).name), .slice y40.2.1 (replT nm u k).kids.length y40.2.2]), shrL wb (Fb ++ y40.1) ((List.map (replT nm u) (t.kids.take i)) ++ [(replT nm u k)]) (vs ++ [(tv (replT nm u k) y40.2.1 y40.2.2)])]) (fun w hS => ?_) ?_
      · have h2 := St.shrSnoc (St.pick (St.pick hS (c := shr wb y40.1 (replT nm u k) (tv (replT nm u k) y40.2.1 y40.2.2)) (by repeat (first | exact Rem.here | apply Rem.there))) (c := shrL wb Fb (List.map (replT nm u) (t.kids.take i)) vs) (by repeat (first | exact Rem.here | apply Rem.there)))
        exact ((St.pick (St.pick (St.pick (St.pick (St.pick (St.pick h2 (c := shrL wb (Fb ++ y40.1) ((List.map (replT nm u) (t.kids.take i)) ++ [(replT nm u k)]) (vs ++ [(tv (replT nm u k) y40.2.1 y40.2.2)])) (by repeat (first | exact Rem.here | apply Rem.there))) (c := rowc (.slice ad3 (i + 1) cap3) (i + 1) 25 3 (flat vs ++ [Value.int .u8 (replT nm u k).op, .string (str (replT nm u k).name), .slice y40.2.1 (replT nm u k).kids.length y40.2.2])) (by repeat (first | exact Rem.here | apply Rem.there))) (c := pt b7 [Value.int .u8 t.op, .string (str t.name), .slice ad3 (i + 1) cap3] 25) (by repeat (first | exact Rem.here | apply Rem.there))) (c := pt b6 [Value.int .u8 0, .string (str []), .slice none 0 0] 25) (by repeat (first | exact Rem.here | apply Rem.there))) (c := pt b5 [Value.int .u8 u.op, .string (str u.name), .slice a2 u.kids.length c2] 25) (by repeat (first | exact Rem.here | apply Rem.there))) (c := pt b3 [Value.int .u8 t.op, .string (str t.name), .slice (some ⟨b, off, none⟩) t.kids.length c] 25) (by repeat (first | exact Rem.here | apply Rem.there)))).sublist (List.Sublist.cons_cons _ (List.Sublist.cons_cons _ (List.Sublist.cons_cons _ (List.Sublist.cons_cons _ (List.Sublist.cons_cons _ (List.Sublist.cons_cons _ (List.nil_sublist _)))))))
      have e1 : (List.map (replT nm u) (t.kids.take i)) ++ [(replT nm u k)] = (List.map (replT nm u) (t.kids.take (i + 1))) := by rw [List.take_add_one, hk]; simp
      have e2 : flat vs ++ [Value.int .u8 (replT nm u k).op, .string (str (replT nm u k).name), .slice y40.2.1 (replT nm u k).kids.length y40.2.2] = flat (vs ++ [(tv (replT nm u k) y40.2.1 y40.2.2)]) := by rw [flat_append]; simp [flat, tv, Value.cells]
      rw [e1, e2]
      refine WQ.back (⟨i + 1, Fb ++ y40.1, vs ++ [(tv (replT nm u k) y40.2.1 y40.2.2)], ad3, cap3⟩) ?_ ?_ ?_ ?_
      · exact (show i + 1 ≤ t.kids.length by omega)
      · (show t.kids.length - (i + 1) < t.kids.length - i; omega)
      · exact ⟨rfl, rfl, rfl, rfl, rfl, rfl, trivial⟩
      · rfl
    · skip
      have hie : i = t.kids.length := by simp at h28; omega
      subst hie
      rw [List.take_length]
      refine WC.exit ?_
      refine WQ.then_exit ?_
      refine WQ.then_exit ?_
      refine WQ.block_exit ?_
      refine WQ.then_normal ?_
      refine WC.seq ?_
      refine WC.region ?_
      refine WL.step ?_
      refine WL.loadW F.agg25 rfl rfl (by repeat (first | exact List.Mem.head _ | apply List.Mem.tail)) rfl ?_
      refine WL.step ?_
      refine WL.storeN F.agg25 rfl rfl rfl (by simp [Value.oneCell']) (by repeat (first | exact Upd.here | apply Upd.there)) (by repeat constructor) ?_
      refine WL.nil ?_
      refine WQ.then_normal ?_
      refine WC.ret ?_
      refine WQ.ret (rs := [.cell 6 25]) rfl (.cellN F.agg25 rfl (by repeat (first | exact List.Mem.head _ | apply List.Mem.tail)) rfl .nil) (fun w hS => ?_)
      obtain ⟨F2, h2⟩ := St.shrNode (ts := t.kids.map (replT nm u)) t.op t.name (by simp) (St.pick (St.pick hS (c := shrL wb Fb (List.map (replT nm u) t.kids) vs) (by repeat (first | exact Rem.here | apply Rem.there))) (c := rowc (.slice ad t.kids.length cap) t.kids.length 25 3 (flat vs)) (by repeat (first | exact Rem.here | apply Rem.there)))
      have e9 : (Value.agg [Value.int .u8 t.op, .string (str t.name), .slice ad t.kids.length cap].toArray) = tv (replT nm u t) ad cap := by rw [hR]; simp [tv, Tree.op, Tree.name, Tree.kids]
      rw [← hR] at h2
      refine ⟨(F2, ad, cap), congrArg Ending.returned e9, ?_⟩
      show St _ [] [shr wb F2 (replT nm u t) (tv (replT nm u t) ad cap)] w
      rw [← e9]
      exact h2.one1

theorem Rpd_c : ∀ n, n ≤ 1099511627776 → RpdC n
  | 0, _ => fun t u nm wb G H a a2 c c2 w hsz => by rw [Fm.rowT_eq] at hsz; simp at hsz
  | n + 1, h => Rpd_step n (by omega) (Rpd_c n (by omega))
theorem repl_small {nm : List UInt8} {u t : Tree} (hvt : Fm.validB t = true) (hs1 : (Fm.rowT t).length ≤ 1000) (hs2 : (Fm.rowT u).length ≤ 1000) : (Fm.rowT (replT nm u t)).length ≤ 3000000 := by
  have hu1 : 1 ≤ (Fm.rowT u).length := by rw [Fm.rowT_eq]; simp
  have h9 := fold_T (nm := nm) (u := u) t ((Fm.rowT t).length : Int) (valid_leaf hvt)
  have h8 := foldR_le nm (d := ((Fm.rowT u).length : Int) - 1) (by omega) (Fm.rowT t) ((Fm.rowT t).length : Int)
  omega

theorem rReplace_c (t u : Tree) (nm : List UInt8) (wb : World) (G H : List Nat) (a a2 : Option Addr) (c c2 : Nat) (hr : rdT wb t G (tv t a c)) (hr2 : rdT wb u H (tv u a2 c2)) (hb1 : (Fm.rowT t).length ≤ 1099511627776) (hb2 : (Fm.rowT u).length ≤ 1099511627776) (w : World) (hE : Ext wb w) :
    Calls Try.prog 41 [tv t a c, .string (str nm), tv u a2 c2].toArray w fun e w' => ∃ y : List Nat × Option Addr × Nat, e = .returned (.tuple #[tv (repE nm u t).1 y.2.1 y.2.2, .int .i64 (repE nm u t).2]) ∧ St w [] [shr wb y.1 (repE nm u t).1 (tv (repE nm u t).1 y.2.1 y.2.2)] w' := by
  refine enter Try.func41 rfl Try.ntmps41 rfl (St.init _) ?_
  refine WC.seq ?_
  refine WC.region ?_
  refine WL.step ?_
  refine WL.boxN rfl rfl (fun b3 => ?_)
  refine WL.step ?_
  refine WL.boxN rfl rfl (fun b5 => ?_)
  refine WL.step ?_
  refine WL.alloc F.zero25 rfl (fun b6 => ?_)
  refine WL.step ?_
  refine WL.assign rfl rfl ?_
  refine WL.nil ?_
  refine WQ.then_normal ?_
  refine WC.seq ?_
  refine WC.seq ?_
  refine WC.cutF [(16, .bool (!Fm.validB t || !Fm.validB u)), (1, .string (str nm)), (3, pp b3), (5, pp b5), (6, pp b6), (7, .int .i64 0)] (fun Q' hQ => ?_) ?_
  · skip
    refine WC.region ?_
    refine WL.step ?_
    refine WL.loadW F.agg25 rfl rfl (by repeat (first | exact List.Mem.head _ | apply List.Mem.tail)) rfl ?_
    refine WL.step ?_
    refine WL.callV (v := .bool (Fm.validB t)) F.fun20 rfl rfl (fun w hS => by have h9 := rvalid_c t wb G a c w (by omega) hr (hE.st hS); rw [Fm.refValid_eq] at h9; exact h9) ?_
    refine WL.step ?_
    refine WL.not rfl rfl ?_
    refine WL.step ?_
    refine WL.move rfl rfl ?_
    refine WA.splitB (i := 12) rfl (fun g12 => ?_) (fun g12 => ?_)
    · skip
      refine WL.step (WL.guardF rfl rfl rfl rfl rfl rfl ?_)
      refine WL.step (WL.guardF rfl rfl rfl rfl rfl rfl ?_)
      refine WL.step (WL.guardF rfl rfl rfl rfl rfl rfl ?_)
      refine WL.step ?_
      refine WL.pickT rfl rfl rfl ?_
      refine WL.nil ?_
      refine WQ.byCut hQ (subF_bool ?_ ⟨rfl, rfl, rfl, rfl, rfl, trivial⟩ rfl)
      first | (rw [g12, Bool.true_or]) | (rw [g12, Bool.false_or])
    · skip
      refine WL.step (WL.guardT rfl rfl rfl ?_)
      refine WL.loadW F.agg25 rfl rfl (by repeat (first | exact List.Mem.head _ | apply List.Mem.tail)) rfl ?_
      refine WL.step (WL.guardT rfl rfl rfl ?_)
      refine WL.callV (v := .bool (Fm.validB u)) F.fun20 rfl rfl (fun w hS => by have h9 := rvalid_c u wb H a2 c2 w (by omega) hr2 (hE.st hS); rw [Fm.refValid_eq] at h9; exact h9) ?_
      refine WL.step (WL.guardT rfl rfl rfl ?_)
      refine WL.not rfl rfl ?_
      refine WL.step ?_
      refine WL.pickF rfl rfl rfl ?_
      refine WL.nil ?_
      refine WQ.byCut hQ (subF_bool ?_ ⟨rfl, rfl, rfl, rfl, rfl, trivial⟩ rfl)
      first | (rw [g12, Bool.true_or]) | (rw [g12, Bool.false_or])
  refine WQ.then_normal ?_
  refine WC.cond rfl (fun h13 => ?_) (fun h13 => ?_)
  · skip
    have hres : repE nm u t = (Fm.zeroTree, 2) := by unfold repE; rw [if_pos h13]
    refine WC.seq ?_
    refine WC.region ?_
    refine WL.step ?_
    refine WL.build F.stT25 rfl (by repeat (first | exact Built.nil | apply Built.one rfl rfl (by repeat constructor) | apply Built.agg rfl rfl (by repeat constructor))) rfl ?_
    refine WL.step ?_
    refine WL.storeN F.agg25 rfl rfl rfl (by simp [Value.oneCell']) (by repeat (first | exact Upd.here | apply Upd.there)) (by repeat constructor) ?_
    refine WL.step ?_
    refine WL.assign rfl rfl ?_
    refine WL.nil ?_
    refine WQ.then_normal ?_
    refine WC.ret ?_
    refine WQ.then_ret ?_
    refine WQ.ret (rs := [.cell 6 25, .tmp 7]) rfl (.cellN F.agg25 rfl (by repeat (first | exact List.Mem.head _ | apply List.Mem.tail)) rfl (.tmp rfl .nil)) (fun w hS => ⟨([], none, 0), by rw [hres]; rfl, ?_⟩)
    rw [hres]
    exact (St.shrLeaf hS (rdT_zero wb) (by simp)).one1
  · skip
    have hvt : Fm.validB t = true := by (simp at h13; exact h13.1)
    have hvu : Fm.validB u = true := by (simp at h13; exact h13.2)
    have hs1 := (valid_all hvt).2
    have hs2 := (valid_all hvu).2
    have hsr := repl_small (nm := nm) (u := u) hvt hs1 hs2
    refine WC.skip ?_
    refine WQ.then_normal ?_
    refine WC.seq ?_
    refine WC.seq ?_
    refine WC.region ?_
    refine WL.step ?_
    refine WL.move rfl rfl ?_
    refine WL.step ?_
    refine WL.callV F.fun82 rfl rfl (fun w _ => refIsName_c nm w) ?_
    refine WL.step ?_
    refine WL.not rfl rfl ?_
    refine WL.nil ?_
    refine WQ.then_normal ?_
    refine WC.cond rfl (fun h23 => ?_) (fun h23 => ?_)
    · skip
      have hres : repE nm u t = (Fm.zeroTree, 6) := by unfold repE; rw [if_neg (by rw [h13]; decide), if_pos h23]
      refine WC.seq ?_
      refine WC.region ?_
      refine WL.step ?_
      refine WL.build F.stT25 rfl (by repeat (first | exact Built.nil | apply Built.one rfl rfl (by repeat constructor) | apply Built.agg rfl rfl (by repeat constructor))) rfl ?_
      refine WL.step ?_
      refine WL.storeN F.agg25 rfl rfl rfl (by simp [Value.oneCell']) (by repeat (first | exact Upd.here | apply Upd.there)) (by repeat constructor) ?_
      refine WL.step ?_
      refine WL.assign rfl rfl ?_
      refine WL.nil ?_
      refine WQ.then_normal ?_
      refine WC.ret ?_
      refine WQ.then_ret ?_
      refine WQ.ret (rs := [.cell 6 25, .tmp 7]) rfl (.cellN F.agg25 rfl (by repeat (first | exact List.Mem.head _ | apply List.Mem.tail)) rfl (.tmp rfl .nil)) (fun w hS => ⟨([], none, 0), by rw [hres]; rfl, ?_⟩)
      rw [hres]
      exact (St.shrLeaf hS (rdT_zero wb) (by simp)).one1
    · skip
      refine WC.skip ?_
      refine WQ.then_normal ?_
      refine WC.seq ?_
      refine WC.region ?_
      refine WL.step ?_
      refine WL.loadW F.agg25 rfl rfl (by repeat (first | exact List.Mem.head _ | apply List.Mem.tail)) rfl ?_
      refine WL.step ?_
      refine WL.move rfl rfl ?_
      refine WL.step ?_
      refine WL.loadW F.agg25 rfl rfl (by repeat (first | exact List.Mem.head _ | apply List.Mem.tail)) rfl ?_
      refine WL.step ?_
      refine WL.callC (β := List Nat × Option Addr × Nat) (res := fun y => tv (replT nm u t) y.2.1 y.2.2) (cs := fun y => [shr wb y.1 (replT nm u t) (tv (replT nm u t) y.2.1 y.2.2)]) (Cs := []) (O' := []) F.fun42 (fun d h => by cases h; rfl) rfl (List.Perm.refl _) (by simp) (by simp) (fun w hS _ => Rpd_c 1000 (by decide) t u nm wb G H a a2 c c2 w hs1 hr hr2 (hE.st hS)) (fun y47 => ?_)
      refine WL.step ?_
      refine WL.alloc F.zero25 rfl (fun b8 => ?_)
      refine WL.step ?_
      refine WL.storeN F.agg25 rfl rfl rfl (by simp [Value.oneCell']) (by repeat (first | exact Upd.here | apply Upd.there)) (by repeat constructor) ?_
      refine WL.nil ?_
      refine WQ.then_normal ?_
      refine WC.seq ?_
      refine WC.seq ?_
      refine WC.region ?_
      refine WL.step ?_
      refine WL.loadW F.agg25 rfl rfl (by repeat (first | exact List.Mem.head _ | apply List.Mem.tail)) rfl ?_
      refine WL.step ?_
      refine WL.callV (v := .bool (Fm.validB (replT nm u t))) F.fun20 rfl rfl (fun w hS => by obtain ⟨G2, hG2⟩ := shr_reads hS (t := replT nm u t) (F := y47.1) (v := tv (replT nm u t) y47.2.1 y47.2.2) (by repeat (first | exact List.Mem.head _ | apply List.Mem.tail)) (hE.st hS); have h9 := rvalid_c (replT nm u t) w G2 y47.2.1 y47.2.2 w (by omega) hG2 (Ext.refl w); rw [Fm.refValid_eq] at h9; exact h9) ?_
      refine WL.step ?_
      refine WL.not rfl rfl ?_
      refine WL.nil ?_
      refine WQ.then_normal ?_
      refine WC.cond rfl (fun h50 => ?_) (fun h50 => ?_)
      · skip
        have hres : repE nm u t = (Fm.zeroTree, 5) := by
          unfold repE; rw [if_neg (by rw [h13]; decide), if_neg (by rw [h23]; decide), if_neg (by simpa using h50)]
        refine WC.seq ?_
        refine WC.region ?_
        refine WL.step ?_
        refine WL.build F.stT25 rfl (by repeat (first | exact Built.nil | apply Built.one rfl rfl (by repeat constructor) | apply Built.agg rfl rfl (by repeat constructor))) rfl ?_
        refine WL.step ?_
        refine WL.storeN F.agg25 rfl rfl rfl (by simp [Value.oneCell']) (by repeat (first | exact Upd.here | apply Upd.there)) (by repeat constructor) ?_
        refine WL.step ?_
        refine WL.assign rfl rfl ?_
        refine WL.nil ?_
        refine WQ.then_normal ?_
        refine WC.ret ?_
        refine WQ.then_ret ?_
        refine WQ.ret (rs := [.cell 6 25, .tmp 7]) rfl (.cellN F.agg25 rfl (by repeat (first | exact List.Mem.head _ | apply List.Mem.tail)) rfl (.tmp rfl .nil)) (fun w hS => ⟨([], none, 0), by rw [hres]; rfl, ?_⟩)
        rw [hres]
        exact (St.shrLeaf hS (rdT_zero wb) (by simp)).one1
      · skip
        have hres : repE nm u t = (replT nm u t, 0) := by
          unfold repE; rw [if_neg (by rw [h13]; decide), if_neg (by rw [h23]; decide), if_pos (by simpa using h50)]
        refine WC.skip ?_
        refine WQ.then_normal ?_
        refine WC.seq ?_
        refine WC.region ?_
        refine WL.step ?_
        refine WL.loadW F.agg25 rfl rfl (by repeat (first | exact List.Mem.head _ | apply List.Mem.tail)) rfl ?_
        refine WL.step ?_
        refine WL.storeN F.agg25 rfl rfl rfl (by simp [Value.oneCell']) (by repeat (first | exact Upd.here | apply Upd.there)) (by repeat constructor) ?_
        refine WL.step ?_
        refine WL.assign rfl rfl ?_
        refine WL.nil ?_
        refine WQ.then_normal ?_
        refine WC.ret ?_
        refine WQ.ret (rs := [.cell 6 25, .tmp 7]) rfl (.cellN F.agg25 rfl (by repeat (first | exact List.Mem.head _ | apply List.Mem.tail)) rfl (.tmp rfl .nil)) (fun w hS => ⟨y47, by rw [hres]; rfl, ?_⟩)
        rw [hres]
        exact ((St.pick hS (c := shr wb y47.1 (replT nm u t) (tv (replT nm u t) y47.2.1 y47.2.2)) (by repeat (first | exact Rem.here | apply Rem.there)))).sublist (List.Sublist.cons_cons _ (List.nil_sublist _))

end Go.Proofs.Ytbippghgkbapnaa

namespace Go.Proofs.Ytbippghgkbapnaa
open Go Go.Eng Go.Proofs
theorem repE_small (nm : List UInt8) (u t : Tree) : (Fm.rowT (repE nm u t).1).length ≤ 1200 := by
  have hz : (Fm.rowT Fm.zeroTree).length ≤ 1200 := by simp [Fm.zeroTree, Fm.rowT, Fm.rowL]
  unfold repE
  split
  · exact hz
  · split
    · exact hz
    · split
      · rename_i h
        have := (valid_all h).2
        show (Fm.rowT (replT nm u t)).length ≤ 1200
        omega
      · exact hz

theorem FormulaReplaces_c (t : Tree) (G : List Nat) (a : Option Addr) (c : Nat) (s : List UInt8) (u : Tree) (H : List Nat) (a2 : Option Addr) (c2 : Nat) (wb : World) (hr : rdT wb t G (tv t a c)) (hr2 : rdT wb u H (tv u a2 c2)) : Pure Try.prog 11 [tv t a c, .string (str s), tv u a2 c2] wb (.bool true) := by
  refine enter Try.func11 rfl Try.ntmps11 rfl (St.init _) ?_
  refine WC.seq ?_
  refine WC.region ?_
  refine WL.step ?_
  refine WL.boxN rfl rfl (fun b3 => ?_)
  refine WL.step ?_
  refine WL.boxN rfl rfl (fun b5 => ?_)
  refine WL.step ?_
  refine WL.assign rfl rfl ?_
  refine WL.nil ?_
  refine WQ.then_normal ?_
  refine WC.seq ?_
  refine WC.seq ?_
  refine WC.cutF [(35, .bool ((Fm.greatB t 100 || Fm.greatB u 100) || (decide (100 < (s.length : Int)) || (decide (100 < ((Fm.rowT t).length : Int)) && decide (100 < ((Fm.rowT u).length : Int)))))), (1, .string (str s)), (3, pp b3), (5, pp b5)] (fun Q' hQ => ?_) ?_
  · skip
    refine WC.region ?_
    refine WL.step ?_
    refine WL.loadW F.agg25 rfl rfl (by repeat (first | exact List.Mem.head _ | apply List.Mem.tail)) rfl ?_
    refine WL.step ?_
    refine WL.callV F.fun17 rfl rfl (fun w hS => great_c t 100 (by omega) wb G a c w hr ((Ext.refl wb).st hS)) ?_
    refine WL.step ?_
    refine WL.move rfl rfl ?_
    refine WA.splitB (i := 15) rfl (fun g15 => ?_) (fun g15 => ?_)
    · skip
      refine WL.step (WL.guardF rfl rfl rfl rfl rfl rfl ?_)
      refine WL.step (WL.guardF rfl rfl rfl rfl rfl rfl ?_)
      refine WL.step ?_
      refine WL.pickT rfl rfl rfl ?_
      refine WL.step ?_
      refine WL.move rfl rfl ?_
      refine WL.step (WL.guardF rfl rfl rfl rfl rfl rfl ?_)
      refine WL.step (WL.guardF rfl rfl rfl rfl rfl rfl ?_)
      refine WL.step (WL.guardF rfl rfl rfl rfl rfl rfl ?_)
      refine WL.step ?_
      refine WL.pickT rfl rfl rfl ?_
      refine WL.step ?_
      refine WL.move rfl rfl ?_
      refine WL.step (WL.guardF rfl rfl rfl rfl rfl rfl ?_)
      refine WL.step (WL.guardF rfl rfl rfl rfl rfl rfl ?_)
      refine WL.step (WL.guardF rfl rfl rfl rfl rfl rfl ?_)
      refine WL.step (WL.guardF rfl rfl rfl rfl rfl rfl ?_)
      refine WL.step (WL.guardF rfl rfl rfl rfl rfl rfl ?_)
      refine WL.step (WL.guardU rfl rfl rfl rfl rfl ?_)
      refine WL.step (WL.guardU rfl rfl rfl rfl rfl ?_)
      refine WL.step (WL.guardU rfl rfl rfl rfl rfl ?_)
      refine WL.step (WL.guardU rfl rfl rfl rfl rfl ?_)
      refine WL.step (WL.guardF rfl rfl rfl rfl rfl rfl ?_)
      refine WL.step ?_
      refine WL.pickT rfl rfl rfl ?_
      refine WL.nil ?_
      refine WQ.chunks (C' := [pt b5 [Value.int .u8 u.op, .string (str u.name), .slice a2 u.kids.length c2] 25, pt b3 [Value.int .u8 t.op, .string (str t.name), .slice a t.kids.length c] 25]) (fun w hS => ((St.pick (St.pick hS (c := pt b3 [Value.int .u8 t.op, .string (str t.name), .slice a t.kids.length c] 25) (by repeat (first | exact Rem.here | apply Rem.there))) (c := pt b5 [Value.int .u8 u.op, .string (str u.name), .slice a2 u.kids.length c2] 25) (by repeat (first | exact Rem.here | apply Rem.there)))).sublist (List.Sublist.cons_cons _ (List.Sublist.cons_cons _ (List.nil_sublist _)))) ?_
      refine WQ.byCut hQ (subF_bool ?_ ⟨rfl, rfl, rfl, trivial⟩ rfl)
      first | (simp [g15]; done) | (simp [g15, g19]; done) | (simp [g15, g19, g24]; done) | (simp [g15, g19, g24, g29]; done) | (simp_all; done)
    · skip
      obtain ⟨hsz, hlv, hsn⟩ := Fm.great_no g15
      refine WL.step (WL.guardT rfl rfl rfl ?_)
      refine WL.loadW F.agg25 rfl rfl (by repeat (first | exact List.Mem.head _ | apply List.Mem.tail)) rfl ?_
      refine WL.step (WL.guardT rfl rfl rfl ?_)
      refine WL.callV F.fun17 rfl rfl (fun w hS => great_c u 100 (by omega) wb H a2 c2 w hr2 ((Ext.refl wb).st hS)) ?_
      refine WL.step ?_
      refine WL.pickF rfl rfl rfl ?_
      refine WL.step ?_
      refine WL.move rfl rfl ?_
      refine WA.splitB (i := 19) rfl (fun g19 => ?_) (fun g19 => ?_)
      · skip
        refine WL.step (WL.guardF rfl rfl rfl rfl rfl rfl ?_)
        refine WL.step (WL.guardF rfl rfl rfl rfl rfl rfl ?_)
        refine WL.step (WL.guardF rfl rfl rfl rfl rfl rfl ?_)
        refine WL.step ?_
        refine WL.pickT rfl rfl rfl ?_
        refine WL.step ?_
        refine WL.move rfl rfl ?_
        refine WL.step (WL.guardF rfl rfl rfl rfl rfl rfl ?_)
        refine WL.step (WL.guardF rfl rfl rfl rfl rfl rfl ?_)
        refine WL.step (WL.guardF rfl rfl rfl rfl rfl rfl ?_)
        refine WL.step (WL.guardF rfl rfl rfl rfl rfl rfl ?_)
        refine WL.step (WL.guardF rfl rfl rfl rfl rfl rfl ?_)
        refine WL.step (WL.guardU rfl rfl rfl rfl rfl ?_)
        refine WL.step (WL.guardU rfl rfl rfl rfl rfl ?_)
        refine WL.step (WL.guardU rfl rfl rfl rfl rfl ?_)
        refine WL.step (WL.guardU rfl rfl rfl rfl rfl ?_)
        refine WL.step (WL.guardF rfl rfl rfl rfl rfl rfl ?_)
        refine WL.step ?_
        refine WL.pickT rfl rfl rfl ?_
        refine WL.nil ?_
        refine WQ.chunks (C' := [pt b5 [Value.int .u8 u.op, .string (str u.name), .slice a2 u.kids.length c2] 25, pt b3 [Value.int .u8 t.op, .string (str t.name), .slice a t.kids.length c] 25]) (fun w hS => ((St.pick (St.pick hS (c := pt b3 [Value.int .u8 t.op, .string (str t.name), .slice a t.kids.length c] 25) (by repeat (first | exact Rem.here | apply Rem.there))) (c := pt b5 [Value.int .u8 u.op, .string (str u.name), .slice a2 u.kids.length c2] 25) (by repeat (first | exact Rem.here | apply Rem.there)))).sublist (List.Sublist.cons_cons _ (List.Sublist.cons_cons _ (List.nil_sublist _)))) ?_
        refine WQ.byCut hQ (subF_bool ?_ ⟨rfl, rfl, rfl, trivial⟩ rfl)
        first | (simp [g15]; done) | (simp [g15, g19]; done) | (simp [g15, g19, g24]; done) | (simp [g15, g19, g24, g29]; done) | (simp_all; done)
      · skip
        obtain ⟨hsz2, hlv2, hsn2⟩ := Fm.great_no g19
        refine WL.step (WL.guardT rfl rfl rfl ?_)
        refine WL.move rfl rfl ?_
        refine WL.step (WL.guardT rfl rfl rfl ?_)
        refine WL.lenS F.und9 rfl rfl ?_
        refine WL.step (WL.guardT rfl rfl rfl ?_)
        refine WL.gtI rfl rfl rfl ?_
        refine WL.step ?_
        refine WL.pickF rfl rfl rfl ?_
        refine WL.step ?_
        refine WL.move rfl rfl ?_
        refine WA.splitB (i := 24) rfl (fun g24 => ?_) (fun g24 => ?_)
        · skip
          refine WL.step (WL.guardF rfl rfl rfl rfl rfl rfl ?_)
          refine WL.step (WL.guardF rfl rfl rfl rfl rfl rfl ?_)
          refine WL.step (WL.guardF rfl rfl rfl rfl rfl rfl ?_)
          refine WL.step (WL.guardF rfl rfl rfl rfl rfl rfl ?_)
          refine WL.step (WL.guardF rfl rfl rfl rfl rfl rfl ?_)
          refine WL.step (WL.guardU rfl rfl rfl rfl rfl ?_)
          refine WL.step (WL.guardU rfl rfl rfl rfl rfl ?_)
          refine WL.step (WL.guardU rfl rfl rfl rfl rfl ?_)
          refine WL.step (WL.guardU rfl rfl rfl rfl rfl ?_)
          refine WL.step (WL.guardF rfl rfl rfl rfl rfl rfl ?_)
          refine WL.step ?_
          refine WL.pickT rfl rfl rfl ?_
          refine WL.nil ?_
          refine WQ.chunks (C' := [pt b5 [Value.int .u8 u.op, .string (str u.name), .slice a2 u.kids.length c2] 25, pt b3 [Value.int .u8 t.op, .string (str t.name), .slice a t.kids.length c] 25]) (fun w hS => ((St.pick (St.pick hS (c := pt b3 [Value.int .u8 t.op, .string (str t.name), .slice a t.kids.length c] 25) (by repeat (first | exact Rem.here | apply Rem.there))) (c := pt b5 [Value.int .u8 u.op, .string (str u.name), .slice a2 u.kids.length c2] 25) (by repeat (first | exact Rem.here | apply Rem.there)))).sublist (List.Sublist.cons_cons _ (List.Sublist.cons_cons _ (List.nil_sublist _)))) ?_
          refine WQ.byCut hQ (subF_bool ?_ ⟨rfl, rfl, rfl, trivial⟩ rfl)
          first | (simp [g15]; done) | (simp [g15, g19]; done) | (simp [g15, g19, g24]; done) | (simp [g15, g19, g24, g29]; done) | (simp_all; done)
        · skip
          refine WL.step (WL.guardT rfl rfl rfl ?_)
          refine WL.loadW F.agg25 rfl rfl (by repeat (first | exact List.Mem.head _ | apply List.Mem.tail)) rfl ?_
          refine WL.step (WL.guardT rfl rfl rfl ?_)
          refine WL.callC (β := { y : Option Addr × Nat × List Value // NodesOk wb (Fm.rowT t) y.2.2 }) (res := fun x => .slice x.1.1 (Fm.rowT t).length x.1.2.1) (cs := fun x => [rowc (.slice x.1.1 (Fm.rowT t).length x.1.2.1) (Fm.rowT t).length 25 3 (flat x.1.2.2)]) (Cs := []) (O' := []) F.fun38 (fun d h => by cases h; rfl) rfl (List.Perm.refl _) (by simp) (by simp) (fun w hS _ => Row_c 1200 (by decide) t wb G a c w hsz hr ((Ext.refl wb).st hS)) (fun y26 => ?_)
          refine WL.step (WL.guardT rfl rfl rfl ?_)
          refine WL.lenSl F.und23 rfl rfl ?_
          refine WL.step (WL.guardT rfl rfl rfl ?_)
          refine WL.gtI rfl rfl rfl ?_
          refine WL.step (WL.guardT rfl rfl rfl ?_)
          refine WL.move rfl rfl ?_
          refine WA.splitB (i := 29) rfl (fun g29 => ?_) (fun g29 => ?_)
          · skip
            refine WL.step (WL.guardT rfl rfl rfl ?_)
            refine WL.loadW F.agg25 rfl rfl (by repeat (first | exact List.Mem.head _ | apply List.Mem.tail)) rfl ?_
            refine WL.step (WL.guardT rfl rfl rfl ?_)
            refine WL.callC (β := { y : Option Addr × Nat × List Value // NodesOk wb (Fm.rowT u) y.2.2 }) (res := fun x => .slice x.1.1 (Fm.rowT u).length x.1.2.1) (cs := fun x => [rowc (.slice x.1.1 (Fm.rowT u).length x.1.2.1) (Fm.rowT u).length 25 3 (flat x.1.2.2)]) (Cs := []) (O' := []) F.fun38 (fun d h => by cases h; rfl) rfl (List.Perm.refl _) (by simp) (by simp) (fun w hS _ => Row_c 1200 (by decide) u wb H a2 c2 w hsz2 hr2 ((Ext.refl wb).st hS)) (fun y31 => ?_)
            refine WL.step (WL.guardT rfl rfl rfl ?_)
            refine WL.lenSl F.und23 rfl rfl ?_
            refine WL.step (WL.guardT rfl rfl rfl ?_)
            refine WL.gtI rfl rfl rfl ?_
            refine WL.step (WL.guardT rfl rfl rfl ?_)
            refine WL.pickT rfl rfl rfl ?_
            refine WL.step ?_
            refine WL.pickF rfl rfl rfl ?_
            refine WL.nil ?_
            refine WQ.chunks (C' := [pt b5 [Value.int .u8 u.op, .string (str u.name), .slice a2 u.kids.length c2] 25, pt b3 [Value.int .u8 t.op, .string (str t.name), .slice a t.kids.length c] 25]) (fun w hS => ((St.pick (St.pick hS (c := pt b3 [Value.int .u8 t.op, .string (str t.name), .slice a t.kids.length c] 25) (by repeat (first | exact Rem.here | apply Rem.there))) (c := pt b5 [Value.int .u8 u.op, .string (str u.name), .slice a2 u.kids.length c2] 25) (by repeat (first | exact Rem.here | apply Rem.there)))).sublist (List.Sublist.cons_cons _ (List.Sublist.cons_cons _ (List.nil_sublist _)))) ?_
            refine WQ.byCut hQ (subF_bool ?_ ⟨rfl, rfl, rfl, trivial⟩ rfl)
            first | (simp [g15]; done) | (simp [g15, g19]; done) | (simp [g15, g19, g24]; done) | (simp [g15, g19, g24, g29]; done) | (simp_all; done)
          · skip
            refine WL.step (WL.guardF rfl rfl rfl rfl rfl rfl ?_)
            refine WL.step (WL.guardF rfl rfl rfl rfl rfl rfl ?_)
            refine WL.step (WL.guardF rfl rfl rfl rfl rfl rfl ?_)
            refine WL.step (WL.guardF rfl rfl rfl rfl rfl rfl ?_)
            refine WL.step (WL.guardT rfl rfl rfl ?_)
            refine WL.pickF rfl rfl rfl ?_
            refine WL.step ?_
            refine WL.pickF rfl rfl rfl ?_
            refine WL.nil ?_
            refine WQ.chunks (C' := [pt b5 [Value.int .u8 u.op, .string (str u.name), .slice a2 u.kids.length c2] 25, pt b3 [Value.int .u8 t.op, .string (str t.name), .slice a t.kids.length c] 25]) (fun w hS => ((St.pick (St.pick hS (c := pt b3 [Value.int .u8 t.op, .string (str t.name), .slice a t.kids.length c] 25) (by repeat (first | exact Rem.here | apply Rem.there))) (c := pt b5 [Value.int .u8 u.op, .string (str u.name), .slice a2 u.kids.length c2] 25) (by repeat (first | exact Rem.here | apply Rem.there)))).sublist (List.Sublist.cons_cons _ (List.Sublist.cons_cons _ (List.nil_sublist _)))) ?_
            refine WQ.byCut hQ (subF_bool ?_ ⟨rfl, rfl, rfl, trivial⟩ rfl)
            first | (simp [g15]; done) | (simp [g15, g19]; done) | (simp [g15, g19, g24]; done) | (simp [g15, g19, g24, g29]; done) | (simp_all; done)
  refine WQ.then_normal ?_
  refine WC.cond rfl (fun h35 => ?_) (fun h35 => ?_)
  · skip
    refine WC.seq ?_
    refine WC.region ?_
    refine WL.step ?_
    refine WL.callV F.fun13 rfl rfl (fun w _ => wakes_c w) ?_
    refine WL.step ?_
    refine WL.assign rfl rfl ?_
    refine WL.nil ?_
    refine WQ.then_normal ?_
    refine WC.ret ?_
    refine WQ.then_ret ?_
    exact WQ.ret (rs := [.tmp 6]) rfl (.tmp rfl .nil) (fun w hS => ⟨by first | rfl | simp [tup], hS.sublist (List.nil_sublist _)⟩)
  · skip
    have hg1 : Fm.greatB t 100 = false := by (cases hz : Fm.greatB t 100 with | false => rfl | true => rw [hz] at h35; simp at h35)
    have hg2 : Fm.greatB u 100 = false := by (cases hz : Fm.greatB u 100 with | false => rfl | true => rw [hz] at h35; simp at h35)
    obtain ⟨hsz, hlv, hsn⟩ := Fm.great_no hg1
    obtain ⟨hsz2, hlv2, hsn2⟩ := Fm.great_no hg2
    have hrs := repE_small s u t
    refine WC.skip ?_
    refine WQ.then_normal ?_
    refine WC.seq ?_
    refine WC.cutPE (α := (Nat × Nat) × (List Nat × Option Addr × Nat) × (List Nat × Option Addr × Nat)) (fun x => [(1, .string (str s)), (3, pp b3), (5, pp b5), (7, pp x.1.1), (8, pp x.1.2)]) (fun x => [pt b3 [Value.int .u8 t.op, .string (str t.name), .slice a t.kids.length c] 25, pt b5 [Value.int .u8 u.op, .string (str u.name), .slice a2 u.kids.length c2] 25, pt x.1.1 [Value.int .u8 t.op, .string (str t.name), .slice x.2.1.2.1 t.kids.length x.2.1.2.2] 25, pt x.1.2 [Value.int .u8 u.op, .string (str u.name), .slice x.2.2.2.1 u.kids.length x.2.2.2.2] 25, own x.2.1.1 t (tv t x.2.1.2.1 x.2.1.2.2), own x.2.2.1 u (tv u x.2.2.2.1 x.2.2.2.2)]) (fun c a d v w h => by cases d <;> exact h) (fun Q' hP hQ => ?_) (fun xE => ?_)
    · skip
      refine WC.drawsL (by kernel_rfl) (FactsOk.cons (ds := [1, 3, 6, 7]) (LoadOk.whole (t := 3) rfl (by repeat (first | exact List.Mem.head _ | apply List.Mem.tail))) (FactsOk.cons (ds := [3, 6, 7]) (LoadOk.whole (t := 5) rfl (by repeat (first | exact List.Mem.head _ | apply List.Mem.tail))) (FactsOk.nil))) ?_
      refine WD.take (i := 0) rfl rfl rfl rfl (by decide +kernel) (by decide +kernel) (by decide +kernel) (fun _ _ _ h => hP _ _ _ _ _ h) (by kernel_rfl) (need_at2 0 rfl (by decide +kernel)) (Yl.loadN F.agg25 rfl rfl) ?_
      refine WD.take (i := 2) rfl rfl rfl rfl (by decide +kernel) (by decide +kernel) (by decide +kernel) (fun _ _ _ h => hP _ _ _ _ _ h) (by kernel_rfl) (need_at2 1 rfl (by decide +kernel)) (Yl.loadN F.agg25 rfl rfl) ?_
      refine WD.three (i := 1) (j := 4) (l := 5) (by decide +kernel) rfl rfl rfl ?_ ?_ ?_
      · skip
        refine WL.callC (β := List Nat × Option Addr × Nat) (res := fun y => tv t y.2.1 y.2.2) (cs := fun y => [own y.1 t (tv t y.2.1 y.2.2)]) (Cs := []) (O' := []) F.fun18 (fun d h => by cases h; rfl) rfl (List.Perm.refl _) (by simp) (by simp) (fun w hS _ => Copied_c 1200 (by omega) t wb G a c w (by omega) hr ((Ext.refl wb).st hS)) (fun y38 => ?_)
        refine WD.on (closed_of (by decide +kernel)) (fun w hS => Sx.gone rfl (Sx.keep ((fun j v hv => by rw [Nat.zero_add]; exact hS.cell (by repeat (first | exact List.Mem.head _ | apply List.Mem.tail)) hv)) (Sx.none))) ?_
        refine WD.three (i := 3) (j := 4) (l := 5) (by decide +kernel) rfl rfl rfl ?_ ?_ ?_
        · skip
          refine WL.callC (β := List Nat × Option Addr × Nat) (res := fun y => tv u y.2.1 y.2.2) (cs := fun y => [own y.1 u (tv u y.2.1 y.2.2)]) (Cs := []) (O' := []) F.fun18 (fun d h => by cases h; rfl) rfl (List.Perm.refl _) (by simp) (by simp) (fun w hS _ => Copied_c 1200 (by omega) u wb H a2 c2 w (by omega) hr2 ((Ext.refl wb).st hS)) (fun y40 => ?_)
          refine WD.on (closed_of (by decide +kernel)) (fun w hS => Sx.gone rfl (Sx.gone rfl (Sx.none))) ?_
          refine WD.two (i := 4) (j := 5) (by decide +kernel) rfl rfl ?_ ?_
          · skip
            refine WL.alloc F.zero25 rfl (fun b7 => ?_)
            refine WD.on (closed_of (by decide +kernel)) (fun w hS => Sx.gone rfl (Sx.gone rfl (Sx.none))) ?_
            refine WD.one (i := 5) (by decide +kernel) rfl ?_
            refine WL.alloc F.zero25 rfl (fun b8 => ?_)
            refine WD.on (closed_of (by decide +kernel)) (fun w hS => Sx.gone rfl (Sx.gone rfl (Sx.none))) ?_
            refine WD.one (i := 6) (by decide +kernel) rfl ?_
            refine WL.storeN F.agg25 rfl rfl rfl (by simp [Value.oneCell']) (by repeat (first | exact Upd.here | apply Upd.there)) (by repeat constructor) ?_
            refine WD.on (closed_of (by decide +kernel)) (fun w hS => Sx.gone rfl (Sx.gone rfl (Sx.none))) ?_
            refine WD.one (i := 7) (by decide +kernel) rfl ?_
            refine WL.storeN F.agg25 rfl rfl rfl (by simp [Value.oneCell']) (by repeat (first | exact Upd.here | apply Upd.there)) (by repeat constructor) ?_
            refine WD.on (closed_of (by decide +kernel)) (fun w hS => Sx.gone rfl (Sx.gone rfl (Sx.none))) ?_
            refine WD.done (by decide +kernel) ?_
            refine WQ.chunks (C' := [pt b3 [Value.int .u8 t.op, .string (str t.name), .slice a t.kids.length c] 25, pt b5 [Value.int .u8 u.op, .string (str u.name), .slice a2 u.kids.length c2] 25, pt b7 [Value.int .u8 t.op, .string (str t.name), .slice y38.2.1 t.kids.length y38.2.2] 25, pt b8 [Value.int .u8 u.op, .string (str u.name), .slice y40.2.1 u.kids.length y40.2.2] 25, own y38.1 t (tv t y38.2.1 y38.2.2), own y40.1 u (tv u y40.2.1 y40.2.2)]) (fun w hS => ((St.pick (St.pick (St.pick (St.pick (St.pick (St.pick hS (c := own y40.1 u (tv u y40.2.1 y40.2.2)) (by repeat (first | exact Rem.here | apply Rem.there))) (c := own y38.1 t (tv t y38.2.1 y38.2.2)) (by repeat (first | exact Rem.here | apply Rem.there))) (c := pt b8 [Value.int .u8 u.op, .string (str u.name), .slice y40.2.1 u.kids.length y40.2.2] 25) (by repeat (first | exact Rem.here | apply Rem.there))) (c := pt b7 [Value.int .u8 t.op, .string (str t.name), .slice y38.2.1 t.kids.length y38.2.2] 25) (by repeat (first | exact Rem.here | apply Rem.there))) (c := pt b5 [Value.int .u8 u.op, .string (str u.name), .slice a2 u.kids.length c2] 25) (by repeat (first | exact Rem.here | apply Rem.there))) (c := pt b3 [Value.int .u8 t.op, .string (str t.name), .slice a t.kids.length c] 25) (by repeat (first | exact Rem.here | apply Rem.there)))).sublist (List.Sublist.cons_cons _ (List.Sublist.cons_cons _ (List.Sublist.cons_cons _ (List.Sublist.cons_cons _ (List.Sublist.cons_cons _ (List.Sublist.cons_cons _ (List.nil_sublist _)))))))) ?_
            exact WQ.byCut (hQ ((b7, b8), y38, y40)) ⟨rfl, rfl, rfl, rfl, rfl, trivial⟩
          · skip
            refine WL.alloc F.zero25 rfl (fun b8 => ?_)
            refine WD.on (closed_of (by decide +kernel)) (fun w hS => Sx.gone rfl (Sx.gone rfl (Sx.none))) ?_
            refine WD.one (i := 4) (by decide +kernel) rfl ?_
            refine WL.alloc F.zero25 rfl (fun b7 => ?_)
            refine WD.on (closed_of (by decide +kernel)) (fun w hS => Sx.gone rfl (Sx.gone rfl (Sx.none))) ?_
            refine WD.one (i := 6) (by decide +kernel) rfl ?_
            refine WL.storeN F.agg25 rfl rfl rfl (by simp [Value.oneCell']) (by repeat (first | exact Upd.here | apply Upd.there)) (by repeat constructor) ?_
            refine WD.on (closed_of (by decide +kernel)) (fun w hS => Sx.gone rfl (Sx.gone rfl (Sx.none))) ?_
            refine WD.one (i := 7) (by decide +kernel) rfl ?_
            refine WL.storeN F.agg25 rfl rfl rfl (by simp [Value.oneCell']) (by repeat (first | exact Upd.here | apply Upd.there)) (by repeat constructor) ?_
            refine WD.on (closed_of (by decide +kernel)) (fun w hS => Sx.gone rfl (Sx.gone rfl (Sx.none))) ?_
            refine WD.done (by decide +kernel) ?_
            refine WQ.chunks (C' := [pt b3 [Value.int .u8 t.op, .string (str t.name), .slice a t.kids.length c] 25, pt b5 [Value.int .u8 u.op, .string (str u.name), .slice a2 u.kids.length c2] 25, pt b7 [Value.int .u8 t.op, .string (str t.name), .slice y38.2.1 t.kids.length y38.2.2] 25, pt b8 [Value.int .u8 u.op, .string (str u.name), .slice y40.2.1 u.kids.length y40.2.2] 25, own y38.1 t (tv t y38.2.1 y38.2.2), own y40.1 u (tv u y40.2.1 y40.2.2)]) (fun w hS => ((St.pick (St.pick (St.pick (St.pick (St.pick (St.pick hS (c := own y40.1 u (tv u y40.2.1 y40.2.2)) (by repeat (first | exact Rem.here | apply Rem.there))) (c := own y38.1 t (tv t y38.2.1 y38.2.2)) (by repeat (first | exact Rem.here | apply Rem.there))) (c := pt b8 [Value.int .u8 u.op, .string (str u.name), .slice y40.2.1 u.kids.length y40.2.2] 25) (by repeat (first | exact Rem.here | apply Rem.there))) (c := pt b7 [Value.int .u8 t.op, .string (str t.name), .slice y38.2.1 t.kids.length y38.2.2] 25) (by repeat (first | exact Rem.here | apply Rem.there))) (c := pt b5 [Value.int .u8 u.op, .string (str u.name), .slice a2 u.kids.length c2] 25) (by repeat (first | exact Rem.here | apply Rem.there))) (c := pt b3 [Value.int .u8 t.op, .string (str t.name), .slice a t.kids.length c] 25) (by repeat (first | exact Rem.here | apply Rem.there)))).sublist (List.Sublist.cons_cons _ (List.Sublist.cons_cons _ (List.Sublist.cons_cons _ (List.Sublist.cons_cons _ (List.Sublist.cons_cons _ (List.Sublist.cons_cons _ (List.nil_sublist _)))))))) ?_
            exact WQ.byCut (hQ ((b7, b8), y38, y40)) ⟨rfl, rfl, rfl, rfl, rfl, trivial⟩
        · skip
          refine WL.alloc F.zero25 rfl (fun b7 => ?_)
          refine WD.on (closed_of (by decide +kernel)) (fun w hS => Sx.gone rfl (Sx.keep ((fun j v hv => by rw [Nat.zero_add]; exact hS.cell (by repeat (first | exact List.Mem.head _ | apply List.Mem.tail)) hv)) (Sx.none))) ?_
          refine WD.two (i := 3) (j := 5) (by decide +kernel) rfl rfl ?_ ?_
          · skip
            refine WL.callC (β := List Nat × Option Addr × Nat) (res := fun y => tv u y.2.1 y.2.2) (cs := fun y => [own y.1 u (tv u y.2.1 y.2.2)]) (Cs := []) (O' := []) F.fun18 (fun d h => by cases h; rfl) rfl (List.Perm.refl _) (by simp) (by simp) (fun w hS _ => Copied_c 1200 (by omega) u wb H a2 c2 w (by omega) hr2 ((Ext.refl wb).st hS)) (fun y40 => ?_)
            refine WD.on (closed_of (by decide +kernel)) (fun w hS => Sx.gone rfl (Sx.gone rfl (Sx.none))) ?_
            refine WD.one (i := 5) (by decide +kernel) rfl ?_
            refine WL.alloc F.zero25 rfl (fun b8 => ?_)
            refine WD.on (closed_of (by decide +kernel)) (fun w hS => Sx.gone rfl (Sx.gone rfl (Sx.none))) ?_
            refine WD.one (i := 6) (by decide +kernel) rfl ?_
            refine WL.storeN F.agg25 rfl rfl rfl (by simp [Value.oneCell']) (by repeat (first | exact Upd.here | apply Upd.there)) (by repeat constructor) ?_
            refine WD.on (closed_of (by decide +kernel)) (fun w hS => Sx.gone rfl (Sx.gone rfl (Sx.none))) ?_
            refine WD.one (i := 7) (by decide +kernel) rfl ?_
            refine WL.storeN F.agg25 rfl rfl rfl (by simp [Value.oneCell']) (by repeat (first | exact Upd.here | apply Upd.there)) (by repeat constructor) ?_
            refine WD.on (closed_of (by decide +kernel)) (fun w hS => Sx.gone rfl (Sx.gone rfl (Sx.none))) ?_
            refine WD.done (by decide +kernel) ?_
            refine WQ.chunks (C' := [pt b3 [Value.int .u8 t.op, .string (str t.name), .slice a t.kids.length c] 25, pt b5 [Value.int .u8 u.op, .string (str u.name), .slice a2 u.kids.length c2] 25, pt b7 [Value.int .u8 t.op, .string (str t.name), .slice y38.2.1 t.kids.length y38.2.2] 25, pt b8 [Value.int .u8 u.op, .string (str u.name), .slice y40.2.1 u.kids.length y40.2.2] 25, own y38.1 t (tv t y38.2.1 y38.2.2), own y40.1 u (tv u y40.2.1 y40.2.2)]) (fun w hS => ((St.pick (St.pick (St.pick (St.pick (St.pick (St.pick hS (c := own y40.1 u (tv u y40.2.1 y40.2.2)) (by repeat (first | exact Rem.here | apply Rem.there))) (c := own y38.1 t (tv t y38.2.1 y38.2.2)) (by repeat (first | exact Rem.here | apply Rem.there))) (c := pt b8 [Value.int .u8 u.op, .string (str u.name), .slice y40.2.1 u.kids.length y40.2.2] 25) (by repeat (first | exact Rem.here | apply Rem.there))) (c := pt b7 [Value.int .u8 t.op, .string (str t.name), .slice y38.2.1 t.kids.length y38.2.2] 25) (by repeat (first | exact Rem.here | apply Rem.there))) (c := pt b5 [Value.int .u8 u.op, .string (str u.name), .slice a2 u.kids.length c2] 25) (by repeat (first | exact Rem.here | apply Rem.there))) (c := pt b3 [Value.int .u8 t.op, .string (str t.name), .slice a t.kids.length c] 25) (by repeat (first | exact Rem.here | apply Rem.there)))).sublist (List.Sublist.cons_cons _ (List.Sublist.cons_cons _ (List.Sublist.cons_cons _ (List.Sublist.cons_cons _ (List.Sublist.cons_cons _ (List.Sublist.cons_cons _ (List.nil_sublist _)))))))) ?_
            exact WQ.byCut (hQ ((b7, b8), y38, y40)) ⟨rfl, rfl, rfl, rfl, rfl, trivial⟩
          · skip
            refine WL.alloc F.zero25 rfl (fun b8 => ?_)
            refine WD.on (closed_of (by decide +kernel)) (fun w hS => Sx.gone rfl (Sx.keep ((fun j v hv => by rw [Nat.zero_add]; exact hS.cell (by repeat (first | exact List.Mem.head _ | apply List.Mem.tail)) hv)) (Sx.none))) ?_
            refine WD.one (i := 3) (by decide +kernel) rfl ?_
            refine WL.callC (β := List Nat × Option Addr × Nat) (res := fun y => tv u y.2.1 y.2.2) (cs := fun y => [own y.1 u (tv u y.2.1 y.2.2)]) (Cs := []) (O' := []) F.fun18 (fun d h => by cases h; rfl) rfl (List.Perm.refl _) (by simp) (by simp) (fun w hS _ => Copied_c 1200 (by omega) u wb H a2 c2 w (by omega) hr2 ((Ext.refl wb).st hS)) (fun y40 => ?_)
            refine WD.on (closed_of (by decide +kernel)) (fun w hS => Sx.gone rfl (Sx.gone rfl (Sx.none))) ?_
            refine WD.one (i := 6) (by decide +kernel) rfl ?_
            refine WL.storeN F.agg25 rfl rfl rfl (by simp [Value.oneCell']) (by repeat (first | exact Upd.here | apply Upd.there)) (by repeat constructor) ?_
            refine WD.on (closed_of (by decide +kernel)) (fun w hS => Sx.gone rfl (Sx.gone rfl (Sx.none))) ?_
            refine WD.one (i := 7) (by decide +kernel) rfl ?_
            refine WL.storeN F.agg25 rfl rfl rfl (by simp [Value.oneCell']) (by repeat (first | exact Upd.here | apply Upd.there)) (by repeat constructor) ?_
            refine WD.on (closed_of (by decide +kernel)) (fun w hS => Sx.gone rfl (Sx.gone rfl (Sx.none))) ?_
            refine WD.done (by decide +kernel) ?_
            refine WQ.chunks (C' := [pt b3 [Value.int .u8 t.op, .string (str t.name), .slice a t.kids.length c] 25, pt b5 [Value.int .u8 u.op, .string (str u.name), .slice a2 u.kids.length c2] 25, pt b7 [Value.int .u8 t.op, .string (str t.name), .slice y38.2.1 t.kids.length y38.2.2] 25, pt b8 [Value.int .u8 u.op, .string (str u.name), .slice y40.2.1 u.kids.length y40.2.2] 25, own y38.1 t (tv t y38.2.1 y38.2.2), own y40.1 u (tv u y40.2.1 y40.2.2)]) (fun w hS => ((St.pick (St.pick (St.pick (St.pick (St.pick (St.pick hS (c := own y40.1 u (tv u y40.2.1 y40.2.2)) (by repeat (first | exact Rem.here | apply Rem.there))) (c := own y38.1 t (tv t y38.2.1 y38.2.2)) (by repeat (first | exact Rem.here | apply Rem.there))) (c := pt b8 [Value.int .u8 u.op, .string (str u.name), .slice y40.2.1 u.kids.length y40.2.2] 25) (by repeat (first | exact Rem.here | apply Rem.there))) (c := pt b7 [Value.int .u8 t.op, .string (str t.name), .slice y38.2.1 t.kids.length y38.2.2] 25) (by repeat (first | exact Rem.here | apply Rem.there))) (c := pt b5 [Value.int .u8 u.op, .string (str u.name), .slice a2 u.kids.length c2] 25) (by repeat (first | exact Rem.here | apply Rem.there))) (c := pt b3 [Value.int .u8 t.op, .string (str t.name), .slice a t.kids.length c] 25) (by repeat (first | exact Rem.here | apply Rem.there)))).sublist (List.Sublist.cons_cons _ (List.Sublist.cons_cons _ (List.Sublist.cons_cons _ (List.Sublist.cons_cons _ (List.Sublist.cons_cons _ (List.Sublist.cons_cons _ (List.nil_sublist _)))))))) ?_
            exact WQ.byCut (hQ ((b7, b8), y38, y40)) ⟨rfl, rfl, rfl, rfl, rfl, trivial⟩
        · skip
          refine WL.alloc F.zero25 rfl (fun b8 => ?_)
          refine WD.on (closed_of (by decide +kernel)) (fun w hS => Sx.gone rfl (Sx.keep ((fun j v hv => by rw [Nat.zero_add]; exact hS.cell (by repeat (first | exact List.Mem.head _ | apply List.Mem.tail)) hv)) (Sx.none))) ?_
          refine WD.two (i := 3) (j := 4) (by decide +kernel) rfl rfl ?_ ?_
          · skip
            refine WL.callC (β := List Nat × Option Addr × Nat) (res := fun y => tv u y.2.1 y.2.2) (cs := fun y => [own y.1 u (tv u y.2.1 y.2.2)]) (Cs := []) (O' := []) F.fun18 (fun d h => by cases h; rfl) rfl (List.Perm.refl _) (by simp) (by simp) (fun w hS _ => Copied_c 1200 (by omega) u wb H a2 c2 w (by omega) hr2 ((Ext.refl wb).st hS)) (fun y40 => ?_)
            refine WD.on (closed_of (by decide +kernel)) (fun w hS => Sx.gone rfl (Sx.gone rfl (Sx.none))) ?_
            refine WD.one (i := 4) (by decide +kernel) rfl ?_
            refine WL.alloc F.zero25 rfl (fun b7 => ?_)
            refine WD.on (closed_of (by decide +kernel)) (fun w hS => Sx.gone rfl (Sx.gone rfl (Sx.none))) ?_
            refine WD.one (i := 6) (by decide +kernel) rfl ?_
            refine WL.storeN F.agg25 rfl rfl rfl (by simp [Value.oneCell']) (by repeat (first | exact Upd.here | apply Upd.there)) (by repeat constructor) ?_
            refine WD.on (closed_of (by decide +kernel)) (fun w hS => Sx.gone rfl (Sx.gone rfl (Sx.none))) ?_
            refine WD.one (i := 7) (by decide +kernel) rfl ?_
            refine WL.storeN F.agg25 rfl rfl rfl (by simp [Value.oneCell']) (by repeat (first | exact Upd.here | apply Upd.there)) (by repeat constructor) ?_
            refine WD.on (closed_of (by decide +kernel)) (fun w hS => Sx.gone rfl (Sx.gone rfl (Sx.none))) ?_
            refine WD.done (by decide +kernel) ?_
            refine WQ.chunks (C' := [pt b3 [Value.int .u8 t.op, .string (str t.name), .slice a t.kids.length c] 25, pt b5 [Value.int .u8 u.op, .string (str u.name), .slice a2 u.kids.length c2] 25, pt b7 [Value.int .u8 t.op, .string (str t.name), .slice y38.2.1 t.kids.length y38.2.2] 25, pt b8 [Value.int .u8 u.op, .string (str u.name), .slice y40.2.1 u.kids.length y40.2.2] 25, own y38.1 t (tv t y38.2.1 y38.2.2), own y40.1 u (tv u y40.2.1 y40.2.2)]) (fun w hS => ((St.pick (St.pick (St.pick (St.pick (St.pick (St.pick hS (c := own y40.1 u (tv u y40.2.1 y40.2.2)) (by repeat (first | exact Rem.here | apply Rem.there))) (c := own y38.1 t (tv t y38.2.1 y38.2.2)) (by repeat (first | exact Rem.here | apply Rem.there))) (c := pt b8 [Value.int .u8 u.op, .string (str u.name), .slice y40.2.1 u.kids.length y40.2.2] 25) (by repeat (first | exact Rem.here | apply Rem.there))) (c := pt b7 [Value.int .u8 t.op, .string (str t.name), .slice y38.2.1 t.kids.length y38.2.2] 25) (by repeat (first | exact Rem.here | apply Rem.there))) (c := pt b5 [Value.int .u8 u.op, .string (str u.name), .slice a2 u.kids.length c2] 25) (by repeat (first | exact Rem.here | apply Rem.there))) (c := pt b3 [Value.int .u8 t.op, .string (str t.name), .slice a t.kids.length c] 25) (by repeat (first | exact Rem.here | apply Rem.there)))).sublist (List.Sublist.cons_cons _ (List.Sublist.cons_cons _ (List.Sublist.cons_cons _ (List.Sublist.cons_cons _ (List.Sublist.cons_cons _ (List.Sublist.cons_cons _ (List.nil_sublist _)))))))) ?_
            exact WQ.byCut (hQ ((b7, b8), y38, y40)) ⟨rfl, rfl, rfl, rfl, rfl, trivial⟩
          · skip
            refine WL.alloc F.zero25 rfl (fun b7 => ?_)
            refine WD.on (closed_of (by decide +kernel)) (fun w hS => Sx.gone rfl (Sx.keep ((fun j v hv => by rw [Nat.zero_add]; exact hS.cell (by repeat (first | exact List.Mem.head _ | apply List.Mem.tail)) hv)) (Sx.none))) ?_
            refine WD.one (i := 3) (by decide +kernel) rfl ?_
            refine WL.callC (β := List Nat × Option Addr × Nat) (res := fun y => tv u y.2.1 y.2.2) (cs := fun y => [own y.1 u (tv u y.2.1 y.2.2)]) (Cs := []) (O' := []) F.fun18 (fun d h => by cases h; rfl) rfl (List.Perm.refl _) (by simp) (by simp) (fun w hS _ => Copied_c 1200 (by omega) u wb H a2 c2 w (by omega) hr2 ((Ext.refl wb).st hS)) (fun y40 => ?_)
            refine WD.on (closed_of (by decide +kernel)) (fun w hS => Sx.gone rfl (Sx.gone rfl (Sx.none))) ?_
            refine WD.one (i := 6) (by decide +kernel) rfl ?_
            refine WL.storeN F.agg25 rfl rfl rfl (by simp [Value.oneCell']) (by repeat (first | exact Upd.here | apply Upd.there)) (by repeat constructor) ?_
            refine WD.on (closed_of (by decide +kernel)) (fun w hS => Sx.gone rfl (Sx.gone rfl (Sx.none))) ?_
            refine WD.one (i := 7) (by decide +kernel) rfl ?_
            refine WL.storeN F.agg25 rfl rfl rfl (by simp [Value.oneCell']) (by repeat (first | exact Upd.here | apply Upd.there)) (by repeat constructor) ?_
            refine WD.on (closed_of (by decide +kernel)) (fun w hS => Sx.gone rfl (Sx.gone rfl (Sx.none))) ?_
            refine WD.done (by decide +kernel) ?_
            refine WQ.chunks (C' := [pt b3 [Value.int .u8 t.op, .string (str t.name), .slice a t.kids.length c] 25, pt b5 [Value.int .u8 u.op, .string (str u.name), .slice a2 u.kids.length c2] 25, pt b7 [Value.int .u8 t.op, .string (str t.name), .slice y38.2.1 t.kids.length y38.2.2] 25, pt b8 [Value.int .u8 u.op, .string (str u.name), .slice y40.2.1 u.kids.length y40.2.2] 25, own y38.1 t (tv t y38.2.1 y38.2.2), own y40.1 u (tv u y40.2.1 y40.2.2)]) (fun w hS => ((St.pick (St.pick (St.pick (St.pick (St.pick (St.pick hS (c := own y40.1 u (tv u y40.2.1 y40.2.2)) (by repeat (first | exact Rem.here | apply Rem.there))) (c := own y38.1 t (tv t y38.2.1 y38.2.2)) (by repeat (first | exact Rem.here | apply Rem.there))) (c := pt b8 [Value.int .u8 u.op, .string (str u.name), .slice y40.2.1 u.kids.length y40.2.2] 25) (by repeat (first | exact Rem.here | apply Rem.there))) (c := pt b7 [Value.int .u8 t.op, .string (str t.name), .slice y38.2.1 t.kids.length y38.2.2] 25) (by repeat (first | exact Rem.here | apply Rem.there))) (c := pt b5 [Value.int .u8 u.op, .string (str u.name), .slice a2 u.kids.length c2] 25) (by repeat (first | exact Rem.here | apply Rem.there))) (c := pt b3 [Value.int .u8 t.op, .string (str t.name), .slice a t.kids.length c] 25) (by repeat (first | exact Rem.here | apply Rem.there)))).sublist (List.Sublist.cons_cons _ (List.Sublist.cons_cons _ (List.Sublist.cons_cons _ (List.Sublist.cons_cons _ (List.Sublist.cons_cons _ (List.Sublist.cons_cons _ (List.nil_sublist _)))))))) ?_
            exact WQ.byCut (hQ ((b7, b8), y38, y40)) ⟨rfl, rfl, rfl, rfl, rfl, trivial⟩
      · skip
        refine WL.alloc F.zero25 rfl (fun b7 => ?_)
        refine WD.on (closed_of (by decide +kernel)) (fun w hS => Sx.keep ((fun j v hv => by rw [Nat.zero_add]; exact hS.cell (by repeat (first | exact List.Mem.head _ | apply List.Mem.tail)) hv)) (Sx.keep ((fun j v hv => by rw [Nat.zero_add]; exact hS.cell (by repeat (first | exact List.Mem.head _ | apply List.Mem.tail)) hv)) (Sx.none))) ?_
        refine WD.two (i := 1) (j := 5) (by decide +kernel) rfl rfl ?_ ?_
        · skip
          refine WL.callC (β := List Nat × Option Addr × Nat) (res := fun y => tv t y.2.1 y.2.2) (cs := fun y => [own y.1 t (tv t y.2.1 y.2.2)]) (Cs := []) (O' := []) F.fun18 (fun d h => by cases h; rfl) rfl (List.Perm.refl _) (by simp) (by simp) (fun w hS _ => Copied_c 1200 (by omega) t wb G a c w (by omega) hr ((Ext.refl wb).st hS)) (fun y38 => ?_)
          refine WD.on (closed_of (by decide +kernel)) (fun w hS => Sx.gone rfl (Sx.keep ((fun j v hv => by rw [Nat.zero_add]; exact hS.cell (by repeat (first | exact List.Mem.head _ | apply List.Mem.tail)) hv)) (Sx.none))) ?_
          refine WD.two (i := 3) (j := 5) (by decide +kernel) rfl rfl ?_ ?_
          · skip
            refine WL.callC (β := List Nat × Option Addr × Nat) (res := fun y => tv u y.2.1 y.2.2) (cs := fun y => [own y.1 u (tv u y.2.1 y.2.2)]) (Cs := []) (O' := []) F.fun18 (fun d h => by cases h; rfl) rfl (List.Perm.refl _) (by simp) (by simp) (fun w hS _ => Copied_c 1200 (by omega) u wb H a2 c2 w (by omega) hr2 ((Ext.refl wb).st hS)) (fun y40 => ?_)
            refine WD.on (closed_of (by decide +kernel)) (fun w hS => Sx.gone rfl (Sx.gone rfl (Sx.none))) ?_
            refine WD.one (i := 5) (by decide +kernel) rfl ?_
            refine WL.alloc F.zero25 rfl (fun b8 => ?_)
            refine WD.on (closed_of (by decide +kernel)) (fun w hS => Sx.gone rfl (Sx.gone rfl (Sx.none))) ?_
            refine WD.one (i := 6) (by decide +kernel) rfl ?_
            refine WL.storeN F.agg25 rfl rfl rfl (by simp [Value.oneCell']) (by repeat (first | exact Upd.here | apply Upd.there)) (by repeat constructor) ?_
            refine WD.on (closed_of (by decide +kernel)) (fun w hS => Sx.gone rfl (Sx.gone rfl (Sx.none))) ?_
            refine WD.one (i := 7) (by decide +kernel) rfl ?_
            refine WL.storeN F.agg25 rfl rfl rfl (by simp [Value.oneCell']) (by repeat (first | exact Upd.here | apply Upd.there)) (by repeat constructor) ?_
            refine WD.on (closed_of (by decide +kernel)) (fun w hS => Sx.gone rfl (Sx.gone rfl (Sx.none))) ?_
            refine WD.done (by decide +kernel) ?_
            refine WQ.chunks (C' := [pt b3 [Value.int .u8 t.op, .string (str t.name), .slice a t.kids.length c] 25, pt b5 [Value.int .u8 u.op, .string (str u.name), .slice a2 u.kids.length c2] 25, pt b7 [Value.int .u8 t.op, .string (str t.name), .slice y38.2.1 t.kids.length y38.2.2] 25, pt b8 [Value.int .u8 u.op, .string (str u.name), .slice y40.2.1 u.kids.length y40.2.2] 25, own y38.1 t (tv t y38.2.1 y38.2.2), own y40.1 u (tv u y40.2.1 y40.2.2)]) (fun w hS => ((St.pick (St.pick (St.pick (St.pick (St.pick (St.pick hS (c := own y40.1 u (tv u y40.2.1 y40.2.2)) (by repeat (first | exact Rem.here | apply Rem.there))) (c := own y38.1 t (tv t y38.2.1 y38.2.2)) (by repeat (first | exact Rem.here | apply Rem.there))) (c := pt b8 [Value.int .u8 u.op, .string (str u.name), .slice y40.2.1 u.kids.length y40.2.2] 25) (by repeat (first | exact Rem.here | apply Rem.there))) (c := pt b7 [Value.int .u8 t.op, .string (str t.name), .slice y38.2.1 t.kids.length y38.2.2] 25) (by repeat (first | exact Rem.here | apply Rem.there))) (c := pt b5 [Value.int .u8 u.op, .string (str u.name), .slice a2 u.kids.length c2] 25) (by repeat (first | exact Rem.here | apply Rem.there))) (c := pt b3 [Value.int .u8 t.op, .string (str t.name), .slice a t.kids.length c] 25) (by repeat (first | exact Rem.here | apply Rem.there)))).sublist (List.Sublist.cons_cons _ (List.Sublist.cons_cons _ (List.Sublist.cons_cons _ (List.Sublist.cons_cons _ (List.Sublist.cons_cons _ (List.Sublist.cons_cons _ (List.nil_sublist _)))))))) ?_
            exact WQ.byCut (hQ ((b7, b8), y38, y40)) ⟨rfl, rfl, rfl, rfl, rfl, trivial⟩
          · skip
            refine WL.alloc F.zero25 rfl (fun b8 => ?_)
            refine WD.on (closed_of (by decide +kernel)) (fun w hS => Sx.gone rfl (Sx.keep ((fun j v hv => by rw [Nat.zero_add]; exact hS.cell (by repeat (first | exact List.Mem.head _ | apply List.Mem.tail)) hv)) (Sx.none))) ?_
            refine WD.one (i := 3) (by decide +kernel) rfl ?_
            refine WL.callC (β := List Nat × Option Addr × Nat) (res := fun y => tv u y.2.1 y.2.2) (cs := fun y => [own y.1 u (tv u y.2.1 y.2.2)]) (Cs := []) (O' := []) F.fun18 (fun d h => by cases h; rfl) rfl (List.Perm.refl _) (by simp) (by simp) (fun w hS _ => Copied_c 1200 (by omega) u wb H a2 c2 w (by omega) hr2 ((Ext.refl wb).st hS)) (fun y40 => ?_)
            refine WD.on (closed_of (by decide +kernel)) (fun w hS => Sx.gone rfl (Sx.gone rfl (Sx.none))) ?_
            refine WD.one (i := 6) (by decide +kernel) rfl ?_
            refine WL.storeN F.agg25 rfl rfl rfl (by simp [Value.oneCell']) (by repeat (first | exact Upd.here | apply Upd.there)) (by repeat constructor) ?_
            refine WD.on (closed_of (by decide +kernel)) (fun w hS => Sx.gone rfl (Sx.gone rfl (Sx.none))) ?_
            refine WD.one (i := 7) (by decide +kernel) rfl ?_
            refine WL.storeN F.agg25 rfl rfl rfl (by simp [Value.oneCell']) (by repeat (first | exact Upd.here | apply Upd.there)) (by repeat constructor) ?_
            refine WD.on (closed_of (by decide +kernel)) (fun w hS => Sx.gone rfl (Sx.gone rfl (Sx.none))) ?_
            refine WD.done (by decide +kernel) ?_
            refine WQ.chunks (C' := [pt b3 [Value.int .u8 t.op, .string (str t.name), .slice a t.kids.length c] 25, pt b5 [Value.int .u8 u.op, .string (str u.name), .slice a2 u.kids.length c2] 25, pt b7 [Value.int .u8 t.op, .string (str t.name), .slice y38.2.1 t.kids.length y38.2.2] 25, pt b8 [Value.int .u8 u.op, .string (str u.name), .slice y40.2.1 u.kids.length y40.2.2] 25, own y38.1 t (tv t y38.2.1 y38.2.2), own y40.1 u (tv u y40.2.1 y40.2.2)]) (fun w hS => ((St.pick (St.pick (St.pick (St.pick (St.pick (St.pick hS (c := own y40.1 u (tv u y40.2.1 y40.2.2)) (by repeat (first | exact Rem.here | apply Rem.there))) (c := own y38.1 t (tv t y38.2.1 y38.2.2)) (by repeat (first | exact Rem.here | apply Rem.there))) (c := pt b8 [Value.int .u8 u.op, .string (str u.name), .slice y40.2.1 u.kids.length y40.2.2] 25) (by repeat (first | exact Rem.here | apply Rem.there))) (c := pt b7 [Value.int .u8 t.op, .string (str t.name), .slice y38.2.1 t.kids.length y38.2.2] 25) (by repeat (first | exact Rem.here | apply Rem.there))) (c := pt b5 [Value.int .u8 u.op, .string (str u.name), .slice a2 u.kids.length c2] 25) (by repeat (first | exact Rem.here | apply Rem.there))) (c := pt b3 [Value.int .u8 t.op, .string (str t.name), .slice a t.kids.length c] 25) (by repeat (first | exact Rem.here | apply Rem.there)))).sublist (List.Sublist.cons_cons _ (List.Sublist.cons_cons _ (List.Sublist.cons_cons _ (List.Sublist.cons_cons _ (List.Sublist.cons_cons _ (List.Sublist.cons_cons _ (List.nil_sublist _)))))))) ?_
            exact WQ.byCut (hQ ((b7, b8), y38, y40)) ⟨rfl, rfl, rfl, rfl, rfl, trivial⟩
        · skip
          refine WL.alloc F.zero25 rfl (fun b8 => ?_)
          refine WD.on (closed_of (by decide +kernel)) (fun w hS => Sx.keep ((fun j v hv => by rw [Nat.zero_add]; exact hS.cell (by repeat (first | exact List.Mem.head _ | apply List.Mem.tail)) hv)) (Sx.keep ((fun j v hv => by rw [Nat.zero_add]; exact hS.cell (by repeat (first | exact List.Mem.head _ | apply List.Mem.tail)) hv)) (Sx.none))) ?_
          refine WD.one (i := 1) (by decide +kernel) rfl ?_
          refine WL.callC (β := List Nat × Option Addr × Nat) (res := fun y => tv t y.2.1 y.2.2) (cs := fun y => [own y.1 t (tv t y.2.1 y.2.2)]) (Cs := []) (O' := []) F.fun18 (fun d h => by cases h; rfl) rfl (List.Perm.refl _) (by simp) (by simp) (fun w hS _ => Copied_c 1200 (by omega) t wb G a c w (by omega) hr ((Ext.refl wb).st hS)) (fun y38 => ?_)
          refine WD.on (closed_of (by decide +kernel)) (fun w hS => Sx.gone rfl (Sx.keep ((fun j v hv => by rw [Nat.zero_add]; exact hS.cell (by repeat (first | exact List.Mem.head _ | apply List.Mem.tail)) hv)) (Sx.none))) ?_
          refine WD.one (i := 3) (by decide +kernel) rfl ?_
          refine WL.callC (β := List Nat × Option Addr × Nat) (res := fun y => tv u y.2.1 y.2.2) (cs := fun y => [own y.1 u (tv u y.2.1 y.2.2)]) (Cs := []) (O' := []) F.fun18 (fun d h => by cases h; rfl) rfl (List.Perm.refl _) (by simp) (by simp) (fun w hS _ => Copied_c 1200 (by omega) u wb H a2 c2 w (by omega) hr2 ((Ext.refl wb).st hS)) (fun y40 => ?_)
          refine WD.on (closed_of (by decide +kernel)) (fun w hS => Sx.gone rfl (Sx.gone rfl (Sx.none))) ?_
          refine WD.one (i := 6) (by decide +kernel) rfl ?_
          refine WL.storeN F.agg25 rfl rfl rfl (by simp [Value.oneCell']) (by repeat (first | exact Upd.here | apply Upd.there)) (by repeat constructor) ?_
          refine WD.on (closed_of (by decide +kernel)) (fun w hS => Sx.gone rfl (Sx.gone rfl (Sx.none))) ?_
          refine WD.one (i := 7) (by decide +kernel) rfl ?_
          refine WL.storeN F.agg25 rfl rfl rfl (by simp [Value.oneCell']) (by repeat (first | exact Upd.here | apply Upd.there)) (by repeat constructor) ?_
          refine WD.on (closed_of (by decide +kernel)) (fun w hS => Sx.gone rfl (Sx.gone rfl (Sx.none))) ?_
          refine WD.done (by decide +kernel) ?_
          refine WQ.chunks (C' := [pt b3 [Value.int .u8 t.op, .string (str t.name), .slice a t.kids.length c] 25, pt b5 [Value.int .u8 u.op, .string (str u.name), .slice a2 u.kids.length c2] 25, pt b7 [Value.int .u8 t.op, .string (str t.name), .slice y38.2.1 t.kids.length y38.2.2] 25, pt b8 [Value.int .u8 u.op, .string (str u.name), .slice y40.2.1 u.kids.length y40.2.2] 25, own y38.1 t (tv t y38.2.1 y38.2.2), own y40.1 u (tv u y40.2.1 y40.2.2)]) (fun w hS => ((St.pick (St.pick (St.pick (St.pick (St.pick (St.pick hS (c := own y40.1 u (tv u y40.2.1 y40.2.2)) (by repeat (first | exact Rem.here | apply Rem.there))) (c := own y38.1 t (tv t y38.2.1 y38.2.2)) (by repeat (first | exact Rem.here | apply Rem.there))) (c := pt b8 [Value.int .u8 u.op, .string (str u.name), .slice y40.2.1 u.kids.length y40.2.2] 25) (by repeat (first | exact Rem.here | apply Rem.there))) (c := pt b7 [Value.int .u8 t.op, .string (str t.name), .slice y38.2.1 t.kids.length y38.2.2] 25) (by repeat (first | exact Rem.here | apply Rem.there))) (c := pt b5 [Value.int .u8 u.op, .string (str u.name), .slice a2 u.kids.length c2] 25) (by repeat (first | exact Rem.here | apply Rem.there))) (c := pt b3 [Value.int .u8 t.op, .string (str t.name), .slice a t.kids.length c] 25) (by repeat (first | exact Rem.here | apply Rem.there)))).sublist (List.Sublist.cons_cons _ (List.Sublist.cons_cons _ (List.Sublist.cons_cons _ (List.Sublist.cons_cons _ (List.Sublist.cons_cons _ (List.Sublist.cons_cons _ (List.nil_sublist _)))))))) ?_
          exact WQ.byCut (hQ ((b7, b8), y38, y40)) ⟨rfl, rfl, rfl, rfl, rfl, trivial⟩
      · skip
        refine WL.alloc F.zero25 rfl (fun b8 => ?_)
        refine WD.on (closed_of (by decide +kernel)) (fun w hS => Sx.keep ((fun j v hv => by rw [Nat.zero_add]; exact hS.cell (by repeat (first | exact List.Mem.head _ | apply List.Mem.tail)) hv)) (Sx.keep ((fun j v hv => by rw [Nat.zero_add]; exact hS.cell (by repeat (first | exact List.Mem.head _ | apply List.Mem.tail)) hv)) (Sx.none))) ?_
        refine WD.two (i := 1) (j := 4) (by decide +kernel) rfl rfl ?_ ?_
        · skip
          refine WL.callC (β := List Nat × Option Addr × Nat) (res := fun y => tv t y.2.1 y.2.2) (cs := fun y => [own y.1 t (tv t y.2.1 y.2.2)]) (Cs := []) (O' := []) F.fun18 (fun d h => by cases h; rfl) rfl (List.Perm.refl _) (by simp) (by simp) (fun w hS _ => Copied_c 1200 (by omega) t wb G a c w (by omega) hr ((Ext.refl wb).st hS)) (fun y38 => ?_)
          refine WD.on (closed_of (by decide +kernel)) (fun w hS => Sx.gone rfl (Sx.keep ((fun j v hv => by rw [Nat.zero_add]; exact hS.cell (by repeat (first | exact List.Mem.head _ | apply List.Mem.tail)) hv)) (Sx.none))) ?_
          refine WD.two (i := 3) (j := 4) (by decide +kernel) rfl rfl ?_ ?_
          · skip
            refine WL.callC (β := List Nat × Option Addr × Nat) (res := fun y => tv u y.2.1 y.2.2) (cs := fun y => [own y.1 u (tv u y.2.1 y.2.2)]) (Cs := []) (O' := []) F.fun18 (fun d h => by cases h; rfl) rfl (List.Perm.refl _) (by simp) (by simp) (fun w hS _ => Copied_c 1200 (by omega) u wb H a2 c2 w (by omega) hr2 ((Ext.refl wb).st hS)) (fun y40 => ?_)
            refine WD.on (closed_of (by decide +kernel)) (fun w hS => Sx.gone rfl (Sx.gone rfl (Sx.none))) ?_
            refine WD.one (i := 4) (by decide +kernel) rfl ?_
            refine WL.alloc F.zero25 rfl (fun b7 => ?_)
            refine WD.on (closed_of (by decide +kernel)) (fun w hS => Sx.gone rfl (Sx.gone rfl (Sx.none))) ?_
            refine WD.one (i := 6) (by decide +kernel) rfl ?_
            refine WL.storeN F.agg25 rfl rfl rfl (by simp [Value.oneCell']) (by repeat (first | exact Upd.here | apply Upd.there)) (by repeat constructor) ?_
            refine WD.on (closed_of (by decide +kernel)) (fun w hS => Sx.gone rfl (Sx.gone rfl (Sx.none))) ?_
            refine WD.one (i := 7) (by decide +kernel) rfl ?_
            refine WL.storeN F.agg25 rfl rfl rfl (by simp [Value.oneCell']) (by repeat (first | exact Upd.here | apply Upd.there)) (by repeat constructor) ?_
            refine WD.on (closed_of (by decide +kernel)) (fun w hS => Sx.gone rfl (Sx.gone rfl (Sx.none))) ?_
            refine WD.done (by decide +kernel) ?_
            refine WQ.chunks (C' := [pt b3 [Value.int .u8 t.op, .string (str t.name), .slice a t.kids.length c] 25, pt b5 [Value.int .u8 u.op, .string (str u.name), .slice a2 u.kids.length c2] 25, pt b7 [Value.int .u8 t.op, .string (str t.name), .slice y38.2.1 t.kids.length y38.2.2] 25, pt b8 [Value.int .u8 u.op, .string (str u.name), .slice y40.2.1 u.kids.length y40.2.2] 25, own y38.1 t (tv t y38.2.1 y38.2.2), own y40.1 u (tv u y40.2.1 y40.2.2)]) (fun w hS => ((St.pick (St.pick (St.pick (St.pick (St.pick (St.pick hS (c := own y40.1 u (tv u y40.2.1 y40.2.2)) (by repeat (first | exact Rem.here | apply Rem.there))) (c := own y38.1 t (tv t y38.2.1 y38.2.2)) (by repeat (first | exact Rem.here | apply Rem.there))) (c := pt b8 [Value.int .u8 u.op, .string (str u.name), .slice y40.2.1 u.kids.length y40.2.2] 25) (by repeat (first | exact Rem.here | apply Rem.there))) (c := pt b7 [Value.int .u8 t.op, .string (str t.name), .slice y38.2.1 t.kids.length y38.2.2] 25) (by repeat (first | exact Rem.here | apply Rem.there))) (c := pt b5 [Value.int .u8 u.op, .string (str u.name), .slice a2 u.kids.length c2] 25) (by repeat (first | exact Rem.here | apply Rem.there))) (c := pt b3 [Value.int .u8 t.op, .string (str t.name), .slice a t.kids.length c] 25) (by repeat (first | exact Rem.here | apply Rem.there)))).sublist (List.Sublist.cons_cons _ (List.Sublist.cons_cons _ (List.Sublist.cons_cons _ (List.Sublist.cons_cons _ (List.Sublist.cons_cons _ (List.Sublist.cons_cons _ (List.nil_sublist _)))))))) ?_
            exact WQ.byCut (hQ ((b7, b8), y38, y40)) ⟨rfl, rfl, rfl, rfl, rfl, trivial⟩
          · skip
            refine WL.alloc F.zero25 rfl (fun b7 => ?_)
            refine WD.on (closed_of (by decide +kernel)) (fun w hS => Sx.gone rfl (Sx.keep ((fun j v hv => by rw [Nat.zero_add]; exact hS.cell (by repeat (first | exact List.Mem.head _ | apply List.Mem.tail)) hv)) (Sx.none))) ?_
            refine WD.one (i := 3) (by decide +kernel) rfl ?_
            refine WL.callC (β := List Nat × Option Addr × Nat) (res := fun y => tv u y.2.1 y.2.2) (cs := fun y => [own y.1 u (tv u y.2.1 y.2.2)]) (Cs := []) (O' := []) F.fun18 (fun d h => by cases h; rfl) rfl (List.Perm.refl _) (by simp) (by simp) (fun w hS _ => Copied_c 1200 (by omega) u wb H a2 c2 w (by omega) hr2 ((Ext.refl wb).st hS)) (fun y40 => ?_)
            refine WD.on (closed_of (by decide +kernel)) (fun w hS => Sx.gone rfl (Sx.gone rfl (Sx.none))) ?_
            refine WD.one (i := 6) (by decide +kernel) rfl ?_
            refine WL.storeN F.agg25 rfl rfl rfl (by simp [Value.oneCell']) (by repeat (first | exact Upd.here | apply Upd.there)) (by repeat constructor) ?_
            refine WD.on (closed_of (by decide +kernel)) (fun w hS => Sx.gone rfl (Sx.gone rfl (Sx.none))) ?_
            refine WD.one (i := 7) (by decide +kernel) rfl ?_
            refine WL.storeN F.agg25 rfl rfl rfl (by simp [Value.oneCell']) (by repeat (first | exact Upd.here | apply Upd.there)) (by repeat constructor) ?_
            refine WD.on (closed_of (by decide +kernel)) (fun w hS => Sx.gone rfl (Sx.gone rfl (Sx.none))) ?_
            refine WD.done (by decide +kernel) ?_
            refine WQ.chunks (C' := [pt b3 [Value.int .u8 t.op, .string (str t.name), .slice a t.kids.length c] 25, pt b5 [Value.int .u8 u.op, .string (str u.name), .slice a2 u.kids.length c2] 25, pt b7 [Value.int .u8 t.op, .string (str t.name), .slice y38.2.1 t.kids.length y38.2.2] 25, pt b8 [Value.int .u8 u.op, .string (str u.name), .slice y40.2.1 u.kids.length y40.2.2] 25, own y38.1 t (tv t y38.2.1 y38.2.2), own y40.1 u (tv u y40.2.1 y40.2.2)]) (fun w hS => ((St.pick (St.pick (St.pick (St.pick (St.pick (St.pick hS (c := own y40.1 u (tv u y40.2.1 y40.2.2)) (by repeat (first | exact Rem.here | apply Rem.there))) (c := own y38.1 t (tv t y38.2.1 y38.2.2)) (by repeat (first | exact Rem.here | apply Rem.there))) (c := pt b8 [Value.int .u8 u.op, .string (str u.name), .slice y40.2.1 u.kids.length y40.2.2] 25) (by repeat (first | exact Rem.here | apply Rem.there))) (c := pt b7 [Value.int .u8 t.op, .string (str t.name), .slice y38.2.1 t.kids.length y38.2.2] 25) (by repeat (first | exact Rem.here | apply Rem.there))) (c := pt b5 [Value.int .u8 u.op, .string (str u.name), .slice a2 u.kids.length c2] 25) (by repeat (first | exact Rem.here | apply Rem.there))) (c := pt b3 [Value.int .u8 t.op, .string (str t.name), .slice a t.kids.length c] 25) (by repeat (first | exact Rem.here | apply Rem.there)))).sublist (List.Sublist.cons_cons _ (List.Sublist.cons_cons _ (List.Sublist.cons_cons _ (List.Sublist.cons_cons _ (List.Sublist.cons_cons _ (List.Sublist.cons_cons _ (List.nil_sublist _)))))))) ?_
            exact WQ.byCut (hQ ((b7, b8), y38, y40)) ⟨rfl, rfl, rfl, rfl, rfl, trivial⟩
        · skip
          refine WL.alloc F.zero25 rfl (fun b7 => ?_)
          refine WD.on (closed_of (by decide +kernel)) (fun w hS => Sx.keep ((fun j v hv => by rw [Nat.zero_add]; exact hS.cell (by repeat (first | exact List.Mem.head _ | apply List.Mem.tail)) hv)) (Sx.keep ((fun j v hv => by rw [Nat.zero_add]; exact hS.cell (by repeat (first | exact List.Mem.head _ | apply List.Mem.tail)) hv)) (Sx.none))) ?_
          refine WD.one (i := 1) (by decide +kernel) rfl ?_
          refine WL.callC (β := List Nat × Option Addr × Nat) (res := fun y => tv t y.2.1 y.2.2) (cs := fun y => [own y.1 t (tv t y.2.1 y.2.2)]) (Cs := []) (O' := []) F.fun18 (fun d h => by cases h; rfl) rfl (List.Perm.refl _) (by simp) (by simp) (fun w hS _ => Copied_c 1200 (by omega) t wb G a c w (by omega) hr ((Ext.refl wb).st hS)) (fun y38 => ?_)
          refine WD.on (closed_of (by decide +kernel)) (fun w hS => Sx.gone rfl (Sx.keep ((fun j v hv => by rw [Nat.zero_add]; exact hS.cell (by repeat (first | exact List.Mem.head _ | apply List.Mem.tail)) hv)) (Sx.none))) ?_
          refine WD.one (i := 3) (by decide +kernel) rfl ?_
          refine WL.callC (β := List Nat × Option Addr × Nat) (res := fun y => tv u y.2.1 y.2.2) (cs := fun y => [own y.1 u (tv u y.2.1 y.2.2)]) (Cs := []) (O' := []) F.fun18 (fun d h => by cases h; rfl) rfl (List.Perm.refl _) (by simp) (by simp) (fun w hS _ => Copied_c 1200 (by omega) u wb H a2 c2 w (by omega) hr2 ((Ext.refl wb).st hS)) (fun y40 => ?_)
          refine WD.on (closed_of (by decide +kernel)) (fun w hS => Sx.gone rfl (Sx.gone rfl (Sx.none))) ?_
          refine WD.one (i := 6) (by decide +kernel) rfl ?_
          refine WL.storeN F.agg25 rfl rfl rfl (by simp [Value.oneCell']) (by repeat (first | exact Upd.here | apply Upd.there)) (by repeat constructor) ?_
          refine WD.on (closed_of (by decide +kernel)) (fun w hS => Sx.gone rfl (Sx.gone rfl (Sx.none))) ?_
          refine WD.one (i := 7) (by decide +kernel) rfl ?_
          refine WL.storeN F.agg25 rfl rfl rfl (by simp [Value.oneCell']) (by repeat (first | exact Upd.here | apply Upd.there)) (by repeat constructor) ?_
          refine WD.on (closed_of (by decide +kernel)) (fun w hS => Sx.gone rfl (Sx.gone rfl (Sx.none))) ?_
          refine WD.done (by decide +kernel) ?_
          refine WQ.chunks (C' := [pt b3 [Value.int .u8 t.op, .string (str t.name), .slice a t.kids.length c] 25, pt b5 [Value.int .u8 u.op, .string (str u.name), .slice a2 u.kids.length c2] 25, pt b7 [Value.int .u8 t.op, .string (str t.name), .slice y38.2.1 t.kids.length y38.2.2] 25, pt b8 [Value.int .u8 u.op, .string (str u.name), .slice y40.2.1 u.kids.length y40.2.2] 25, own y38.1 t (tv t y38.2.1 y38.2.2), own y40.1 u (tv u y40.2.1 y40.2.2)]) (fun w hS => ((St.pick (St.pick (St.pick (St.pick (St.pick (St.pick hS (c := own y40.1 u (tv u y40.2.1 y40.2.2)) (by repeat (first | exact Rem.here | apply Rem.there))) (c := own y38.1 t (tv t y38.2.1 y38.2.2)) (by repeat (first | exact Rem.here | apply Rem.there))) (c := pt b8 [Value.int .u8 u.op, .string (str u.name), .slice y40.2.1 u.kids.length y40.2.2] 25) (by repeat (first | exact Rem.here | apply Rem.there))) (c := pt b7 [Value.int .u8 t.op, .string (str t.name), .slice y38.2.1 t.kids.length y38.2.2] 25) (by repeat (first | exact Rem.here | apply Rem.there))) (c := pt b5 [Value.int .u8 u.op, .string (str u.name), .slice a2 u.kids.length c2] 25) (by repeat (first | exact Rem.here | apply Rem.there))) (c := pt b3 [Value.int .u8 t.op, .string (str t.name), .slice a t.kids.length c] 25) (by repeat (first | exact Rem.here | apply Rem.there)))).sublist (List.Sublist.cons_cons _ (List.Sublist.cons_cons _ (List.Sublist.cons_cons _ (List.Sublist.cons_cons _ (List.Sublist.cons_cons _ (List.Sublist.cons_cons _ (List.nil_sublist _)))))))) ?_
          exact WQ.byCut (hQ ((b7, b8), y38, y40)) ⟨rfl, rfl, rfl, rfl, rfl, trivial⟩
    obtain ⟨⟨b7, b8⟩, y38, y40⟩ := xE
    show WQ _ _ _ _ _ _ [(1, .string (str s)), (3, pp b3), (5, pp b5), (7, pp b7), (8, pp b8)] [pt b3 [Value.int .u8 t.op, .string (str t.name), .slice a t.kids.length c] 25, pt b5 [Value.int .u8 u.op, .string (str u.name), .slice a2 u.kids.length c2] 25, pt b7 [Value.int .u8 t.op, .string (str t.name), .slice y38.2.1 t.kids.length y38.2.2] 25, pt b8 [Value.int .u8 u.op, .string (str u.name), .slice y40.2.1 u.kids.length y40.2.2] 25, own y38.1 t (tv t y38.2.1 y38.2.2), own y40.1 u (tv u y40.2.1 y40.2.2)]
    refine WQ.then_normal ?_
    refine WC.seq ?_
    refine WC.region ?_
    refine WL.step ?_
    refine WL.loadW F.agg25 rfl rfl (by repeat (first | exact List.Mem.head _ | apply List.Mem.tail)) rfl ?_
    refine WL.step ?_
    refine WL.move rfl rfl ?_
    refine WL.step ?_
    refine WL.loadW F.agg25 rfl rfl (by repeat (first | exact List.Mem.head _ | apply List.Mem.tail)) rfl ?_
    refine WL.step ?_
    refine WL.callC (β := List Nat × Option Addr × Nat) (res := fun y => .tuple #[tv (repE s u t).1 y.2.1 y.2.2, .int .i64 (repE s u t).2]) (cs := fun y => [own y.1 (repE s u t).1 (tv (repE s u t).1 y.2.1 y.2.2)]) (Cs := []) (O' := []) F.fun40 (fun d h => by cases h; rfl) rfl (List.Perm.refl _) (by simp) (by simp) (fun w hS _ => Replace_c t u s w y38.1 y40.1 y38.2.1 y40.2.1 y38.2.2 y40.2.2 (hS.ok (own y38.1 t (tv t y38.2.1 y38.2.2)) (by repeat (first | exact List.Mem.head _ | apply List.Mem.tail))).2 (hS.ok (own y40.1 u (tv u y40.2.1 y40.2.2)) (by repeat (first | exact List.Mem.head _ | apply List.Mem.tail))).2) (fun y45 => ?_)
    refine WL.step ?_
    refine WL.move rfl rfl ?_
    refine WL.step ?_
    refine WL.extract rfl rfl rfl ?_
    refine WL.step ?_
    refine WL.extract rfl rfl rfl ?_
    refine WL.step ?_
    refine WL.alloc F.zero25 rfl (fun b9 => ?_)
    refine WL.step ?_
    refine WL.storeN F.agg25 rfl rfl rfl (by simp [Value.oneCell']) (by repeat (first | exact Upd.here | apply Upd.there)) (by repeat constructor) ?_
    refine WL.step ?_
    refine WL.assign rfl rfl ?_
    refine WL.nil ?_
    refine WQ.then_normal ?_
    refine WC.seq ?_
    refine WC.region ?_
    refine WL.step ?_
    refine WL.loadW F.agg25 rfl rfl (by repeat (first | exact List.Mem.head _ | apply List.Mem.tail)) rfl ?_
    refine WL.step ?_
    refine WL.move rfl rfl ?_
    refine WL.step ?_
    refine WL.loadW F.agg25 rfl rfl (by repeat (first | exact List.Mem.head _ | apply List.Mem.tail)) rfl ?_
    refine WL.step ?_
    refine WL.callC (β := List Nat × Option Addr × Nat) (res := fun y => .tuple #[tv (repE s u t).1 y.2.1 y.2.2, .int .i64 (repE s u t).2]) (cs := fun y => [shr wb y.1 (repE s u t).1 (tv (repE s u t).1 y.2.1 y.2.2)]) (Cs := []) (O' := []) F.fun41 (fun d h => by cases h; rfl) rfl (List.Perm.refl _) (by simp) (by simp) (fun w hS _ => rReplace_c t u s wb G H a a2 c c2 hr hr2 (by omega) (by omega) w ((Ext.refl wb).st hS)) (fun y52 => ?_)
    refine WL.step ?_
    refine WL.move rfl rfl ?_
    refine WL.step ?_
    refine WL.extract rfl rfl rfl ?_
    refine WL.step ?_
    refine WL.extract rfl rfl rfl ?_
    refine WL.step ?_
    refine WL.alloc F.zero25 rfl (fun b11 => ?_)
    refine WL.step ?_
    refine WL.storeN F.agg25 rfl rfl rfl (by simp [Value.oneCell']) (by repeat (first | exact Upd.here | apply Upd.there)) (by repeat constructor) ?_
    refine WL.step ?_
    refine WL.assign rfl rfl ?_
    refine WL.nil ?_
    refine WQ.then_normal ?_
    refine WC.seq ?_
    refine WC.region ?_
    refine WL.step ?_
    refine WL.move rfl rfl ?_
    refine WL.step ?_
    refine WL.move rfl rfl ?_
    refine WL.step ?_
    refine WL.eqI rfl rfl rfl ?_
    refine WL.step ?_
    refine WL.move rfl rfl ?_
    refine WA.splitB (i := 58) rfl (fun g58 => ?_) (fun g58 => ?_)
    · skip
      refine WL.step (WL.guardT rfl rfl rfl ?_)
      refine WL.loadW F.agg25 rfl rfl (by repeat (first | exact List.Mem.head _ | apply List.Mem.tail)) rfl ?_
      refine WL.step (WL.guardT rfl rfl rfl ?_)
      refine WL.loadW F.agg25 rfl rfl (by repeat (first | exact List.Mem.head _ | apply List.Mem.tail)) rfl ?_
      refine WL.step (WL.guardT rfl rfl rfl ?_)
      refine WL.callV (v := .bool true) F.fun16 rfl rfl (fun w hS => by obtain ⟨G2, hG2⟩ := shr_reads hS (t := (repE s u t).1) (F := y52.1) (v := tv (repE s u t).1 y52.2.1 y52.2.2) (by repeat (first | exact List.Mem.head _ | apply List.Mem.tail)) ((Ext.refl wb).st hS); have h9 := rSame_c 1200 (by decide) (repE s u t).1 (repE s u t).1 w y45.1 G2 _ _ _ _ w hrs (hS.ok (own y45.1 (repE s u t).1 (tv (repE s u t).1 y45.2.1 y45.2.2)) (by repeat (first | exact List.Mem.head _ | apply List.Mem.tail))).2 hG2 (Ext.refl w); rw [Fm.sameT_refl] at h9; exact h9) ?_
      refine WL.step ?_
      refine WL.pickT rfl rfl rfl ?_
      refine WL.step ?_
      refine WL.move rfl rfl ?_
      refine WA.splitB (i := 63) rfl (fun g63 => ?_) (fun g63 => ?_)
      · skip
        refine WL.step (WL.guardT rfl rfl rfl ?_)
        refine WL.loadW F.agg25 rfl rfl (by repeat (first | exact List.Mem.head _ | apply List.Mem.tail)) rfl ?_
        refine WL.step (WL.guardT rfl rfl rfl ?_)
        refine WL.loadW F.agg25 rfl rfl (by repeat (first | exact List.Mem.head _ | apply List.Mem.tail)) rfl ?_
        refine WL.step (WL.guardT rfl rfl rfl ?_)
        refine WL.callV (v := .bool true) F.fun16 rfl rfl (fun w hS => by have h9 := rSame_c 1200 (by decide) t t w y38.1 G _ _ _ _ w hsz (hS.ok (own y38.1 t (tv t y38.2.1 y38.2.2)) (by repeat (first | exact List.Mem.head _ | apply List.Mem.tail))).2 (((Ext.refl wb).st hS).tree hr) (Ext.refl w); rw [Fm.sameT_refl] at h9; exact h9) ?_
        refine WL.step ?_
        refine WL.pickT rfl rfl rfl ?_
        refine WL.step ?_
        refine WL.move rfl rfl ?_
        refine WA.splitB (i := 68) rfl (fun g68 => ?_) (fun g68 => ?_)
        · skip
          refine WL.step (WL.guardT rfl rfl rfl ?_)
          refine WL.loadW F.agg25 rfl rfl (by repeat (first | exact List.Mem.head _ | apply List.Mem.tail)) rfl ?_
          refine WL.step (WL.guardT rfl rfl rfl ?_)
          refine WL.loadW F.agg25 rfl rfl (by repeat (first | exact List.Mem.head _ | apply List.Mem.tail)) rfl ?_
          refine WL.step (WL.guardT rfl rfl rfl ?_)
          refine WL.callV (v := .bool true) F.fun16 rfl rfl (fun w hS => by have h9 := rSame_c 1200 (by decide) u u w y40.1 H _ _ _ _ w hsz2 (hS.ok (own y40.1 u (tv u y40.2.1 y40.2.2)) (by repeat (first | exact List.Mem.head _ | apply List.Mem.tail))).2 (((Ext.refl wb).st hS).tree hr2) (Ext.refl w); rw [Fm.sameT_refl] at h9; exact h9) ?_
          refine WL.step ?_
          refine WL.pickT rfl rfl rfl ?_
          refine WL.step ?_
          refine WL.move rfl rfl ?_
          refine WA.splitB (i := 73) rfl (fun g73 => ?_) (fun g73 => ?_)
          · skip
            refine WL.step (WL.guardT rfl rfl rfl ?_)
            refine WL.callV F.fun13 rfl rfl (fun w _ => wakes_c w) ?_
            refine WL.step ?_
            refine WL.pickT rfl rfl rfl ?_
            refine WL.step ?_
            refine WL.assign rfl rfl ?_
            refine WL.nil ?_
            refine WQ.then_normal ?_
            refine WC.ret ?_
            exact WQ.ret (rs := [.tmp 6]) rfl (.tmp rfl .nil) (fun w hS => ⟨by first | rfl | simp [tup], hS.sublist (List.nil_sublist _)⟩)
          · skip
            exact absurd g73 (by simp)
        · skip
          exact absurd g68 (by simp)
      · skip
        exact absurd g63 (by simp)
    · skip
      exact absurd g58 (by simp)

end Go.Proofs.Ytbippghgkbapnaa
