import Derived.Test.YtbippghgkbapnaaPaPropagates4
set_option linter.unusedSimpArgs false
set_option linter.unusedVariables false
namespace Go.Proofs.Ytbippghgkbapnaa
open Go Go.Eng Go.Proofs
def propL (q : Int → Bool) : Nat → List Int
  | 0 => []
  | n + 1 => propL q n ++ (if q ((n : Int) + 1) then [(n : Int) + 1] else if q (-((n : Int) + 1)) then [-((n : Int) + 1)] else [])
theorem propL_len (q : Int → Bool) : ∀ n, (propL q n).length ≤ n
  | 0 => Nat.le_refl _
  | n + 1 => by
    have := propL_len q n
    simp only [propL, List.length_append]
    split
    · simp; omega
    · split <;> simp <;> omega
def propE (n : Int) (ls : List (List Int)) (fixed : List Int) : List Int × Int :=
  if Fm.mayE n ls = 0 then (if fixed.all (Fm.litB n) then (match Fm.consF 66 ls fixed with
    | some o => if Fm.conflictB ls o then ([], 9) else (propL (fun z => o.contains z) n.toNat, 0)
    | none => ([], 0)) else ([], 2)) else ([], Fm.mayE n ls)
def PropPost (n : Int) (ls : List (List Int)) (fixed : List Int) (w : World) (e : Ending) (w' : World) : Prop :=
  ∃ x : Option Addr × Nat, e = .returned (.tuple #[.slice x.1 (propE n ls fixed).1.length x.2, .int .i64 (propE n ls fixed).2]) ∧
    St w [] [rowc (.slice x.1 (propE n ls fixed).1.length x.2) (propE n ls fixed).1.length 3 1 ((propE n ls fixed).1.map (Value.int .i64))] w'
theorem lit_of {m : Nat} {x : Int} (hm : m ≤ 24) (h : Fm.litB (m : Int) x = true) : Lit x := by
  simp [Fm.litB] at h
  exact ⟨h.1.1, by omega, by omega⟩
theorem lits_of {m : Nat} {c : List Int} (hm : m ≤ 24) (h : c.all (Fm.litB (m : Int)) = true) : ∀ x ∈ c, Lit x := fun x hx => lit_of hm (List.all_eq_true.1 h x hx)
theorem fits_one {n x : Int} : Fm.fitsB n [x] = Fm.litB n x := by simp [Fm.fitsB]
theorem RdC.one {w : World} {b off : Nat} {x : Int} (h : w.cell? ⟨b, off, none⟩ = some (.int .i64 x)) : RdC w [x] (some ⟨b, off, none⟩) := fun j y hy => by
  match j, hy with
  | 0, hy => simp at hy; subst hy; exact ⟨b, off, rfl, h⟩
  | j + 1, hy => simp at hy

structure P2 where
  j : Nat
  out : List Int
  ad : Option Addr
  ac : Nat

theorem rprop_c (n : Int) (ls : List (List Int)) (fixed : List Int) (a a2 : Option Addr) (cap cap2 : Nat) (us : List Value) (hll : ls.length ≤ 1000) (hlens : ∀ c ∈ ls, c.length ≤ 1099511627776) (hfle : fixed.length ≤ 1000) (hcap : fixed.length ≤ cap2)
    (w : World) (hr : RdLL w ls a us) (hr2 : RdC w fixed a2) : Calls Try.prog 33 [.int .i64 n, .slice a ls.length cap, .slice a2 fixed.length cap2].toArray w (PropPost n ls fixed w) := by
  refine enter Try.func33 rfl Try.ntmps33 rfl (St.init _) ?_
  refine WC.seq ?_
  refine WC.region ?_
  refine WL.step ?_
  refine WL.assign rfl rfl ?_
  refine WL.step ?_
  refine WL.assign rfl rfl ?_
  refine WL.nil ?_
  refine WQ.then_normal ?_
  refine WC.seq ?_
  refine WC.region ?_
  refine WL.step ?_
  refine WL.move rfl rfl ?_
  refine WL.step ?_
  refine WL.move rfl rfl ?_
  refine WL.step ?_
  refine WL.callV F.fun25 rfl rfl (fun w hS => rclauses_c n ls a cap us (by omega) hlens w (hr.next hS)) ?_
  refine WL.step ?_
  refine WL.assign rfl rfl ?_
  refine WL.nil ?_
  refine WQ.then_normal ?_
  refine WC.seq ?_
  refine WC.seq ?_
  refine WC.region ?_
  refine WL.step ?_
  refine WL.move rfl rfl ?_
  refine WL.step ?_
  refine WL.neI rfl rfl rfl ?_
  refine WL.nil ?_
  refine WQ.then_normal ?_
  refine WC.cond rfl (fun h17 => ?_) (fun h17 => ?_)
  · skip
    have hme : Fm.mayE n ls ≠ 0 := by simpa using h17
    have hres : propE n ls fixed = ([], Fm.mayE n ls) := by unfold propE; rw [if_neg hme]
    refine WC.seq ?_
    refine WC.region ?_
    refine WL.step ?_
    refine WL.move rfl rfl ?_
    refine WL.step ?_
    refine WL.assign rfl rfl ?_
    refine WL.step ?_
    refine WL.assign rfl rfl ?_
    refine WL.nil ?_
    refine WQ.then_normal ?_
    refine WC.ret ?_
    refine WQ.then_ret ?_
    exact WQ.ret (rs := [.tmp 6, .tmp 7]) rfl (.tmp rfl (.tmp rfl .nil)) (fun w hS => ⟨(none, 0), by rw [hres]; rfl, by rw [hres]; exact (hS.sublist (List.nil_sublist _)).rowNil 3 1⟩)
  · skip
    have hme : Fm.mayE n ls = 0 := by simpa using h17
    obtain ⟨hm0, hcount, hall⟩ := may_zero hme
    obtain ⟨m, rfl⟩ : ∃ m : Nat, n = (m : Int) := ⟨n.toNat, by omega⟩
    have hm : m ≤ 24 := by omega
    have hnb : (-1000 : Int) ≤ (m : Int) ∧ (m : Int) ≤ 1000 := by omega
    obtain ⟨hLL, hLen⟩ := may_lit hm hall
    refine WC.skip ?_
    refine WQ.then_normal ?_
    refine WC.seq ?_
    refine WC.seq ?_
    refine WC.region ?_
    refine WL.step ?_
    refine WL.assign rfl rfl ?_
    refine WL.nil ?_
    refine WQ.then_normal ?_
    refine WC.block ?_
    refine WC.loop (α := Nat) (fun i => i ≤ fixed.length ∧ (fixed.take i).all (Fm.litB m) = true) (fun i => [(0, .int .i64 m), (1, .slice a ls.length cap), (2, .slice a2 fixed.length cap2), (9, .int .i64 (i : Int))]) (fun _ => []) (fun i => fixed.length - i) (0) ?_ ?_ ?_ ?_
    · exact ⟨Nat.zero_le _, rfl⟩
    · exact ⟨rfl, rfl, rfl, rfl, trivial⟩
    · rfl
    rintro i ⟨hi, hno⟩
    refine WC.seq ?_
    refine WC.seq ?_
    refine WC.region ?_
    refine WL.step ?_
    refine WL.move rfl rfl ?_
    refine WL.step ?_
    refine WL.move rfl rfl ?_
    refine WL.step ?_
    refine WL.lenSl F.und54 rfl rfl ?_
    refine WL.step ?_
    refine WL.ltI rfl rfl rfl ?_
    refine WL.nil ?_
    refine WQ.then_normal ?_
    refine WC.cond rfl (fun h22 => ?_) (fun h22 => ?_)
    · skip
      have hlt : i < fixed.length := by simpa using h22
      obtain ⟨x, hx⟩ : ∃ y, fixed[i]? = some y := ⟨_, List.getElem?_eq_getElem hlt⟩
      obtain ⟨b, off, rfl, hcell⟩ := hr2 i x hx
      refine WC.skip ?_
      refine WQ.then_normal ?_
      refine WC.seq ?_
      refine WC.block ?_
      refine WC.seq ?_
      refine WC.region ?_
      refine WL.step ?_
      refine WL.move rfl rfl ?_
      refine WL.step ?_
      refine WL.move rfl rfl ?_
      refine WL.step ?_
      refine WL.move rfl rfl ?_
      refine WL.step ?_
      refine WL.move rfl rfl ?_
      refine WL.step ?_
      refine WL.add rfl rfl rfl ⟨by omega, by omega⟩ ?_
      refine WL.step ?_
      refine WL.sliceSlFT F.sl54 rfl rfl rfl (m := i) (n := i + 1) (l := 1) rfl (by omega) (by omega) (by omega) (by omega) rfl ?_
      refine WL.step ?_
      refine WL.callV F.fun66 rfl rfl (fun w hS => rfits_c m [x] (some ⟨b, off + i * 1, none⟩) (cap2 - i) hnb (by simp) w (RdC.one (by rw [Nat.mul_one]; exact hS.oldc hcell (by simp)))) ?_
      refine WL.step ?_
      refine WL.not rfl rfl ?_
      refine WL.nil ?_
      refine WQ.then_normal ?_
      refine WC.cond rfl (fun h32 => ?_) (fun h32 => ?_)
      · skip
        have hres : propE m ls fixed = ([], 2) := by
          have h9 : fixed.all (Fm.litB m) = false := all_at hx (by rw [fits_one] at h32; simpa using h32)
          unfold propE; rw [if_pos hme, h9]; rfl
        refine WC.seq ?_
        refine WC.region ?_
        refine WL.step ?_
        refine WL.assign rfl rfl ?_
        refine WL.step ?_
        refine WL.assign rfl rfl ?_
        refine WL.nil ?_
        refine WQ.then_normal ?_
        refine WC.ret ?_
        refine WQ.block_ret ?_
        refine WQ.then_ret ?_
        refine WQ.then_ret ?_
        refine WQ.block_ret ?_
        refine WQ.then_ret ?_
        exact WQ.ret (rs := [.tmp 6, .tmp 7]) rfl (.tmp rfl (.tmp rfl .nil)) (fun w hS => ⟨(none, 0), by rw [hres]; rfl, by rw [hres]; exact (hS.sublist (List.nil_sublist _)).rowNil 3 1⟩)
      · skip
        refine WC.skip ?_
        refine WQ.block_normal ?_
        refine WQ.then_normal ?_
        refine WC.region ?_
        refine WL.step ?_
        refine WL.move rfl rfl ?_
        refine WL.step ?_
        refine WL.add rfl rfl rfl ⟨by omega, by omega⟩ ?_
        refine WL.step ?_
        refine WL.assign rfl rfl ?_
        refine WL.nil ?_
        refine WQ.back (i + 1) ?_ ?_ ?_ ?_
        · exact ⟨by omega, all_takeB hx hno (by rw [fits_one] at h32; simpa using h32)⟩
        · omega
        · exact ⟨rfl, rfl, rfl, rfl, trivial⟩
        · rfl
    · skip
      have hie : i = fixed.length := by simp at h22; omega
      subst hie
      rw [List.take_length] at hno
      have hfl := hno
      have hfx := lits_of hm hfl
      obtain ⟨o, ho⟩ := Fm.cons_ends (fun d hd x hx => (hLL d hd x hx).2) fixed
      have hoM : ∀ x ∈ o, Lit x := fun x hx => by
        rcases cons_mem ho hx with h9 | ⟨d, h8, h9⟩
        · exact hfx x h9
        · exact hLL d h8 x h9
      have hol := cons_le (fun c hc x hx => (hLL c hc x hx).2) ho
      refine WC.exit ?_
      refine WQ.then_exit ?_
      refine WQ.then_exit ?_
      refine WQ.block_exit ?_
      refine WQ.then_normal ?_
      refine WC.seq ?_
      refine WC.seq ?_
      refine WC.region ?_
      refine WL.step ?_
      refine WL.move rfl rfl ?_
      refine WL.step ?_
      refine WL.move rfl rfl ?_
      refine WL.step ?_
      refine WL.callV F.fun68 rfl rfl (fun w hS => conf_c ls fixed o a a2 cap cap2 us (by omega) (by omega) (fun d hd => by have := hLen d hd; omega) hLL (fun x hx => (hfx x hx).2) 66 w (hr.next hS) (hr2.next hS) ho) ?_
      refine WL.nil ?_
      refine WQ.then_normal ?_
      refine WC.cond rfl (fun h35 => ?_) (fun h35 => ?_)
      · skip
        have hres : propE m ls fixed = ([], 9) := by
          unfold propE; rw [if_pos hme, if_pos hfl, ho]; simp [h35]
        refine WC.seq ?_
        refine WC.region ?_
        refine WL.step ?_
        refine WL.assign rfl rfl ?_
        refine WL.step ?_
        refine WL.assign rfl rfl ?_
        refine WL.nil ?_
        refine WQ.then_normal ?_
        refine WC.ret ?_
        refine WQ.then_ret ?_
        exact WQ.ret (rs := [.tmp 6, .tmp 7]) rfl (.tmp rfl (.tmp rfl .nil)) (fun w hS => ⟨(none, 0), by rw [hres]; rfl, by rw [hres]; exact (hS.sublist (List.nil_sublist _)).rowNil 3 1⟩)
      · skip
        have hcf : Fm.conflictB ls o = false := by simpa using h35
        refine WC.skip ?_
        refine WQ.then_normal ?_
        refine WC.seq ?_
        refine WC.region ?_
        refine WL.step ?_
        refine WL.move rfl rfl ?_
        refine WL.step ?_
        refine WL.move rfl rfl ?_
        refine WL.step ?_
        refine WL.callC (β := Option Addr × Nat) (res := fun y => .slice y.1 o.length y.2) (cs := fun y => [rowc (.slice y.1 o.length y.2) o.length 3 1 (o.map (Value.int .i64))]) (Cs := []) (O' := []) F.fun74 (fun d h => by cases h; rfl) rfl (List.Perm.refl _) (by simp) (by simp) (fun w hS _ => cons_c ls fixed o a a2 cap cap2 us (by omega) (by omega) (fun d hd => by have := hLen d hd; omega) hLL 66 w (hr.next hS) (hr2.next hS) ho) (fun x38 => ?_)
        obtain ⟨oa, oc⟩ := x38
        refine WL.step ?_
        refine WL.assign rfl rfl ?_
        refine WL.nil ?_
        refine WQ.then_normal ?_
        refine WC.seq ?_
        refine WC.region ?_
        refine WL.step ?_
        refine WL.assign rfl rfl ?_
        refine WL.nil ?_
        refine WQ.then_normal ?_
        refine WC.seq ?_
        refine WC.seq ?_
        refine WC.region ?_
        refine WL.step ?_
        refine WL.assign rfl rfl ?_
        refine WL.nil ?_
        refine WQ.then_normal ?_
        refine WC.block ?_
        refine WC.chunks (fun w hS => (hS.rowNil 3 1)) ?_
        refine WC.loop (α := P2) (fun g => g.j ≤ m ∧ g.out = propL (fun z => o.contains z) g.j) (fun g => [(0, .int .i64 m), (10, .slice oa o.length oc), (11, .slice g.ad g.out.length g.ac), (12, .int .i64 ((g.j : Int) + 1))]) (fun g => [rowc (.slice g.ad g.out.length g.ac) g.out.length 3 1 (g.out.map (Value.int .i64)), rowc (.slice oa o.length oc) o.length 3 1 (o.map (Value.int .i64))]) (fun g => m - g.j) (⟨0, [], none, 0⟩) ?_ ?_ ?_ ?_
        · exact ⟨Nat.zero_le _, rfl⟩
        · exact ⟨rfl, rfl, rfl, rfl, trivial⟩
        · rfl
        rintro ⟨j, out, ad, ac⟩ ⟨hj, hout⟩
        dsimp only at hj hout
        show WC _ _ _ _ _ _ _ [(0, .int .i64 m), (10, .slice oa o.length oc), (11, .slice ad out.length ac), (12, .int .i64 ((j : Int) + 1))] [rowc (.slice ad out.length ac) out.length 3 1 (out.map (Value.int .i64)), rowc (.slice oa o.length oc) o.length 3 1 (o.map (Value.int .i64))]
        have hoL : out.length ≤ j := by rw [hout]; exact propL_len _ _
        refine WC.seq ?_
        refine WC.seq ?_
        refine WC.region ?_
        refine WL.step ?_
        refine WL.move rfl rfl ?_
        refine WL.step ?_
        refine WL.move rfl rfl ?_
        refine WL.step ?_
        refine WL.leI rfl rfl rfl ?_
        refine WL.nil ?_
        refine WQ.then_normal ?_
        refine WC.cond rfl (fun h41 => ?_) (fun h41 => ?_)
        · skip
          have hjm : j + 1 ≤ m := by simp at h41; omega
          refine WC.skip ?_
          refine WQ.then_normal ?_
          refine WC.seq ?_
          refine WC.block ?_
          refine WC.seq ?_
          refine WC.seq ?_
          refine WC.region ?_
          refine WL.step ?_
          refine WL.move rfl rfl ?_
          refine WL.step ?_
          refine WL.move rfl rfl ?_
          refine WL.step ?_
          refine WL.callV F.fun75 rfl rfl (fun w hS => in_c o ((j : Int) + 1) oa oc (by omega) w (RdC.of_row rfl (hS.ok (rowc (.slice oa o.length oc) o.length 3 1 (o.map (Value.int .i64))) (by repeat (first | exact List.Mem.head _ | apply List.Mem.tail))))) ?_
          refine WL.nil ?_
          refine WQ.then_normal ?_
          refine WC.cond rfl (fun h46 => ?_) (fun h46 => ?_)
          · skip
            refine WC.region ?_
            refine WL.step ?_
            refine WL.move rfl rfl ?_
            refine WL.step ?_
            refine WL.move rfl rfl ?_
            refine WL.step ?_
            refine WL.buildSlice F.sl54 F.ez54 rfl rfl rfl rfl (by repeat (first | exact Built.nil | apply Built.one rfl rfl (by repeat constructor) | apply Built.agg rfl rfl (by repeat constructor))) rfl (fun b49 => ?_)
            refine WL.step ?_
            refine WL.appendE (news := [.int .i64 ((j : Int) + 1)]) F.el54 rfl rfl rfl (by repeat (first | exact Rem.here | apply Rem.there)) (fun w hS jj u hu => by rw [Nat.zero_add]; exact hS.cell (cs := [.int .i64 ((j : Int) + 1)]) (by repeat (first | exact List.Mem.head _ | apply List.Mem.tail)) hu) rfl (by simp [Value.oneCell']) (Nat.le_trans (m := 2199023255552) (by omega) (by decide)) (by omega) (fun ad3 ac3 => ?_)
            refine WL.step ?_
            refine WL.assign rfl rfl ?_
            refine WL.nil ?_
            refine WQ.then_normal ?_
            refine WC.seq ?_
            refine WC.region ?_
            refine WL.step ?_
            refine WL.move rfl rfl ?_
            refine WL.step ?_
            refine WL.move rfl rfl ?_
            refine WL.step ?_
            refine WL.negI rfl rfl (by omega) ?_
            refine WL.step ?_
            refine WL.callV F.fun75 rfl rfl (fun w hS => in_c o (-((j : Int) + 1)) oa oc (by omega) w (RdC.of_row rfl (hS.ok (rowc (.slice oa o.length oc) o.length 3 1 (o.map (Value.int .i64))) (by repeat (first | exact List.Mem.head _ | apply List.Mem.tail))))) ?_
            refine WL.nil ?_
            refine WQ.then_normal ?_
            refine WC.cond rfl (fun h54 => ?_) (fun h54 => ?_)
            · skip
              have h9 : o.any (fun x => o.contains (-x)) = true := List.any_eq_true.2 ⟨(j : Int) + 1, by simpa using h46, h54⟩
              unfold Fm.conflictB at hcf
              rw [h9, Bool.or_true] at hcf
              cases hcf
            · skip
              refine WC.skip ?_
              refine WQ.block_normal ?_
              refine WQ.then_normal ?_
              refine WC.region ?_
              refine WL.step ?_
              refine WL.move rfl rfl ?_
              refine WL.step ?_
              refine WL.add rfl rfl rfl ⟨by omega, by omega⟩ ?_
              refine WL.step ?_
              refine WL.assign rfl rfl ?_
              refine WL.nil ?_
              have hol2 : (out ++ [(j : Int) + 1]).length = out.length + 1 := by simp
              refine WQ.say 11 (.slice ad3 (out ++ [(j : Int) + 1]).length ac3) (by rw [hol2]; rfl) ?_
              refine WQ.chunks (C' := [rowc (.slice ad3 (out ++ [(j : Int) + 1]).length ac3) (out ++ [(j : Int) + 1]).length 3 1 ((out ++ [(j : Int) + 1]).map (Value.int .i64)), rowc (.slice oa o.length oc) o.length 3 1 (o.map (Value.int .i64))]) (fun w hS => ?_) ?_
              · rw [hol2, List.map_append]
                exact ((St.pick (St.pick hS (c := rowc (.slice oa o.length oc) o.length 3 1 (o.map (Value.int .i64))) (by repeat (first | exact Rem.here | apply Rem.there))) (c := rowc (.slice ad3 (out.length + 1) ac3) (out.length + 1) 3 1 (out.map (Value.int .i64) ++ [.int .i64 ((j : Int) + 1)])) (by repeat (first | exact Rem.here | apply Rem.there)))).sublist (List.Sublist.cons_cons _ (List.Sublist.cons_cons _ (List.nil_sublist _)))
              refine WQ.back (⟨j + 1, out ++ [(j : Int) + 1], ad3, ac3⟩) ?_ ?_ ?_ ?_
              · exact ⟨by show j + 1 ≤ _; omega, by show _ = propL _ (j + 1); simp only [propL]; rw [if_pos h46, hout]⟩
              · (show m - (j + 1) < m - j; omega)
              · exact ⟨rfl, rfl, rfl, rfl, trivial⟩
              · rfl
          · skip
            refine WC.skip ?_
            refine WQ.then_normal ?_
            refine WC.seq ?_
            refine WC.region ?_
            refine WL.step ?_
            refine WL.move rfl rfl ?_
            refine WL.step ?_
            refine WL.move rfl rfl ?_
            refine WL.step ?_
            refine WL.negI rfl rfl (by omega) ?_
            refine WL.step ?_
            refine WL.callV F.fun75 rfl rfl (fun w hS => in_c o (-((j : Int) + 1)) oa oc (by omega) w (RdC.of_row rfl (hS.ok (rowc (.slice oa o.length oc) o.length 3 1 (o.map (Value.int .i64))) (by repeat (first | exact List.Mem.head _ | apply List.Mem.tail))))) ?_
            refine WL.nil ?_
            refine WQ.then_normal ?_
            refine WC.cond rfl (fun h54 => ?_) (fun h54 => ?_)
            · skip
              refine WC.region ?_
              refine WL.step ?_
              refine WL.move rfl rfl ?_
              refine WL.step ?_
              refine WL.move rfl rfl ?_
              refine WL.step ?_
              refine WL.negI rfl rfl (by omega) ?_
              refine WL.step ?_
              refine WL.buildSlice F.sl54 F.ez54 rfl rfl rfl rfl (by repeat (first | exact Built.nil | apply Built.one rfl rfl (by repeat constructor) | apply Built.agg rfl rfl (by repeat constructor))) rfl (fun b58 => ?_)
              refine WL.step ?_
              refine WL.appendE (news := [.int .i64 (-((j : Int) + 1))]) F.el54 rfl rfl rfl (by repeat (first | exact Rem.here | apply Rem.there)) (fun w hS jj u hu => by rw [Nat.zero_add]; exact hS.cell (cs := [.int .i64 (-((j : Int) + 1))]) (by repeat (first | exact List.Mem.head _ | apply List.Mem.tail)) hu) rfl (by simp [Value.oneCell']) (Nat.le_trans (m := 2199023255552) (by omega) (by decide)) (by omega) (fun ad4 ac4 => ?_)
              refine WL.step ?_
              refine WL.assign rfl rfl ?_
              refine WL.nil ?_
              refine WQ.block_normal ?_
              refine WQ.then_normal ?_
              refine WC.region ?_
              refine WL.step ?_
              refine WL.move rfl rfl ?_
              refine WL.step ?_
              refine WL.add rfl rfl rfl ⟨by omega, by omega⟩ ?_
              refine WL.step ?_
              refine WL.assign rfl rfl ?_
              refine WL.nil ?_
              have hol2 : (out ++ [-((j : Int) + 1)]).length = out.length + 1 := by simp
              refine WQ.say 11 (.slice ad4 (out ++ [-((j : Int) + 1)]).length ac4) (by rw [hol2]; rfl) ?_
              refine WQ.chunks (C' := [rowc (.slice ad4 (out ++ [-((j : Int) + 1)]).length ac4) (out ++ [-((j : Int) + 1)]).length 3 1 ((out ++ [-((j : Int) + 1)]).map (Value.int .i64)), rowc (.slice oa o.length oc) o.length 3 1 (o.map (Value.int .i64))]) (fun w hS => ?_) ?_
              · rw [hol2, List.map_append]
                exact ((St.pick (St.pick hS (c := rowc (.slice oa o.length oc) o.length 3 1 (o.map (Value.int .i64))) (by repeat (first | exact Rem.here | apply Rem.there))) (c := rowc (.slice ad4 (out.length + 1) ac4) (out.length + 1) 3 1 (out.map (Value.int .i64) ++ [.int .i64 (-((j : Int) + 1))])) (by repeat (first | exact Rem.here | apply Rem.there)))).sublist (List.Sublist.cons_cons _ (List.Sublist.cons_cons _ (List.nil_sublist _)))
              refine WQ.back (⟨j + 1, out ++ [-((j : Int) + 1)], ad4, ac4⟩) ?_ ?_ ?_ ?_
              · exact ⟨by show j + 1 ≤ _; omega, by show _ = propL _ (j + 1); simp only [propL]; rw [if_neg (by rw [h46]; decide), if_pos h54, hout]⟩
              · (show m - (j + 1) < m - j; omega)
              · exact ⟨rfl, rfl, rfl, rfl, trivial⟩
              · rfl
            · skip
              refine WC.skip ?_
              refine WQ.block_normal ?_
              refine WQ.then_normal ?_
              refine WC.region ?_
              refine WL.step ?_
              refine WL.move rfl rfl ?_
              refine WL.step ?_
              refine WL.add rfl rfl rfl ⟨by omega, by omega⟩ ?_
              refine WL.step ?_
              refine WL.assign rfl rfl ?_
              refine WL.nil ?_
              refine WQ.back (⟨j + 1, out, ad, ac⟩) ?_ ?_ ?_ ?_
              · exact ⟨by show j + 1 ≤ _; omega, by show _ = propL _ (j + 1); simp only [propL]; rw [if_neg (by rw [h46]; decide), if_neg (by rw [h54]; decide), hout, List.append_nil]⟩
              · (show m - (j + 1) < m - j; omega)
              · exact ⟨rfl, rfl, rfl, rfl, trivial⟩
              · rfl
        · skip
          have hje : j = m := by (simp at h41; omega)
          subst hje
          have hres : propE j ls fixed = (out, 0) := by (unfold propE; rw [if_pos hme, if_pos hfl, ho, hout]; simp [hcf])
          refine WC.exit ?_
          refine WQ.then_exit ?_
          refine WQ.then_exit ?_
          refine WQ.block_exit ?_
          refine WQ.then_normal ?_
          refine WC.seq ?_
          refine WC.region ?_
          refine WL.step ?_
          refine WL.move rfl rfl ?_
          refine WL.step ?_
          refine WL.assign rfl rfl ?_
          refine WL.step ?_
          refine WL.assign rfl rfl ?_
          refine WL.nil ?_
          refine WQ.then_normal ?_
          refine WC.ret ?_
          exact WQ.ret (rs := [.tmp 6, .tmp 7]) rfl (.tmp rfl (.tmp rfl .nil)) (fun w hS => ⟨(ad, ac), by rw [hres]; rfl, by rw [hres]; exact ((St.pick hS (c := rowc (.slice ad out.length ac) out.length 3 1 (out.map (Value.int .i64))) (by repeat (first | exact Rem.here | apply Rem.there)))).sublist (List.Sublist.cons_cons _ (List.nil_sublist _))⟩)

theorem pprop_c (n : Int) (ls : List (List Int)) (fixed : List Int) (a a2 : Option Addr) (cap cap2 : Nat) (us : List Value) (hll : ls.length ≤ 1000) (hlens : ∀ c ∈ ls, c.length ≤ 1099511627776) (hfle : fixed.length ≤ 1000)
    (w : World) (hr : RdLL w ls a us) (hr2 : RdC w fixed a2) : Calls Try.prog 32 [.int .i64 n, .slice a ls.length cap, .slice a2 fixed.length cap2].toArray w (PropPost n ls fixed w) := by
  refine enter Try.func32 rfl Try.ntmps32 rfl (St.init _) ?_
  refine WC.seq ?_
  refine WC.region ?_
  refine WL.step ?_
  refine WL.assign rfl rfl ?_
  refine WL.step ?_
  refine WL.assign rfl rfl ?_
  refine WL.nil ?_
  refine WQ.then_normal ?_
  refine WC.seq ?_
  refine WC.seq ?_
  refine WC.region ?_
  refine WL.step ?_
  refine WL.move rfl rfl ?_
  refine WL.step ?_
  refine WL.move rfl rfl ?_
  refine WL.step ?_
  refine WL.callV F.fun61 rfl rfl (fun w hS => may_c n ls a cap us w (hr.next hS)) ?_
  refine WL.step ?_
  refine WL.assign rfl rfl ?_
  refine WL.nil ?_
  refine WQ.then_normal ?_
  refine WC.seq ?_
  refine WC.region ?_
  refine WL.step ?_
  refine WL.move rfl rfl ?_
  refine WL.step ?_
  refine WL.neI rfl rfl rfl ?_
  refine WL.nil ?_
  refine WQ.then_normal ?_
  refine WC.cond rfl (fun h19 => ?_) (fun h19 => ?_)
  · skip
    have hme : Fm.mayE n ls ≠ 0 := by simpa using h19
    have hres : propE n ls fixed = ([], Fm.mayE n ls) := by unfold propE; rw [if_neg hme]
    refine WC.seq ?_
    refine WC.region ?_
    refine WL.step ?_
    refine WL.move rfl rfl ?_
    refine WL.step ?_
    refine WL.assign rfl rfl ?_
    refine WL.step ?_
    refine WL.assign rfl rfl ?_
    refine WL.nil ?_
    refine WQ.then_normal ?_
    refine WC.ret ?_
    refine WQ.then_ret ?_
    exact WQ.ret (rs := [.tmp 6, .tmp 7]) rfl (.tmp rfl (.tmp rfl .nil)) (fun w hS => ⟨(none, 0), by rw [hres]; rfl, by rw [hres]; exact (hS.sublist (List.nil_sublist _)).rowNil 3 1⟩)
  · skip
    have hme : Fm.mayE n ls = 0 := by simpa using h19
    obtain ⟨hm0, hcount, hall⟩ := may_zero hme
    obtain ⟨m, rfl⟩ : ∃ m : Nat, n = (m : Int) := ⟨n.toNat, by omega⟩
    have hm : m ≤ 24 := by omega
    have hnb : (-1000 : Int) ≤ (m : Int) ∧ (m : Int) ≤ 1000 := by omega
    obtain ⟨hLL, hLen⟩ := may_lit hm hall
    refine WC.skip ?_
    refine WQ.then_normal ?_
    refine WC.seq ?_
    refine WC.region ?_
    refine WL.step ?_
    refine WL.alloc F.zero103 rfl (fun b9 => ?_)
    refine WL.nil ?_
    refine WQ.then_normal ?_
    refine WC.seq ?_
    refine WC.seq ?_
    refine WC.region ?_
    refine WL.step ?_
    refine WL.move rfl rfl ?_
    refine WL.step ?_
    refine WL.lenSl F.und54 rfl rfl ?_
    refine WL.step ?_
    refine WL.move rfl rfl ?_
    refine WL.nil ?_
    refine WQ.then_normal ?_
    refine WC.block ?_
    refine WC.loop (α := Nat × Fm.Kn) (fun g => g.1 ≤ fixed.length ∧ (fixed.take g.1).all (Fm.litB m) = true ∧ KB g.2 ∧ g.2 = (fixed.take g.1).foldl Fm.withK (0, 0)) (fun g => [(0, .int .i64 m), (1, .slice a ls.length cap), (2, .slice a2 fixed.length cap2), (9, pp b9), (21, .slice a2 fixed.length cap2), (22, .int .i64 (fixed.length : Int)), (23, .int .i64 (g.1 : Int))]) (fun g => [pt b9 [.int .u32 (g.2.1 : Int), .int .u32 (g.2.2 : Int)] 103]) (fun g => fixed.length - g.1) ((0, (0, 0))) ?_ ?_ ?_ ?_
    · exact ⟨Nat.zero_le _, rfl, ⟨by decide, by decide⟩, rfl⟩
    · exact ⟨rfl, rfl, rfl, rfl, rfl, rfl, rfl, trivial⟩
    · rfl
    rintro ⟨i, k⟩ ⟨hi, hno, hk, hke⟩
    dsimp only at hi hno hk hke
    show WC _ _ _ _ _ _ _ [(0, .int .i64 m), (1, .slice a ls.length cap), (2, .slice a2 fixed.length cap2), (9, pp b9), (21, .slice a2 fixed.length cap2), (22, .int .i64 (fixed.length : Int)), (23, .int .i64 (i : Int))] [pt b9 [.int .u32 (k.1 : Int), .int .u32 (k.2 : Int)] 103]
    refine WC.seq ?_
    refine WC.region ?_
    refine WL.step ?_
    refine WL.ltI rfl rfl rfl ?_
    refine WL.nil ?_
    refine WQ.then_normal ?_
    refine WC.seq ?_
    refine WC.cond rfl (fun h24 => ?_) (fun h24 => ?_)
    · skip
      have hlt : i < fixed.length := by simpa using h24
      obtain ⟨x, hx⟩ : ∃ y, fixed[i]? = some y := ⟨_, List.getElem?_eq_getElem hlt⟩
      obtain ⟨b, off, rfl, hcell⟩ := hr2 i x hx
      refine WC.skip ?_
      refine WQ.then_normal ?_
      refine WC.seq ?_
      refine WC.block ?_
      refine WC.seq ?_
      refine WC.region ?_
      refine WL.step ?_
      refine WL.indexAddr F.sl54 rfl rfl rfl hlt ?_
      refine WL.step ?_
      refine WL.load1 F.one3 rfl rfl (v := .int .i64 x) (fun w hS => hS.oldc (by simpa using hcell) (by simp)) ?_
      refine WL.step ?_
      refine WL.assign rfl rfl ?_
      refine WL.nil ?_
      refine WQ.then_normal ?_
      refine WC.seq ?_
      refine WC.seq ?_
      refine WC.region ?_
      refine WL.step ?_
      refine WL.move rfl rfl ?_
      refine WL.step ?_
      refine WL.move rfl rfl ?_
      refine WL.step ?_
      refine WL.callV F.fun73 rfl rfl (fun w _ => literal_c m x hnb w) ?_
      refine WL.step ?_
      refine WL.not rfl rfl ?_
      refine WL.nil ?_
      refine WQ.then_normal ?_
      refine WC.cond rfl (fun h30 => ?_) (fun h30 => ?_)
      · skip
        have hres : propE m ls fixed = ([], 2) := by
          have h9 : fixed.all (Fm.litB m) = false := all_at hx (by simpa using h30)
          unfold propE; rw [if_pos hme, h9]; rfl
        refine WC.seq ?_
        refine WC.region ?_
        refine WL.step ?_
        refine WL.assign rfl rfl ?_
        refine WL.step ?_
        refine WL.assign rfl rfl ?_
        refine WL.nil ?_
        refine WQ.then_normal ?_
        refine WC.ret ?_
        refine WQ.then_ret ?_
        refine WQ.block_ret ?_
        refine WQ.then_ret ?_
        refine WQ.then_ret ?_
        refine WQ.block_ret ?_
        refine WQ.then_ret ?_
        exact WQ.ret (rs := [.tmp 6, .tmp 7]) rfl (.tmp rfl (.tmp rfl .nil)) (fun w hS => ⟨(none, 0), by rw [hres]; rfl, by rw [hres]; exact (hS.sublist (List.nil_sublist _)).rowNil 3 1⟩)
      · skip
        have hxb : Fm.litB m x = true := by simpa using h30
        have hxl := lit_of hm hxb
        refine WC.skip ?_
        refine WQ.then_normal ?_
        refine WC.region ?_
        refine WL.step ?_
        refine WL.loadW F.agg103 rfl rfl (by repeat (first | exact List.Mem.head _ | apply List.Mem.tail)) rfl ?_
        refine WL.step ?_
        refine WL.move rfl rfl ?_
        refine WL.step ?_
        refine WL.callV F.fun63 rfl rfl (fun w _ => with_c k x hk hxl w) ?_
        refine WL.step ?_
        refine WL.storeN F.agg103 rfl rfl rfl (by simp [Value.oneCell']) (by repeat (first | exact Upd.here | apply Upd.there)) (by repeat constructor) ?_
        refine WL.nil ?_
        refine WQ.block_normal ?_
        refine WQ.then_normal ?_
        refine WC.region ?_
        refine WL.step ?_
        refine WL.add rfl rfl rfl ⟨by omega, by omega⟩ ?_
        refine WL.step ?_
        refine WL.move rfl rfl ?_
        refine WL.nil ?_
        refine WQ.back ((i + 1, Fm.withK k x)) ?_ ?_ ?_ ?_
        · exact ⟨by show i + 1 ≤ _; omega, all_takeB hx hno hxb, hk.with ⟨hxl.1, by omega, by omega⟩, by show Fm.withK k x = _; rw [List.take_add_one, hx, List.foldl_append, ← hke]; rfl⟩
        · (show fixed.length - (i + 1) < fixed.length - i; omega)
        · exact ⟨rfl, rfl, rfl, rfl, rfl, rfl, rfl, trivial⟩
        · rfl
    · skip
      have hie : i = fixed.length := by simp at h24; omega
      subst hie
      rw [List.take_length] at hno hke
      have hfl := hno
      have hfx := lits_of hm hfl
      obtain ⟨o, ho⟩ := Fm.cons_ends (fun d hd x hx => (hLL d hd x hx).2) fixed
      obtain ⟨⟨k1, ok⟩, hcl2⟩ := Fm.closed_ends hLL (fixed.foldl Fm.withK (0, 0))
      have hco := Fm.closed_conflict (fun d hd x hx => (hLL d hd x hx).1) (fun x hx => (hfx x hx).1) hcl2 ho
      have hk1 : KB k1 := closedF_KB (by rw [← hke]; exact hk) hLL hcl2
      refine WC.exit ?_
      refine WQ.then_exit ?_
      refine WQ.then_exit ?_
      refine WQ.block_exit ?_
      refine WQ.then_normal ?_
      refine WC.seq ?_
      refine WC.region ?_
      refine WL.step ?_
      refine WL.move rfl rfl ?_
      refine WL.step ?_
      refine WL.loadW F.agg103 rfl rfl (by repeat (first | exact List.Mem.head _ | apply List.Mem.tail)) rfl ?_
      refine WL.step ?_
      refine WL.callV F.fun64 rfl rfl (fun w hS => closed_c ls a cap us k 65 (k1, ok) hk hLL (fun d hd => by have := hLen d hd; omega) (by omega) w (hr.next hS) (by rw [hke]; exact hcl2)) ?_
      refine WL.step ?_
      refine WL.move rfl rfl ?_
      refine WL.step ?_
      refine WL.extract rfl rfl rfl ?_
      refine WL.step ?_
      refine WL.extract rfl rfl rfl ?_
      refine WL.step ?_
      refine WL.storeN F.agg103 rfl rfl rfl (by simp [Value.oneCell']) (by repeat (first | exact Upd.here | apply Upd.there)) (by repeat constructor) ?_
      refine WL.step ?_
      refine WL.assign rfl rfl ?_
      refine WL.nil ?_
      refine WQ.then_normal ?_
      refine WC.seq ?_
      refine WC.seq ?_
      refine WC.region ?_
      refine WL.step ?_
      refine WL.move rfl rfl ?_
      refine WL.step ?_
      refine WL.not rfl rfl ?_
      refine WL.nil ?_
      refine WQ.then_normal ?_
      refine WC.cond rfl (fun h42 => ?_) (fun h42 => ?_)
      · skip
        have hcf : Fm.conflictB ls o = true := by rw [hco.1]; exact h42
        have hres : propE m ls fixed = ([], 9) := by
          unfold propE; rw [if_pos hme, if_pos hfl, ho]; simp [hcf]
        refine WC.seq ?_
        refine WC.region ?_
        refine WL.step ?_
        refine WL.assign rfl rfl ?_
        refine WL.step ?_
        refine WL.assign rfl rfl ?_
        refine WL.nil ?_
        refine WQ.then_normal ?_
        refine WC.ret ?_
        refine WQ.then_ret ?_
        exact WQ.ret (rs := [.tmp 6, .tmp 7]) rfl (.tmp rfl (.tmp rfl .nil)) (fun w hS => ⟨(none, 0), by rw [hres]; rfl, by rw [hres]; exact (hS.sublist (List.nil_sublist _)).rowNil 3 1⟩)
      · skip
        have hok : ok = true := by simpa using h42
        have hcf : Fm.conflictB ls o = false := by rw [hco.1, hok]; rfl
        have hq := hco.2 hok
        refine WC.skip ?_
        refine WQ.then_normal ?_
        refine WC.seq ?_
        refine WC.region ?_
        refine WL.step ?_
        refine WL.assign rfl rfl ?_
        refine WL.nil ?_
        refine WQ.then_normal ?_
        refine WC.seq ?_
        refine WC.seq ?_
        refine WC.region ?_
        refine WL.step ?_
        refine WL.assign rfl rfl ?_
        refine WL.nil ?_
        refine WQ.then_normal ?_
        refine WC.block ?_
        refine WC.chunks (fun w hS => (hS.rowNil 3 1)) ?_
        refine WC.loop (α := P2) (fun g => g.j ≤ m ∧ g.out = propL (fun z => o.contains z) g.j) (fun g => [(0, .int .i64 m), (9, pp b9), (13, .slice g.ad g.out.length g.ac), (14, .int .i64 ((g.j : Int) + 1))]) (fun g => [rowc (.slice g.ad g.out.length g.ac) g.out.length 3 1 (g.out.map (Value.int .i64)), pt b9 [.int .u32 (k1.1 : Int), .int .u32 (k1.2 : Int)] 103]) (fun g => m - g.j) (⟨0, [], none, 0⟩) ?_ ?_ ?_ ?_
        · exact ⟨Nat.zero_le _, rfl⟩
        · exact ⟨rfl, rfl, rfl, rfl, trivial⟩
        · rfl
        rintro ⟨j, out, ad, ac⟩ ⟨hj, hout⟩
        dsimp only at hj hout
        show WC _ _ _ _ _ _ _ [(0, .int .i64 m), (9, pp b9), (13, .slice ad out.length ac), (14, .int .i64 ((j : Int) + 1))] [rowc (.slice ad out.length ac) out.length 3 1 (out.map (Value.int .i64)), pt b9 [.int .u32 (k1.1 : Int), .int .u32 (k1.2 : Int)] 103]
        have hoL : out.length ≤ j := by rw [hout]; exact propL_len _ _
        refine WC.seq ?_
        refine WC.seq ?_
        refine WC.region ?_
        refine WL.step ?_
        refine WL.move rfl rfl ?_
        refine WL.step ?_
        refine WL.move rfl rfl ?_
        refine WL.step ?_
        refine WL.leI rfl rfl rfl ?_
        refine WL.nil ?_
        refine WQ.then_normal ?_
        refine WC.cond rfl (fun h45 => ?_) (fun h45 => ?_)
        · skip
          have hjm : j + 1 ≤ m := by simp at h45; omega
          have hL1 : Lit ((j : Int) + 1) := ⟨by omega, by omega, by omega⟩
          have hL2 : Lit (-((j : Int) + 1)) := ⟨by omega, by omega, by omega⟩
          refine WC.skip ?_
          refine WQ.then_normal ?_
          refine WC.seq ?_
          refine WC.block ?_
          refine WC.block ?_
          refine WC.seq ?_
          refine WC.region ?_
          refine WL.step ?_
          refine WL.loadW F.agg103 rfl rfl (by repeat (first | exact List.Mem.head _ | apply List.Mem.tail)) rfl ?_
          refine WL.step ?_
          refine WL.move rfl rfl ?_
          refine WL.step ?_
          refine WL.callV F.fun65 rfl rfl (fun w _ => has_c k1 ((j : Int) + 1) hk1 hL1 w) ?_
          refine WL.step ?_
          refine WL.assign rfl rfl ?_
          refine WL.nil ?_
          refine WQ.then_normal ?_
          refine WC.cond rfl (fun h48 => ?_) (fun h48 => ?_)
          · skip
            have h46 : o.contains ((j : Int) + 1) = true := by rw [← hq _ hL1.1]; exact h48
            refine WC.region ?_
            refine WL.step ?_
            refine WL.move rfl rfl ?_
            refine WL.step ?_
            refine WL.move rfl rfl ?_
            refine WL.step ?_
            refine WL.buildSlice F.sl54 F.ez54 rfl rfl rfl rfl (by repeat (first | exact Built.nil | apply Built.one rfl rfl (by repeat constructor) | apply Built.agg rfl rfl (by repeat constructor))) rfl (fun b54 => ?_)
            refine WL.step ?_
            refine WL.appendE (news := [.int .i64 ((j : Int) + 1)]) F.el54 rfl rfl rfl (by repeat (first | exact Rem.here | apply Rem.there)) (fun w hS jj u hu => by rw [Nat.zero_add]; exact hS.cell (cs := [.int .i64 ((j : Int) + 1)]) (by repeat (first | exact List.Mem.head _ | apply List.Mem.tail)) hu) rfl (by simp [Value.oneCell']) (Nat.le_trans (m := 2199023255552) (by omega) (by decide)) (by omega) (fun ad3 ac3 => ?_)
            refine WL.step ?_
            refine WL.assign rfl rfl ?_
            refine WL.nil ?_
            refine WQ.block_normal ?_
            refine WQ.block_normal ?_
            refine WQ.then_normal ?_
            refine WC.region ?_
            refine WL.step ?_
            refine WL.move rfl rfl ?_
            refine WL.step ?_
            refine WL.add rfl rfl rfl ⟨by omega, by omega⟩ ?_
            refine WL.step ?_
            refine WL.assign rfl rfl ?_
            refine WL.nil ?_
            have hol2 : (out ++ [(j : Int) + 1]).length = out.length + 1 := by simp
            refine WQ.say 13 (.slice ad3 (out ++ [(j : Int) + 1]).length ac3) (by rw [hol2]; rfl) ?_
            refine WQ.chunks (C' := [rowc (.slice ad3 (out ++ [(j : Int) + 1]).length ac3) (out ++ [(j : Int) + 1]).length 3 1 ((out ++ [(j : Int) + 1]).map (Value.int .i64)), pt b9 [.int .u32 (k1.1 : Int), .int .u32 (k1.2 : Int)] 103]) (fun w hS => ?_) ?_
            · rw [hol2, List.map_append]
              exact ((St.pick (St.pick hS (c := pt b9 [.int .u32 (k1.1 : Int), .int .u32 (k1.2 : Int)] 103) (by repeat (first | exact Rem.here | apply Rem.there))) (c := rowc (.slice ad3 (out.length + 1) ac3) (out.length + 1) 3 1 (out.map (Value.int .i64) ++ [.int .i64 ((j : Int) + 1)])) (by repeat (first | exact Rem.here | apply Rem.there)))).sublist (List.Sublist.cons_cons _ (List.Sublist.cons_cons _ (List.nil_sublist _)))
            refine WQ.back (⟨j + 1, out ++ [(j : Int) + 1], ad3, ac3⟩) ?_ ?_ ?_ ?_
            · exact ⟨by show j + 1 ≤ _; omega, by show _ = propL _ (j + 1); simp only [propL]; rw [if_pos h46, hout]⟩
            · (show m - (j + 1) < m - j; omega)
            · exact ⟨rfl, rfl, rfl, rfl, trivial⟩
            · rfl
          · skip
            have h46 : o.contains ((j : Int) + 1) = false := by rw [← hq _ hL1.1]; exact h48
            refine WC.seq ?_
            refine WC.region ?_
            refine WL.step ?_
            refine WL.loadW F.agg103 rfl rfl (by repeat (first | exact List.Mem.head _ | apply List.Mem.tail)) rfl ?_
            refine WL.step ?_
            refine WL.move rfl rfl ?_
            refine WL.step ?_
            refine WL.negI rfl rfl (by omega) ?_
            refine WL.step ?_
            refine WL.callV F.fun65 rfl rfl (fun w _ => has_c k1 (-((j : Int) + 1)) hk1 hL2 w) ?_
            refine WL.step ?_
            refine WL.assign rfl rfl ?_
            refine WL.nil ?_
            refine WQ.then_normal ?_
            refine WC.cond rfl (fun h56 => ?_) (fun h56 => ?_)
            · skip
              have h54 : o.contains (-((j : Int) + 1)) = true := by rw [← hq _ hL2.1]; exact h56
              refine WC.region ?_
              refine WL.step ?_
              refine WL.move rfl rfl ?_
              refine WL.step ?_
              refine WL.move rfl rfl ?_
              refine WL.step ?_
              refine WL.negI rfl rfl (by omega) ?_
              refine WL.step ?_
              refine WL.buildSlice F.sl54 F.ez54 rfl rfl rfl rfl (by repeat (first | exact Built.nil | apply Built.one rfl rfl (by repeat constructor) | apply Built.agg rfl rfl (by repeat constructor))) rfl (fun b64 => ?_)
              refine WL.step ?_
              refine WL.appendE (news := [.int .i64 (-((j : Int) + 1))]) F.el54 rfl rfl rfl (by repeat (first | exact Rem.here | apply Rem.there)) (fun w hS jj u hu => by rw [Nat.zero_add]; exact hS.cell (cs := [.int .i64 (-((j : Int) + 1))]) (by repeat (first | exact List.Mem.head _ | apply List.Mem.tail)) hu) rfl (by simp [Value.oneCell']) (Nat.le_trans (m := 2199023255552) (by omega) (by decide)) (by omega) (fun ad4 ac4 => ?_)
              refine WL.step ?_
              refine WL.assign rfl rfl ?_
              refine WL.nil ?_
              refine WQ.block_normal ?_
              refine WQ.block_normal ?_
              refine WQ.then_normal ?_
              refine WC.region ?_
              refine WL.step ?_
              refine WL.move rfl rfl ?_
              refine WL.step ?_
              refine WL.add rfl rfl rfl ⟨by omega, by omega⟩ ?_
              refine WL.step ?_
              refine WL.assign rfl rfl ?_
              refine WL.nil ?_
              have hol2 : (out ++ [-((j : Int) + 1)]).length = out.length + 1 := by simp
              refine WQ.say 13 (.slice ad4 (out ++ [-((j : Int) + 1)]).length ac4) (by rw [hol2]; rfl) ?_
              refine WQ.chunks (C' := [rowc (.slice ad4 (out ++ [-((j : Int) + 1)]).length ac4) (out ++ [-((j : Int) + 1)]).length 3 1 ((out ++ [-((j : Int) + 1)]).map (Value.int .i64)), pt b9 [.int .u32 (k1.1 : Int), .int .u32 (k1.2 : Int)] 103]) (fun w hS => ?_) ?_
              · rw [hol2, List.map_append]
                exact ((St.pick (St.pick hS (c := pt b9 [.int .u32 (k1.1 : Int), .int .u32 (k1.2 : Int)] 103) (by repeat (first | exact Rem.here | apply Rem.there))) (c := rowc (.slice ad4 (out.length + 1) ac4) (out.length + 1) 3 1 (out.map (Value.int .i64) ++ [.int .i64 (-((j : Int) + 1))])) (by repeat (first | exact Rem.here | apply Rem.there)))).sublist (List.Sublist.cons_cons _ (List.Sublist.cons_cons _ (List.nil_sublist _)))
              refine WQ.back (⟨j + 1, out ++ [-((j : Int) + 1)], ad4, ac4⟩) ?_ ?_ ?_ ?_
              · exact ⟨by show j + 1 ≤ _; omega, by show _ = propL _ (j + 1); simp only [propL]; rw [if_neg (by rw [h46]; decide), if_pos h54, hout]⟩
              · (show m - (j + 1) < m - j; omega)
              · exact ⟨rfl, rfl, rfl, rfl, trivial⟩
              · rfl
            · skip
              have h54 : o.contains (-((j : Int) + 1)) = false := by rw [← hq _ hL2.1]; exact h56
              refine WC.skip ?_
              refine WQ.block_normal ?_
              refine WQ.block_normal ?_
              refine WQ.then_normal ?_
              refine WC.region ?_
              refine WL.step ?_
              refine WL.move rfl rfl ?_
              refine WL.step ?_
              refine WL.add rfl rfl rfl ⟨by omega, by omega⟩ ?_
              refine WL.step ?_
              refine WL.assign rfl rfl ?_
              refine WL.nil ?_
              refine WQ.back (⟨j + 1, out, ad, ac⟩) ?_ ?_ ?_ ?_
              · exact ⟨by show j + 1 ≤ _; omega, by show _ = propL _ (j + 1); simp only [propL]; rw [if_neg (by rw [h46]; decide), if_neg (by rw [h54]; decide), hout, List.append_nil]⟩
              · (show m - (j + 1) < m - j; omega)
              · exact ⟨rfl, rfl, rfl, rfl, trivial⟩
              · rfl
        · skip
          have hje : j = m := by (simp at h45; omega)
          subst hje
          have hres : propE j ls fixed = (out, 0) := by (unfold propE; rw [if_pos hme, if_pos hfl, ho, hout]; simp [hcf])
          refine WC.exit ?_
          refine WQ.then_exit ?_
          refine WQ.then_exit ?_
          refine WQ.block_exit ?_
          refine WQ.then_normal ?_
          refine WC.seq ?_
          refine WC.region ?_
          refine WL.step ?_
          refine WL.move rfl rfl ?_
          refine WL.step ?_
          refine WL.assign rfl rfl ?_
          refine WL.step ?_
          refine WL.assign rfl rfl ?_
          refine WL.nil ?_
          refine WQ.then_normal ?_
          refine WC.ret ?_
          exact WQ.ret (rs := [.tmp 6, .tmp 7]) rfl (.tmp rfl (.tmp rfl .nil)) (fun w hS => ⟨(ad, ac), by rw [hres]; rfl, by rw [hres]; exact ((St.pick hS (c := rowc (.slice ad out.length ac) out.length 3 1 (out.map (Value.int .i64))) (by repeat (first | exact Rem.here | apply Rem.there)))).sublist (List.Sublist.cons_cons _ (List.nil_sublist _))⟩)

end Go.Proofs.Ytbippghgkbapnaa

namespace Go.Proofs.Ytbippghgkbapnaa
open Go Go.Eng Go.Proofs
theorem propE_len (n : Int) (ls : List (List Int)) (fixed : List Int) : (propE n ls fixed).1.length ≤ 24 := by
  unfold propE
  split
  · rename_i h
    obtain ⟨h1, _⟩ := may_zero h
    split
    · split
      · split
        · simp
        · have := propL_len (fun z => (by assumption : List Int).contains z) n.toNat
          exact Nat.le_trans (propL_len _ _) (by omega)
      · simp
    · simp
  · simp

theorem FormulaPropagates_c (n : Int) (ls : List (List Int)) (a : Option Addr) (cap : Nat) (us : List Value) (fixed : List Int) (a2 : Option Addr) (cap2 : Nat) (w : World) (_hn : -9223372036854775808 ≤ n ∧ n < 9223372036854775808) (hr : RdLL w ls a us) (hr2 : RdC w fixed a2 ∧ fixed.length ≤ cap2) :
    Pure Try.prog 9 [.int .i64 n, .slice a ls.length cap, .slice a2 fixed.length cap2] w (.bool true) := by
  refine enter Try.func9 rfl Try.ntmps9 rfl (St.init _) ?_
  refine WC.seq ?_
  refine WC.region ?_
  refine WL.step ?_
  refine WL.assign rfl rfl ?_
  refine WL.nil ?_
  refine WQ.then_normal ?_
  refine WC.seq ?_
  refine WC.seq ?_
  refine WC.region ?_
  refine WL.step ?_
  refine WL.move rfl rfl ?_
  refine WL.step ?_
  refine WL.callV F.fun22 rfl rfl (fun w hS => Large_c ls a cap us w (hr.next hS)) ?_
  refine WL.step ?_
  refine WL.move rfl rfl ?_
  refine WA.splitB (i := 14) rfl (fun g14 => ?_) (fun g14 => ?_)
  · skip
    refine WL.step (WL.guardF rfl rfl rfl rfl rfl rfl ?_)
    refine WL.step (WL.guardF rfl rfl rfl rfl rfl rfl ?_)
    refine WL.step (WL.guardF rfl rfl rfl rfl rfl rfl ?_)
    refine WL.step ?_
    refine WL.pickT rfl rfl rfl ?_
    refine WL.nil ?_
    refine WQ.then_normal ?_
    refine WC.condT rfl ?_
    refine WC.seq ?_
    refine WC.region ?_
    refine WL.step ?_
    refine WL.callV F.fun13 rfl rfl (fun w _ => wakes_c w) ?_
    refine WL.step ?_
    refine WL.assign rfl rfl ?_
    refine WL.nil ?_
    refine WQ.then_normal ?_
    refine WC.ret ?_
    refine WQ.then_ret ?_
    exact WQ.ret (rs := [.tmp 6]) rfl (.tmp rfl .nil) (fun w hS => ⟨by first | rfl | simp [tup], hS.sublist (List.nil_sublist _)⟩)
  · skip
    refine WL.step (WL.guardT rfl rfl rfl ?_)
    refine WL.move rfl rfl ?_
    refine WL.step (WL.guardT rfl rfl rfl ?_)
    refine WL.lenSl F.und54 rfl rfl ?_
    refine WL.step (WL.guardT rfl rfl rfl ?_)
    refine WL.gtI rfl rfl rfl ?_
    refine WL.step ?_
    refine WL.pickF rfl rfl rfl ?_
    refine WL.nil ?_
    refine WQ.then_normal ?_
    refine WC.cond rfl (fun h18 => ?_) (fun h18 => ?_)
    · skip
      refine WC.seq ?_
      refine WC.region ?_
      refine WL.step ?_
      refine WL.callV F.fun13 rfl rfl (fun w _ => wakes_c w) ?_
      refine WL.step ?_
      refine WL.assign rfl rfl ?_
      refine WL.nil ?_
      refine WQ.then_normal ?_
      refine WC.ret ?_
      refine WQ.then_ret ?_
      exact WQ.ret (rs := [.tmp 6]) rfl (.tmp rfl .nil) (fun w hS => ⟨by first | rfl | simp [tup], hS.sublist (List.nil_sublist _)⟩)
    · skip
      obtain ⟨hl40, hc80⟩ := large_no g14
      have hf60 : fixed.length ≤ 60 := by simp at h18; omega
      have hk1 : ∀ c ∈ ls, c.length ≤ 1000 := fun c hc => by have := hc80 c hc; omega
      refine WC.skip ?_
      refine WQ.then_normal ?_
      refine WC.seq ?_
      refine WC.region ?_
      refine WL.step ?_
      refine WL.move rfl rfl ?_
      refine WL.step ?_
      refine WL.callC (β := RowsX) (res := fun x => .slice x.1.2.1 ls.length x.1.2.2) (cs := fun x => [rowc (.slice x.1.2.1 ls.length x.1.2.2) ls.length 54 1 x.1.1.2, stepsC x.1.1.1 x.1.1.2 ls]) (Cs := []) (O' := []) F.fun23 (fun d h => by cases h; rfl) rfl (List.Perm.refl _) (by simp) (by simp) (fun w hS _ => Rows_c ls a cap us (by omega) hk1 w (hr.next hS)) (fun x21 => ?_)
      refine WL.step ?_
      refine WL.assign rfl rfl ?_
      refine WL.nil ?_
      refine WQ.then_normal ?_
      refine WC.seq ?_
      refine WC.region ?_
      refine WL.step ?_
      refine WL.move rfl rfl ?_
      refine WL.step ?_
      refine WL.move rfl rfl ?_
      refine WL.step ?_
      refine WL.move rfl rfl ?_
      refine WA.chunks (fun w hS => (hS.rowNil 3 1)) ?_
      refine WL.step ?_
      refine WL.appendC (n := 0) (v := .slice none 0 0) (xs := []) (news := fixed.map (Value.int .i64)) F.el54 rfl rfl rfl (by repeat (first | exact Rem.here | apply Rem.there)) (fun w hS hm => (hr2.1.next hS).news hm) (by simp) (ints_one _) (Nat.le_trans (m := 1099511627776) (by omega) (by decide)) (by omega) (fun ad ac => ?_)
      rw [Nat.zero_add, List.nil_append]
      refine WL.step ?_
      refine WL.callC (β := Option Addr × Nat) (res := fun y => .tuple #[.slice y.1 (propE n ls fixed).1.length y.2, .int .i64 (propE n ls fixed).2]) (cs := fun y => [rowc (.slice y.1 (propE n ls fixed).1.length y.2) (propE n ls fixed).1.length 3 1 ((propE n ls fixed).1.map (Value.int .i64))]) (Cs := []) (O' := []) F.fun32 (fun d h => by cases h; rfl) rfl (List.Perm.refl _) (by simp) (by simp) (fun w hS _ => pprop_c n ls fixed x21.1.2.1 ad x21.1.2.2 ac x21.1.1.2 (by omega) (fun c hc => by have := hk1 c hc; omega) (by omega) w (RdLL.made rfl (hS.ok (rowc (.slice x21.1.2.1 ls.length x21.1.2.2) ls.length 54 1 x21.1.1.2) (by repeat (first | exact List.Mem.head _ | apply List.Mem.tail))) (hS.ok (stepsC x21.1.1.1 x21.1.1.2 ls) (by repeat (first | exact List.Mem.head _ | apply List.Mem.tail)))) (RdC.of_row rfl (hS.ok (rowc (.slice ad fixed.length ac) fixed.length 3 1 (fixed.map (Value.int .i64))) (by repeat (first | exact List.Mem.head _ | apply List.Mem.tail))))) (fun x27 => ?_)
      refine WL.step ?_
      refine WL.move rfl rfl ?_
      refine WL.step ?_
      refine WL.extract rfl rfl rfl ?_
      refine WL.step ?_
      refine WL.extract rfl rfl rfl ?_
      refine WL.step ?_
      refine WL.assign rfl rfl ?_
      refine WL.step ?_
      refine WL.assign rfl rfl ?_
      refine WL.nil ?_
      refine WQ.then_normal ?_
      refine WC.seq ?_
      refine WC.region ?_
      refine WL.step ?_
      refine WL.move rfl rfl ?_
      refine WL.step ?_
      refine WL.move rfl rfl ?_
      refine WL.step ?_
      refine WL.move rfl rfl ?_
      refine WL.step ?_
      refine WL.callC (β := Option Addr × Nat) (res := fun y => .tuple #[.slice y.1 (propE n ls fixed).1.length y.2, .int .i64 (propE n ls fixed).2]) (cs := fun y => [rowc (.slice y.1 (propE n ls fixed).1.length y.2) (propE n ls fixed).1.length 3 1 ((propE n ls fixed).1.map (Value.int .i64))]) (Cs := []) (O' := []) F.fun33 (fun d h => by cases h; rfl) rfl (List.Perm.refl _) (by simp) (by simp) (fun w hS _ => rprop_c n ls fixed a a2 cap cap2 us (by omega) (fun c hc => by have := hk1 c hc; omega) (by omega) hr2.2 w (hr.next hS) (hr2.1.next hS)) (fun x34 => ?_)
      refine WL.step ?_
      refine WL.move rfl rfl ?_
      refine WL.step ?_
      refine WL.extract rfl rfl rfl ?_
      refine WL.step ?_
      refine WL.extract rfl rfl rfl ?_
      refine WL.step ?_
      refine WL.assign rfl rfl ?_
      refine WL.step ?_
      refine WL.assign rfl rfl ?_
      refine WL.nil ?_
      refine WQ.then_normal ?_
      refine WC.seq ?_
      refine WC.region ?_
      refine WL.step ?_
      refine WL.move rfl rfl ?_
      refine WL.step ?_
      refine WL.move rfl rfl ?_
      refine WL.step ?_
      refine WL.eqI rfl rfl rfl ?_
      refine WL.step ?_
      refine WL.move rfl rfl ?_
      refine WA.splitB (i := 40) rfl (fun g40 => ?_) (fun g40 => ?_)
      · skip
        refine WL.step (WL.guardT rfl rfl rfl ?_)
        refine WL.move rfl rfl ?_
        refine WL.step (WL.guardT rfl rfl rfl ?_)
        refine WL.move rfl rfl ?_
        refine WL.step (WL.guardT rfl rfl rfl ?_)
        refine WL.callV F.fun34 rfl rfl (fun w hS => Alike_c (propE n ls fixed).1 x27.1 x34.1 x27.2 x34.2 (by have := propE_len n ls fixed; omega) w (RdC.of_row rfl (hS.ok (rowc (.slice x27.1 (propE n ls fixed).1.length x27.2) (propE n ls fixed).1.length 3 1 ((propE n ls fixed).1.map (Value.int .i64))) (by repeat (first | exact List.Mem.head _ | apply List.Mem.tail)))) (RdC.of_row rfl (hS.ok (rowc (.slice x34.1 (propE n ls fixed).1.length x34.2) (propE n ls fixed).1.length 3 1 ((propE n ls fixed).1.map (Value.int .i64))) (by repeat (first | exact List.Mem.head _ | apply List.Mem.tail))))) ?_
        refine WL.step ?_
        refine WL.pickT rfl rfl rfl ?_
        refine WL.step ?_
        refine WL.move rfl rfl ?_
        refine WA.splitB (i := 45) rfl (fun g45 => ?_) (fun g45 => ?_)
        · skip
          refine WL.step (WL.guardT rfl rfl rfl ?_)
          refine WL.move rfl rfl ?_
          refine WL.step (WL.guardT rfl rfl rfl ?_)
          refine WL.move rfl rfl ?_
          refine WL.step (WL.guardT rfl rfl rfl ?_)
          refine WL.callV F.fun26 rfl rfl (fun w hS => lsame_c ls x21.1.2.1 a x21.1.2.2 cap x21.1.1.2 us (by omega) hk1 w (RdLL.made rfl (hS.ok (rowc (.slice x21.1.2.1 ls.length x21.1.2.2) ls.length 54 1 x21.1.1.2) (by repeat (first | exact List.Mem.head _ | apply List.Mem.tail))) (hS.ok (stepsC x21.1.1.1 x21.1.1.2 ls) (by repeat (first | exact List.Mem.head _ | apply List.Mem.tail)))) (hr.next hS)) ?_
          refine WL.step ?_
          refine WL.pickT rfl rfl rfl ?_
          refine WL.step ?_
          refine WL.move rfl rfl ?_
          refine WA.splitB (i := 50) rfl (fun g50 => ?_) (fun g50 => ?_)
          · skip
            refine WL.step (WL.guardT rfl rfl rfl ?_)
            refine WL.callV F.fun13 rfl rfl (fun w _ => wakes_c w) ?_
            refine WL.step ?_
            refine WL.pickT rfl rfl rfl ?_
            refine WL.step ?_
            refine WL.assign rfl rfl ?_
            refine WL.nil ?_
            refine WQ.then_normal ?_
            refine WC.ret ?_
            exact WQ.ret (rs := [.tmp 6]) rfl (.tmp rfl .nil) (fun w hS => ⟨by first | rfl | simp [tup], hS.sublist (List.nil_sublist _)⟩)
          · skip
            exact absurd g50 (by simp)
        · skip
          exact absurd g45 (by simp)
      · skip
        exact absurd g40 (by simp)

end Go.Proofs.Ytbippghgkbapnaa
