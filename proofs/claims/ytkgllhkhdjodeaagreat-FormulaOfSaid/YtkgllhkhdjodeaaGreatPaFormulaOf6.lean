/- Parts of the walk, put together by a program. By an AI agent. -/
import Derived.Test.YtkgllhkhdjodeaaGreatPaFormulaOf5
set_option linter.unusedSimpArgs false
set_option linter.unusedVariables false
namespace Go.Proofs.YtkgllhkhdjodeaaGreat
open Go Go.Eng Go.Proofs Dg
def shapeT (x lo hi : Tree) : Tree :=
 if hi.op = 2 ∧ lo.op = 1 then x
 else if hi.op = 1 ∧ lo.op = 2 then .mk 4 [] [x]
 else if lo.op = 1 then .mk 5 [] [x,hi]
 else if hi.op = 2 then .mk 6 [] [x,lo]
 else if hi.op = 1 then .mk 5 [] [.mk 4 [] [x],lo]
 else if lo.op = 2 then .mk 6 [] [.mk 4 [] [x],hi]
 else .mk 10 [] [x,hi,lo]
abbrev nT (t : Tree) : Nat := (Fm.rowT t).length
abbrev szL (x : SzT) : List Value := e4 (fun x : SzT => .int .u8 x.1.op) (fun x => .string (str x.1.name)) (fun x => .slice x.2.1 x.1.kids.length x.2.2) (fun x => .int .i64 (nT x.1 : Int)) x
theorem szL_one (x : SzT) : ∀ u ∈ szL x,u.oneCell' = true := by simp [szL,e4,Value.oneCell']
theorem nT_pos (t : Tree) : 1 ≤ nT t := by
 unfold nT
 rw [Fm.rowT_eq]
 simp
abbrev ShZ : Type := List Nat × Option Addr × Nat
set_option maxRecDepth 100000 in
theorem shape_c (nm : List UInt8) (xa : Option Addr) (xc : Nat) (lo hi : Tree) (la ha : Option Addr) (lc hc : Nat) (Gl Gh E : List Nat) (hsz : 2 + nT hi + nT lo ≤ 1000) (wb w : World) (hrl : rdT wb lo Gl (tv lo la lc)) (hrh : rdT wb hi Gh (tv hi ha hc)) (hbl : ∀ k ∈ Gl,k < wb.heap.size ∧ k ∈ E) (hbh : ∀ k ∈ Gh,k < wb.heap.size ∧ k ∈ E) :
  Calls Tryz.prog 65 [.agg [Value.int .u8 3,.string (str nm),.slice xa 0 xc].toArray,.agg [Value.int .u8 lo.op,.string (str lo.name),.slice la lo.kids.length lc,.int .i64 (nT lo : Int)].toArray,.agg [Value.int .u8 hi.op,.string (str hi.name),.slice ha hi.kids.length hc,.int .i64 (nT hi : Int)].toArray].toArray w fun e w' => ∃ y : ShZ,e = .returned (.agg (szL (shapeT (.mk 3 nm [] : Tree) lo hi,y.2.1,y.2.2)).toArray) ∧ St w [] [shrE E wb y.1 (shapeT (.mk 3 nm [] : Tree) lo hi) (tv (shapeT (.mk 3 nm [] : Tree) lo hi) y.2.1 y.2.2)] w' := by
 have hpl := nT_pos lo
 have hph := nT_pos hi
 refine enter Tryz.func65 rfl Tryz.ntmps65 rfl (St.init _) ?_
 refine jN 3 ?_
 refine WL.boxN rfl rfl (fun b3 => ?_)
 refine jN 1 ?_
 refine WL.boxN rfl rfl (fun b4 => ?_)
 refine jN 1 ?_
 refine WL.boxN rfl rfl (fun b5 => ?_)
 refine jN 1 ?_
 refine WL.alloc F.zero108 rfl (fun b6 => ?_)
 refine jN 3 ?_
 refine WC.drawsL (by kernel_rfl) (FactsOk.cons (ds := []) (LoadOk.one (t := 4) (off := 0) rfl jM rfl) (FactsOk.cons (ds := []) (LoadOk.one (t := 5) (off := 0) rfl jM rfl) (FactsOk.nil))) ?_
 refine jT 0 rfl (Yl.fieldAddr0 F.fld108_0 rfl) ?_
 refine jT 1 rfl (Yl.fieldAddr0 F.fld24_0 rfl) ?_
 refine jF 2 0 rfl rfl (Yl.load1 F.one5 rfl) ?_
 refine jT 3 rfl (Yl.fieldAddr0 F.fld108_0 rfl) ?_
 refine jT 4 rfl (Yl.fieldAddr0 F.fld24_0 rfl) ?_
 refine jF 5 1 rfl rfl (Yl.load1 F.one5 rfl) ?_
 refine jT 6 rfl (Yl.assign rfl) ?_
 refine jT 7 rfl (Yl.assign rfl) ?_
 refine jD ?_
 refine jN 2 ?_
 refine WC.cutPE (α := Nat × Nat) (fun z => [(3,pp b3),(4,pp b4),(5,pp b5),(6,pp b6),(7,.int .u8 lo.op),(8,.int .u8 hi.op),(9,pp z.1)]) (fun z => [pt z.1 [.int .u8 10,.string (str []),.slice (some ⟨z.2,0,none⟩) 3 3,.int .i64 (2 + (nT hi : Int) + (nT lo : Int))] 108,pt b3 [Value.int .u8 3,.string (str nm),.slice xa 0 xc] 24,pt b4 [Value.int .u8 lo.op,.string (str lo.name),.slice la lo.kids.length lc,.int .i64 (nT lo : Int)] 108,pt b5 [Value.int .u8 hi.op,.string (str hi.name),.slice ha hi.kids.length hc,.int .i64 (nT hi : Int)] 108,pt b6 [.int .u8 0,.string (str []),.slice none 0 0,.int .i64 0] 108,pt z.2 (flat [.agg #[.int .u8 3,.string (str nm),.slice xa 0 xc],tv hi ha hc,tv lo la lc]) 24]) (fun c a d v w h => by cases d <;> exact h) (fun Q' hP hQ => ?_) (fun xE => ?_)
 ·refine WC.drawsL (by kernel_rfl) (FactsOk.cons (ds := [5,6,15]) (LoadOk.whole (t := 3) rfl jM) (FactsOk.cons (ds := [5,6,15]) (LoadOk.by (Y := fun w => ∀ j v,[Value.int .u8 hi.op,.string (str hi.name),.slice ha hi.kids.length hc][j]? = some v → w.cell? ⟨b5,0 + j,none⟩ = some v) (fun w hS => fun j v hv => hS.cell (cs := [Value.int .u8 hi.op,.string (str hi.name),.slice ha hi.kids.length hc,.int .i64 (nT hi : Int)]) jM (by rw [Nat.zero_add]; rcases j with _ | _ | _ | j <;> first | exact hv | simp at hv))) (FactsOk.cons (ds := [5,6,15]) (LoadOk.by (Y := fun w => ∀ j v,[Value.int .u8 lo.op,.string (str lo.name),.slice la lo.kids.length lc][j]? = some v → w.cell? ⟨b4,0 + j,none⟩ = some v) (fun w hS => fun j v hv => hS.cell (cs := [Value.int .u8 lo.op,.string (str lo.name),.slice la lo.kids.length lc,.int .i64 (nT lo : Int)]) jM (by rw [Nat.zero_add]; rcases j with _ | _ | _ | j <;> first | exact hv | simp at hv))) (FactsOk.cons (ds := [15]) (LoadOk.one (t := 5) (off := 3) rfl jM rfl) (FactsOk.cons (ds := [15]) (LoadOk.one (t := 4) (off := 3) rfl jM rfl) (FactsOk.nil)))))) ?_
  refine jF 0 0 rfl rfl (Yl.loadN F.agg24 rfl rfl) ?_
  refine jT 1 rfl (Yl.fieldAddr0 F.fld108_0 rfl) ?_
  refine jF 2 1 rfl rfl (Yl.loadN F.agg24 rfl rfl) ?_
  refine jT 3 rfl (Yl.fieldAddr0 F.fld108_0 rfl) ?_
  refine jF 4 2 rfl rfl (Yl.loadN F.agg24 rfl rfl) ?_
  refine jT 7 rfl (Yl.fieldAddr0 F.fld108_1 rfl) ?_
  refine jF 8 3 rfl rfl (Yl.load1 F.one3 rfl) ?_
  refine jT 9 rfl (Yl.add rfl rfl ⟨by omega,by omega⟩) ?_
  refine jT 10 rfl (Yl.fieldAddr0 F.fld108_1 rfl) ?_
  refine jF 11 4 rfl rfl (Yl.load1 F.one3 rfl) ?_
  refine jT 12 rfl (Yl.add rfl rfl ⟨by omega,by omega⟩) ?_
  refine WD.two (i := 5) (j := 14) (by decide +kernel) rfl rfl ?_ ?_
  ·refine WL.buildSlice F.sl22 F.ez22 rfl rfl rfl rfl jB rfl (fun b21 => ?_)
   refine WD.on (closed_of (by decide +kernel)) (fun w hS => Sx.gone rfl (Sx.gone rfl (Sx.gone rfl (Sx.keep (hS.cell jM rfl) (Sx.keep (hS.cell jM rfl) (Sx.none)))))) ?_
   refine WD.two (i := 6) (j := 14) (by decide +kernel) rfl rfl ?_ ?_
   refine WL.callV F.fun63 rfl rfl (fun w hS => node_c 10 (some ⟨b21,0,none⟩) 3 3 w) ?_
   refine WD.on (closed_of (by decide +kernel)) (fun w hS => Sx.gone rfl (Sx.gone rfl (Sx.gone rfl (Sx.keep (hS.cell jM rfl) (Sx.keep (hS.cell jM rfl) (Sx.none)))))) ?_
   refine jT 13 rfl (Yl.build F.stT108 rfl jB) ?_
   refine jA 14 rfl ?_
   refine WL.alloc F.zero108 rfl (fun b9 => ?_)
   refine WD.on (closed_of (by decide +kernel)) (fun w hS => Sx.gone rfl (Sx.gone rfl (Sx.gone rfl (Sx.keep (hS.cell jM rfl) (Sx.keep (hS.cell jM rfl) (Sx.none)))))) ?_
   rotate_left
   refine WL.alloc F.zero108 rfl (fun b9 => ?_)
   refine WD.on (closed_of (by decide +kernel)) (fun w hS => Sx.gone rfl (Sx.gone rfl (Sx.gone rfl (Sx.keep (hS.cell jM rfl) (Sx.keep (hS.cell jM rfl) (Sx.none)))))) ?_
   refine jA 6 rfl ?_
   refine WL.callV F.fun63 rfl rfl (fun w hS => node_c 10 (some ⟨b21,0,none⟩) 3 3 w) ?_
   refine WD.on (closed_of (by decide +kernel)) (fun w hS => Sx.gone rfl (Sx.gone rfl (Sx.gone rfl (Sx.keep (hS.cell jM rfl) (Sx.keep (hS.cell jM rfl) (Sx.none)))))) ?_
   refine jT 13 rfl (Yl.build F.stT108 rfl jB) ?_
   rotate_left
   all_goals
    refine jA 15 rfl ?_
    refine WL.storeN F.agg108 rfl rfl rfl jO jU jS ?_
    refine jG ?_
    refine jD ?_
    refine WQ.chunks (C' := [pt (b9,b21).1 [.int .u8 10,.string (str []),.slice (some ⟨(b9,b21).2,0,none⟩) 3 3,.int .i64 (2 + (nT hi : Int) + (nT lo : Int))] 108,pt b3 [Value.int .u8 3,.string (str nm),.slice xa 0 xc] 24,pt b4 [Value.int .u8 lo.op,.string (str lo.name),.slice la lo.kids.length lc,.int .i64 (nT lo : Int)] 108,pt b5 [Value.int .u8 hi.op,.string (str hi.name),.slice ha hi.kids.length hc,.int .i64 (nT hi : Int)] 108,pt b6 [.int .u8 0,.string (str []),.slice none 0 0,.int .i64 0] 108,pt (b9,b21).2 (flat [.agg #[.int .u8 3,.string (str nm),.slice xa 0 xc],tv hi ha hc,tv lo la lc]) 24]) (fun w hS => (jK hS)) ?_
    exact WQ.byCut (hQ (b9,b21)) ⟨rfl,rfl,rfl,rfl,rfl,rfl,rfl,trivial⟩
  refine WL.alloc F.zero108 rfl (fun b9 => ?_)
  refine WD.on (closed_of (by decide +kernel)) (fun w hS => Sx.keep ((fun j v hv => by rw [Nat.zero_add]; exact hS.cell jM hv)) (Sx.keep (fun j v hv => hS.cell (cs := [Value.int .u8 hi.op,.string (str hi.name),.slice ha hi.kids.length hc,.int .i64 (nT hi : Int)]) jM (by rw [Nat.zero_add]; rcases j with _ | _ | _ | j <;> first | exact hv | simp at hv)) (Sx.keep (fun j v hv => hS.cell (cs := [Value.int .u8 lo.op,.string (str lo.name),.slice la lo.kids.length lc,.int .i64 (nT lo : Int)]) jM (by rw [Nat.zero_add]; rcases j with _ | _ | _ | j <;> first | exact hv | simp at hv)) (Sx.keep (hS.cell jM rfl) (Sx.keep (hS.cell jM rfl) (Sx.none)))))) ?_
  refine jA 5 rfl ?_
  refine WL.buildSlice F.sl22 F.ez22 rfl rfl rfl rfl jB rfl (fun b21 => ?_)
  refine WD.on (closed_of (by decide +kernel)) (fun w hS => Sx.gone rfl (Sx.gone rfl (Sx.gone rfl (Sx.keep (hS.cell jM rfl) (Sx.keep (hS.cell jM rfl) (Sx.none)))))) ?_
  refine jA 6 rfl ?_
  refine WL.callV F.fun63 rfl rfl (fun w hS => node_c 10 (some ⟨b21,0,none⟩) 3 3 w) ?_
  refine WD.on (closed_of (by decide +kernel)) (fun w hS => Sx.gone rfl (Sx.gone rfl (Sx.gone rfl (Sx.keep (hS.cell jM rfl) (Sx.keep (hS.cell jM rfl) (Sx.none)))))) ?_
  refine jT 13 rfl (Yl.build F.stT108 rfl jB) ?_
  refine jA 15 rfl ?_
  refine WL.storeN F.agg108 rfl rfl rfl jO jU jS ?_
  refine jG ?_
  refine jD ?_
  refine WQ.chunks (C' := [pt (b9,b21).1 [.int .u8 10,.string (str []),.slice (some ⟨(b9,b21).2,0,none⟩) 3 3,.int .i64 (2 + (nT hi : Int) + (nT lo : Int))] 108,pt b3 [Value.int .u8 3,.string (str nm),.slice xa 0 xc] 24,pt b4 [Value.int .u8 lo.op,.string (str lo.name),.slice la lo.kids.length lc,.int .i64 (nT lo : Int)] 108,pt b5 [Value.int .u8 hi.op,.string (str hi.name),.slice ha hi.kids.length hc,.int .i64 (nT hi : Int)] 108,pt b6 [.int .u8 0,.string (str []),.slice none 0 0,.int .i64 0] 108,pt (b9,b21).2 (flat [.agg #[.int .u8 3,.string (str nm),.slice xa 0 xc],tv hi ha hc,tv lo la lc]) 24]) (fun w hS => (jK hS)) ?_
  exact WQ.byCut (hQ (b9,b21)) ⟨rfl,rfl,rfl,rfl,rfl,rfl,rfl,trivial⟩
 obtain ⟨b9,b21⟩ := xE
 show WQ _ _ _ _ _ _ [(3,pp b3),(4,pp b4),(5,pp b5),(6,pp b6),(7,.int .u8 lo.op),(8,.int .u8 hi.op),(9,pp b9)] [pt b9 [.int .u8 10,.string (str []),.slice (some ⟨b21,0,none⟩) 3 3,.int .i64 (2 + (nT hi : Int) + (nT lo : Int))] 108,pt b3 [Value.int .u8 3,.string (str nm),.slice xa 0 xc] 24,pt b4 [Value.int .u8 lo.op,.string (str lo.name),.slice la lo.kids.length lc,.int .i64 (nT lo : Int)] 108,pt b5 [Value.int .u8 hi.op,.string (str hi.name),.slice ha hi.kids.length hc,.int .i64 (nT hi : Int)] 108,pt b6 [.int .u8 0,.string (str []),.slice none 0 0,.int .i64 0] 108,pt b21 (flat [.agg #[.int .u8 3,.string (str nm),.slice xa 0 xc],tv hi ha hc,tv lo la lc]) 24]
 obtain ⟨c30,hc30⟩ : ∃ c,c = (decide (hi.op = 2) && decide (lo.op = 1)) := ⟨_,rfl⟩
 refine jN 4 ?_
 refine WC.cutF [(3,pp b3),(4,pp b4),(5,pp b5),(6,pp b6),(7,.int .u8 lo.op),(8,.int .u8 hi.op),(9,pp b9),(30,.bool c30)] (fun Q' hQ => ?_) ?_
 ·refine jN 7 ?_
  refine WA.splitB (i := 33) rfl (fun g33 => ?_) (fun g33 => ?_)
  have hB : c30 = (lo.op == 1) := by (rw [hc30,decide_eq_true (show hi.op = 2 by simpa using g33),Bool.true_and]; rfl)
  refine jN 11 ?_
  rotate_left
  have hB : c30 = false := by (rw [hc30,decide_eq_false (show ¬ hi.op = 2 by simpa using g33),Bool.false_and])
  refine jN 9 ?_
  rotate_left
  all_goals
   refine WQ.say 30 (.bool c30) (by rw [hB]; rfl) ?_
   exact WQ.byCut hQ ⟨rfl,rfl,rfl,rfl,rfl,rfl,rfl,rfl,trivial⟩
 refine jN 1 ?_
 refine WC.cond rfl (fun h30 => ?_) (fun h30 => ?_)
 ·rw [h30] at hc30
  have hk := hc30.symm
  simp only [Bool.and_eq_true,decide_eq_true_eq] at hk
  refine jN 13 ?_
  refine WQ.ret (rs := [.cell 6 108]) rfl (.cellN F.agg108 rfl jM rfl .nil) (fun w hS => ?_)
  have hT : shapeT (.mk 3 nm [] : Tree) lo hi = (.mk 3 nm [] : Tree) := by (unfold shapeT; rw [if_pos hk])
  have hN : (nT (shapeT (.mk 3 nm [] : Tree) lo hi) : Int) = 1 := by (rw [hT]; simp [nT,Fm.rowT,Fm.rowL]; try omega)
  have hS1 := St.eLeaf (E := E) (wb := wb) (t := (.mk 3 nm [] : Tree)) (v := .agg #[.int .u8 3,.string (str nm),.slice xa 0 xc]) (G := []) (hS) (by simp only [rdT]; exact ⟨_,rfl,.inl ⟨trivial,trivial,xa,xc,rfl⟩⟩) (by simp)
  rw [hT] at hN ⊢
  refine ⟨([],xa,xc),?_,hS1.sublist (List.Sublist.cons_cons _ (List.nil_sublist _))⟩
  simp only [szL,e4]; rw [hN]; rfl
 have n1 : ¬ (hi.op = 2 ∧ lo.op = 1) := fun h => by (rw [hc30,decide_eq_true h.1,decide_eq_true h.2] at h30; cases h30)
 obtain ⟨c39,hc39⟩ : ∃ c,c = (decide (hi.op = 1) && decide (lo.op = 2)) := ⟨_,rfl⟩
 refine jN 1 ?_
 refine WC.cutF [(3,pp b3),(4,pp b4),(5,pp b5),(6,pp b6),(7,.int .u8 lo.op),(8,.int .u8 hi.op),(9,pp b9),(39,.bool c39)] (fun Q' hQ => ?_) ?_
 ·refine jN 7 ?_
  refine WA.splitB (i := 42) rfl (fun g42 => ?_) (fun g42 => ?_)
  have hB : c39 = (lo.op == 2) := by (rw [hc39,decide_eq_true (show hi.op = 1 by simpa using g42),Bool.true_and]; rfl)
  refine jN 11 ?_
  rotate_left
  have hB : c39 = false := by (rw [hc39,decide_eq_false (show ¬ hi.op = 1 by simpa using g42),Bool.false_and])
  refine jN 9 ?_
  rotate_left
  all_goals
   refine WQ.say 39 (.bool c39) (by rw [hB]; rfl) ?_
   exact WQ.byCut hQ ⟨rfl,rfl,rfl,rfl,rfl,rfl,rfl,rfl,trivial⟩
 refine jN 1 ?_
 refine WC.cond rfl (fun h39 => ?_) (fun h39 => ?_)
 ·rw [h39] at hc39
  have hk := hc39.symm
  simp only [Bool.and_eq_true,decide_eq_true_eq] at hk
  refine jN 5 ?_
  refine WL.buildSlice F.sl22 F.ez22 rfl rfl rfl rfl jB rfl (fun b47 => ?_)
  refine jN 1 ?_
  refine WL.callV F.fun63 rfl rfl (fun w hS => node_c 4 (some ⟨b47,0,none⟩) 1 1 w) ?_
  refine jN 9 ?_
  refine WQ.ret (rs := [.cell 6 108]) rfl (.cellN F.agg108 rfl jM rfl .nil) (fun w hS => ?_)
  have hT : shapeT (.mk 3 nm [] : Tree) lo hi = .mk 4 [] [(.mk 3 nm [] : Tree)] := by (unfold shapeT; rw [if_neg n1,if_pos hk])
  have hN : (nT (shapeT (.mk 3 nm [] : Tree) lo hi) : Int) = 2 := by (rw [hT]; simp [nT,Fm.rowT,Fm.rowL]; try omega)
  have hS1 := St.eLeaf (E := E) (wb := wb) (t := (.mk 3 nm [] : Tree)) (v := .agg #[.int .u8 3,.string (str nm),.slice xa 0 xc]) (G := []) (hS) (by simp only [rdT]; exact ⟨_,rfl,.inl ⟨trivial,trivial,xa,xc,rfl⟩⟩) (by simp)
  obtain ⟨F9,hF9⟩ := St.eRow1 (E := E) (wb := wb) 4 [] rfl ((St.pick (St.pick hS1 (c := shrE E wb [] (.mk 3 nm [] : Tree) (.agg #[.int .u8 3,.string (str nm),.slice xa 0 xc])) jR) (c := pt b47 (flat [.agg #[.int .u8 3,.string (str nm),.slice xa 0 xc]]) 24) jR))
  rw [hT] at hN ⊢
  refine ⟨(F9,some ⟨b47,0,none⟩,1),?_,?_⟩
  ·simp only [szL,e4]; rw [hN]; rfl
  exact hF9.sublist (List.Sublist.cons_cons _ (List.nil_sublist _))
 have n2 : ¬ (hi.op = 1 ∧ lo.op = 2) := fun h => by (rw [hc39,decide_eq_true h.1,decide_eq_true h.2] at h39; cases h39)
 refine jN 10 ?_
 refine WC.cond rfl (fun h50 => ?_) (fun h50 => ?_)
 ·have hk : lo.op = 1 := by simpa using h50
  refine WC.drawsL (by kernel_rfl) (FactsOk.cons (ds := [3,4,9]) (LoadOk.whole (t := 3) rfl jM) (FactsOk.cons (ds := [3,4,9]) (LoadOk.by (Y := fun w => ∀ j v,[Value.int .u8 hi.op,.string (str hi.name),.slice ha hi.kids.length hc][j]? = some v → w.cell? ⟨b5,0 + j,none⟩ = some v) (fun w hS => fun j v hv => hS.cell (cs := [Value.int .u8 hi.op,.string (str hi.name),.slice ha hi.kids.length hc,.int .i64 (nT hi : Int)]) jM (by rw [Nat.zero_add]; rcases j with _ | _ | _ | j <;> first | exact hv | simp at hv))) (FactsOk.cons (ds := [9]) (LoadOk.one (t := 5) (off := 3) rfl jM rfl) (FactsOk.nil)))) ?_
  refine jF 0 0 rfl rfl (Yl.loadN F.agg24 rfl rfl) ?_
  refine jT 1 rfl (Yl.fieldAddr0 F.fld108_0 rfl) ?_
  refine jF 2 1 rfl rfl (Yl.loadN F.agg24 rfl rfl) ?_
  refine jT 5 rfl (Yl.fieldAddr0 F.fld108_1 rfl) ?_
  refine jF 6 2 rfl rfl (Yl.load1 F.one3 rfl) ?_
  refine jT 7 rfl (Yl.add rfl rfl ⟨by omega,by omega⟩) ?_
  refine jA 3 rfl ?_
  refine WL.buildSlice F.sl22 F.ez22 rfl rfl rfl rfl jB rfl (fun b56 => ?_)
  refine WD.on (closed_of (by decide +kernel)) (fun w hS => Sx.gone rfl (Sx.gone rfl (Sx.keep (hS.cell jM rfl) (Sx.none)))) ?_
  refine jA 4 rfl ?_
  refine WL.callV F.fun63 rfl rfl (fun w hS => node_c 5 (some ⟨b56,0,none⟩) 2 2 w) ?_
  refine WD.on (closed_of (by decide +kernel)) (fun w hS => Sx.gone rfl (Sx.gone rfl (Sx.keep (hS.cell jM rfl) (Sx.none)))) ?_
  refine jT 8 rfl (Yl.build F.stT108 rfl jB) ?_
  refine jA 9 rfl ?_
  refine WL.storeN F.agg108 rfl rfl rfl jO jU jS ?_
  refine jG ?_
  refine jD ?_
  refine jN 13 ?_
  refine WC.cond rfl (fun h104 => ?_) (fun h104 => ?_)
  ·exfalso; simp at h104; omega
  refine jN 11 ?_
  refine WQ.ret (rs := [.cell 6 108]) rfl (.cellN F.agg108 rfl jM rfl .nil) (fun w hS => ?_)
  have hT : shapeT (.mk 3 nm [] : Tree) lo hi = .mk 5 [] [(.mk 3 nm [] : Tree),hi] := by (unfold shapeT; rw [if_neg n1,if_neg n2,if_pos hk])
  have hN : (nT (shapeT (.mk 3 nm [] : Tree) lo hi) : Int) = 2 + (nT hi : Int) := by (rw [hT]; simp [nT,Fm.rowT,Fm.rowL]; try omega)
  have hS1 := St.eLeaf (E := E) (wb := wb) (t := (.mk 3 nm [] : Tree)) (v := .agg #[.int .u8 3,.string (str nm),.slice xa 0 xc]) (G := []) (hS) (by simp only [rdT]; exact ⟨_,rfl,.inl ⟨trivial,trivial,xa,xc,rfl⟩⟩) (by simp)
  have hS2 := St.eLeaf (E := E) (wb := wb) (t := hi) (v := tv hi ha hc) (G := Gh) (hS1) hrh hbh
  obtain ⟨F9,hF9⟩ := St.eRow2 (E := E) (wb := wb) 5 [] rfl ((St.pick (St.pick (St.pick hS2 (c := shrE E wb [] hi (tv hi ha hc)) jR) (c := shrE E wb [] (.mk 3 nm [] : Tree) (.agg #[.int .u8 3,.string (str nm),.slice xa 0 xc])) jR) (c := pt b56 (flat [.agg #[.int .u8 3,.string (str nm),.slice xa 0 xc],tv hi ha hc]) 24) jR))
  rw [hT] at hN ⊢
  refine ⟨(F9,some ⟨b56,0,none⟩,2),?_,?_⟩
  ·simp only [szL,e4]; rw [hN]; rfl
  exact hF9.sublist (List.Sublist.cons_cons _ (List.nil_sublist _))
 have n3 : ¬ lo.op = 1 := by simpa using h50
 refine jN 10 ?_
 refine WC.cond rfl (fun h62 => ?_) (fun h62 => ?_)
 ·have hk : hi.op = 2 := by simpa using h62
  refine WC.drawsL (by kernel_rfl) (FactsOk.cons (ds := [3,4,9]) (LoadOk.whole (t := 3) rfl jM) (FactsOk.cons (ds := [3,4,9]) (LoadOk.by (Y := fun w => ∀ j v,[Value.int .u8 lo.op,.string (str lo.name),.slice la lo.kids.length lc][j]? = some v → w.cell? ⟨b4,0 + j,none⟩ = some v) (fun w hS => fun j v hv => hS.cell (cs := [Value.int .u8 lo.op,.string (str lo.name),.slice la lo.kids.length lc,.int .i64 (nT lo : Int)]) jM (by rw [Nat.zero_add]; rcases j with _ | _ | _ | j <;> first | exact hv | simp at hv))) (FactsOk.cons (ds := [9]) (LoadOk.one (t := 4) (off := 3) rfl jM rfl) (FactsOk.nil)))) ?_
  refine jF 0 0 rfl rfl (Yl.loadN F.agg24 rfl rfl) ?_
  refine jT 1 rfl (Yl.fieldAddr0 F.fld108_0 rfl) ?_
  refine jF 2 1 rfl rfl (Yl.loadN F.agg24 rfl rfl) ?_
  refine jT 5 rfl (Yl.fieldAddr0 F.fld108_1 rfl) ?_
  refine jF 6 2 rfl rfl (Yl.load1 F.one3 rfl) ?_
  refine jT 7 rfl (Yl.add rfl rfl ⟨by omega,by omega⟩) ?_
  refine jA 3 rfl ?_
  refine WL.buildSlice F.sl22 F.ez22 rfl rfl rfl rfl jB rfl (fun b68 => ?_)
  refine WD.on (closed_of (by decide +kernel)) (fun w hS => Sx.gone rfl (Sx.gone rfl (Sx.keep (hS.cell jM rfl) (Sx.none)))) ?_
  refine jA 4 rfl ?_
  refine WL.callV F.fun63 rfl rfl (fun w hS => node_c 6 (some ⟨b68,0,none⟩) 2 2 w) ?_
  refine WD.on (closed_of (by decide +kernel)) (fun w hS => Sx.gone rfl (Sx.gone rfl (Sx.keep (hS.cell jM rfl) (Sx.none)))) ?_
  refine jT 8 rfl (Yl.build F.stT108 rfl jB) ?_
  refine jA 9 rfl ?_
  refine WL.storeN F.agg108 rfl rfl rfl jO jU jS ?_
  refine jG ?_
  refine jD ?_
  refine jN 13 ?_
  refine WC.cond rfl (fun h104 => ?_) (fun h104 => ?_)
  ·exfalso; simp at h104; omega
  refine jN 11 ?_
  refine WQ.ret (rs := [.cell 6 108]) rfl (.cellN F.agg108 rfl jM rfl .nil) (fun w hS => ?_)
  have hT : shapeT (.mk 3 nm [] : Tree) lo hi = .mk 6 [] [(.mk 3 nm [] : Tree),lo] := by (unfold shapeT; rw [if_neg n1,if_neg n2,if_neg n3,if_pos hk])
  have hN : (nT (shapeT (.mk 3 nm [] : Tree) lo hi) : Int) = 2 + (nT lo : Int) := by (rw [hT]; simp [nT,Fm.rowT,Fm.rowL]; try omega)
  have hS1 := St.eLeaf (E := E) (wb := wb) (t := (.mk 3 nm [] : Tree)) (v := .agg #[.int .u8 3,.string (str nm),.slice xa 0 xc]) (G := []) (hS) (by simp only [rdT]; exact ⟨_,rfl,.inl ⟨trivial,trivial,xa,xc,rfl⟩⟩) (by simp)
  have hS2 := St.eLeaf (E := E) (wb := wb) (t := lo) (v := tv lo la lc) (G := Gl) (hS1) hrl hbl
  obtain ⟨F9,hF9⟩ := St.eRow2 (E := E) (wb := wb) 6 [] rfl ((St.pick (St.pick (St.pick hS2 (c := shrE E wb [] lo (tv lo la lc)) jR) (c := shrE E wb [] (.mk 3 nm [] : Tree) (.agg #[.int .u8 3,.string (str nm),.slice xa 0 xc])) jR) (c := pt b68 (flat [.agg #[.int .u8 3,.string (str nm),.slice xa 0 xc],tv lo la lc]) 24) jR))
  rw [hT] at hN ⊢
  refine ⟨(F9,some ⟨b68,0,none⟩,2),?_,?_⟩
  ·simp only [szL,e4]; rw [hN]; rfl
  exact hF9.sublist (List.Sublist.cons_cons _ (List.nil_sublist _))
 have n4 : ¬ hi.op = 2 := by simpa using h62
 refine jN 10 ?_
 refine WC.cond rfl (fun h74 => ?_) (fun h74 => ?_)
 ·have hk : hi.op = 1 := by simpa using h74
  refine WC.drawsL (by kernel_rfl) (FactsOk.cons (ds := [1,2,5,6,11]) (LoadOk.whole (t := 3) rfl jM) (FactsOk.cons (ds := [5,6,11]) (LoadOk.by (Y := fun w => ∀ j v,[Value.int .u8 lo.op,.string (str lo.name),.slice la lo.kids.length lc][j]? = some v → w.cell? ⟨b4,0 + j,none⟩ = some v) (fun w hS => fun j v hv => hS.cell (cs := [Value.int .u8 lo.op,.string (str lo.name),.slice la lo.kids.length lc,.int .i64 (nT lo : Int)]) jM (by rw [Nat.zero_add]; rcases j with _ | _ | _ | j <;> first | exact hv | simp at hv))) (FactsOk.cons (ds := [11]) (LoadOk.one (t := 4) (off := 3) rfl jM rfl) (FactsOk.nil)))) ?_
  refine jF 0 0 rfl rfl (Yl.loadN F.agg24 rfl rfl) ?_
  refine jT 3 rfl (Yl.fieldAddr0 F.fld108_0 rfl) ?_
  refine jF 4 1 rfl rfl (Yl.loadN F.agg24 rfl rfl) ?_
  refine jT 7 rfl (Yl.fieldAddr0 F.fld108_1 rfl) ?_
  refine jF 8 2 rfl rfl (Yl.load1 F.one3 rfl) ?_
  refine jT 9 rfl (Yl.add rfl rfl ⟨by omega,by omega⟩) ?_
  refine jA 1 rfl ?_
  refine WL.buildSlice F.sl22 F.ez22 rfl rfl rfl rfl jB rfl (fun b78 => ?_)
  refine WD.on (closed_of (by decide +kernel)) (fun w hS => Sx.gone rfl (Sx.keep (fun j v hv => hS.cell (cs := [Value.int .u8 lo.op,.string (str lo.name),.slice la lo.kids.length lc,.int .i64 (nT lo : Int)]) jM (by rw [Nat.zero_add]; rcases j with _ | _ | _ | j <;> first | exact hv | simp at hv)) (Sx.keep (hS.cell jM rfl) (Sx.none)))) ?_
  refine jA 2 rfl ?_
  refine WL.callV F.fun63 rfl rfl (fun w hS => node_c 4 (some ⟨b78,0,none⟩) 1 1 w) ?_
  refine WD.on (closed_of (by decide +kernel)) (fun w hS => Sx.gone rfl (Sx.keep (fun j v hv => hS.cell (cs := [Value.int .u8 lo.op,.string (str lo.name),.slice la lo.kids.length lc,.int .i64 (nT lo : Int)]) jM (by rw [Nat.zero_add]; rcases j with _ | _ | _ | j <;> first | exact hv | simp at hv)) (Sx.keep (hS.cell jM rfl) (Sx.none)))) ?_
  refine jA 5 rfl ?_
  refine WL.buildSlice F.sl22 F.ez22 rfl rfl rfl rfl jB rfl (fun b82 => ?_)
  refine WD.on (closed_of (by decide +kernel)) (fun w hS => Sx.gone rfl (Sx.gone rfl (Sx.keep (hS.cell jM rfl) (Sx.none)))) ?_
  refine jA 6 rfl ?_
  refine WL.callV F.fun63 rfl rfl (fun w hS => node_c 5 (some ⟨b82,0,none⟩) 2 2 w) ?_
  refine WD.on (closed_of (by decide +kernel)) (fun w hS => Sx.gone rfl (Sx.gone rfl (Sx.keep (hS.cell jM rfl) (Sx.none)))) ?_
  refine jT 10 rfl (Yl.build F.stT108 rfl jB) ?_
  refine jA 11 rfl ?_
  refine WL.storeN F.agg108 rfl rfl rfl jO jU jS ?_
  refine jG ?_
  refine jD ?_
  refine jN 13 ?_
  refine WC.cond rfl (fun h104 => ?_) (fun h104 => ?_)
  ·exfalso; simp at h104; omega
  refine jN 11 ?_
  refine WQ.ret (rs := [.cell 6 108]) rfl (.cellN F.agg108 rfl jM rfl .nil) (fun w hS => ?_)
  have hT : shapeT (.mk 3 nm [] : Tree) lo hi = .mk 5 [] [.mk 4 [] [(.mk 3 nm [] : Tree)],lo] := by (unfold shapeT; rw [if_neg n1,if_neg n2,if_neg n3,if_neg n4,if_pos hk])
  have hN : (nT (shapeT (.mk 3 nm [] : Tree) lo hi) : Int) = 3 + (nT lo : Int) := by (rw [hT]; simp [nT,Fm.rowT,Fm.rowL]; try omega)
  have hS1 := St.eLeaf (E := E) (wb := wb) (t := (.mk 3 nm [] : Tree)) (v := .agg #[.int .u8 3,.string (str nm),.slice xa 0 xc]) (G := []) (hS) (by simp only [rdT]; exact ⟨_,rfl,.inl ⟨trivial,trivial,xa,xc,rfl⟩⟩) (by simp)
  obtain ⟨F8,hF8⟩ := St.eRow1 (E := E) (wb := wb) 4 [] rfl ((St.pick (St.pick hS1 (c := shrE E wb [] (.mk 3 nm [] : Tree) (.agg #[.int .u8 3,.string (str nm),.slice xa 0 xc])) jR) (c := pt b78 (flat [.agg #[.int .u8 3,.string (str nm),.slice xa 0 xc]]) 24) jR))
  have hS2 := St.eLeaf (E := E) (wb := wb) (t := lo) (v := tv lo la lc) (G := Gl) (hF8) hrl hbl
  obtain ⟨F9,hF9⟩ := St.eRow2 (E := E) (wb := wb) 5 [] rfl ((St.pick (St.pick (St.pick hS2 (c := shrE E wb [] lo (tv lo la lc)) jR) (c := shrE E wb F8 (.mk 4 [] [(.mk 3 nm [] : Tree)]) (.agg #[.int .u8 4,.string (str []),.slice (some ⟨b78,0,none⟩) 1 1])) jR) (c := pt b82 (flat [.agg #[.int .u8 4,.string (str []),.slice (some ⟨b78,0,none⟩) 1 1],tv lo la lc]) 24) jR))
  rw [hT] at hN ⊢
  refine ⟨(F9,some ⟨b82,0,none⟩,2),?_,?_⟩
  ·simp only [szL,e4]; rw [hN]; rfl
  exact hF9.sublist (List.Sublist.cons_cons _ (List.nil_sublist _))
 have n5 : ¬ hi.op = 1 := by simpa using h74
 refine jN 10 ?_
 refine WC.cond rfl (fun h88 => ?_) (fun h88 => ?_)
 ·have hk : lo.op = 2 := by simpa using h88
  refine WC.drawsL (by kernel_rfl) (FactsOk.cons (ds := [1,2,5,6,11]) (LoadOk.whole (t := 3) rfl jM) (FactsOk.cons (ds := [5,6,11]) (LoadOk.by (Y := fun w => ∀ j v,[Value.int .u8 hi.op,.string (str hi.name),.slice ha hi.kids.length hc][j]? = some v → w.cell? ⟨b5,0 + j,none⟩ = some v) (fun w hS => fun j v hv => hS.cell (cs := [Value.int .u8 hi.op,.string (str hi.name),.slice ha hi.kids.length hc,.int .i64 (nT hi : Int)]) jM (by rw [Nat.zero_add]; rcases j with _ | _ | _ | j <;> first | exact hv | simp at hv))) (FactsOk.cons (ds := [11]) (LoadOk.one (t := 5) (off := 3) rfl jM rfl) (FactsOk.nil)))) ?_
  refine jF 0 0 rfl rfl (Yl.loadN F.agg24 rfl rfl) ?_
  refine jT 3 rfl (Yl.fieldAddr0 F.fld108_0 rfl) ?_
  refine jF 4 1 rfl rfl (Yl.loadN F.agg24 rfl rfl) ?_
  refine jT 7 rfl (Yl.fieldAddr0 F.fld108_1 rfl) ?_
  refine jF 8 2 rfl rfl (Yl.load1 F.one3 rfl) ?_
  refine jT 9 rfl (Yl.add rfl rfl ⟨by omega,by omega⟩) ?_
  refine jA 1 rfl ?_
  refine WL.buildSlice F.sl22 F.ez22 rfl rfl rfl rfl jB rfl (fun b92 => ?_)
  refine WD.on (closed_of (by decide +kernel)) (fun w hS => Sx.gone rfl (Sx.keep (fun j v hv => hS.cell (cs := [Value.int .u8 hi.op,.string (str hi.name),.slice ha hi.kids.length hc,.int .i64 (nT hi : Int)]) jM (by rw [Nat.zero_add]; rcases j with _ | _ | _ | j <;> first | exact hv | simp at hv)) (Sx.keep (hS.cell jM rfl) (Sx.none)))) ?_
  refine jA 2 rfl ?_
  refine WL.callV F.fun63 rfl rfl (fun w hS => node_c 4 (some ⟨b92,0,none⟩) 1 1 w) ?_
  refine WD.on (closed_of (by decide +kernel)) (fun w hS => Sx.gone rfl (Sx.keep (fun j v hv => hS.cell (cs := [Value.int .u8 hi.op,.string (str hi.name),.slice ha hi.kids.length hc,.int .i64 (nT hi : Int)]) jM (by rw [Nat.zero_add]; rcases j with _ | _ | _ | j <;> first | exact hv | simp at hv)) (Sx.keep (hS.cell jM rfl) (Sx.none)))) ?_
  refine jA 5 rfl ?_
  refine WL.buildSlice F.sl22 F.ez22 rfl rfl rfl rfl jB rfl (fun b96 => ?_)
  refine WD.on (closed_of (by decide +kernel)) (fun w hS => Sx.gone rfl (Sx.gone rfl (Sx.keep (hS.cell jM rfl) (Sx.none)))) ?_
  refine jA 6 rfl ?_
  refine WL.callV F.fun63 rfl rfl (fun w hS => node_c 6 (some ⟨b96,0,none⟩) 2 2 w) ?_
  refine WD.on (closed_of (by decide +kernel)) (fun w hS => Sx.gone rfl (Sx.gone rfl (Sx.keep (hS.cell jM rfl) (Sx.none)))) ?_
  refine jT 10 rfl (Yl.build F.stT108 rfl jB) ?_
  refine jA 11 rfl ?_
  refine WL.storeN F.agg108 rfl rfl rfl jO jU jS ?_
  refine jG ?_
  refine jD ?_
  refine jN 13 ?_
  refine WC.cond rfl (fun h104 => ?_) (fun h104 => ?_)
  ·exfalso; simp at h104; omega
  refine jN 11 ?_
  refine WQ.ret (rs := [.cell 6 108]) rfl (.cellN F.agg108 rfl jM rfl .nil) (fun w hS => ?_)
  have hT : shapeT (.mk 3 nm [] : Tree) lo hi = .mk 6 [] [.mk 4 [] [(.mk 3 nm [] : Tree)],hi] := by (unfold shapeT; rw [if_neg n1,if_neg n2,if_neg n3,if_neg n4,if_neg n5,if_pos hk])
  have hN : (nT (shapeT (.mk 3 nm [] : Tree) lo hi) : Int) = 3 + (nT hi : Int) := by (rw [hT]; simp [nT,Fm.rowT,Fm.rowL]; try omega)
  have hS1 := St.eLeaf (E := E) (wb := wb) (t := (.mk 3 nm [] : Tree)) (v := .agg #[.int .u8 3,.string (str nm),.slice xa 0 xc]) (G := []) (hS) (by simp only [rdT]; exact ⟨_,rfl,.inl ⟨trivial,trivial,xa,xc,rfl⟩⟩) (by simp)
  obtain ⟨F8,hF8⟩ := St.eRow1 (E := E) (wb := wb) 4 [] rfl ((St.pick (St.pick hS1 (c := shrE E wb [] (.mk 3 nm [] : Tree) (.agg #[.int .u8 3,.string (str nm),.slice xa 0 xc])) jR) (c := pt b92 (flat [.agg #[.int .u8 3,.string (str nm),.slice xa 0 xc]]) 24) jR))
  have hS2 := St.eLeaf (E := E) (wb := wb) (t := hi) (v := tv hi ha hc) (G := Gh) (hF8) hrh hbh
  obtain ⟨F9,hF9⟩ := St.eRow2 (E := E) (wb := wb) 6 [] rfl ((St.pick (St.pick (St.pick hS2 (c := shrE E wb [] hi (tv hi ha hc)) jR) (c := shrE E wb F8 (.mk 4 [] [(.mk 3 nm [] : Tree)]) (.agg #[.int .u8 4,.string (str []),.slice (some ⟨b92,0,none⟩) 1 1])) jR) (c := pt b96 (flat [.agg #[.int .u8 4,.string (str []),.slice (some ⟨b92,0,none⟩) 1 1],tv hi ha hc]) 24) jR))
  rw [hT] at hN ⊢
  refine ⟨(F9,some ⟨b96,0,none⟩,2),?_,?_⟩
  ·simp only [szL,e4]; rw [hN]; rfl
  exact hF9.sublist (List.Sublist.cons_cons _ (List.nil_sublist _))
 have n6 : ¬ lo.op = 2 := by simpa using h88
 refine jN 14 ?_
 refine WC.cond rfl (fun h104 => ?_) (fun h104 => ?_)
 ·exfalso; simp at h104; omega
 refine jN 11 ?_
 refine WQ.ret (rs := [.cell 6 108]) rfl (.cellN F.agg108 rfl jM rfl .nil) (fun w hS => ?_)
 have hT : shapeT (.mk 3 nm [] : Tree) lo hi = .mk 10 [] [(.mk 3 nm [] : Tree),hi,lo] := by (unfold shapeT; rw [if_neg n1,if_neg n2,if_neg n3,if_neg n4,if_neg n5,if_neg n6])
 have hN : (nT (shapeT (.mk 3 nm [] : Tree) lo hi) : Int) = 2 + (nT hi : Int) + (nT lo : Int) := by (rw [hT]; simp [nT,Fm.rowT,Fm.rowL]; try omega)
 have hS1 := St.eLeaf (E := E) (wb := wb) (t := (.mk 3 nm [] : Tree)) (v := .agg #[.int .u8 3,.string (str nm),.slice xa 0 xc]) (G := []) (hS) (by simp only [rdT]; exact ⟨_,rfl,.inl ⟨trivial,trivial,xa,xc,rfl⟩⟩) (by simp)
 have hS2 := St.eLeaf (E := E) (wb := wb) (t := hi) (v := tv hi ha hc) (G := Gh) (hS1) hrh hbh
 have hS3 := St.eLeaf (E := E) (wb := wb) (t := lo) (v := tv lo la lc) (G := Gl) (hS2) hrl hbl
 obtain ⟨F9,hF9⟩ := St.eRow3 (E := E) (wb := wb) 10 [] rfl ((St.pick (St.pick (St.pick (St.pick hS3 (c := shrE E wb [] lo (tv lo la lc)) jR) (c := shrE E wb [] hi (tv hi ha hc)) jR) (c := shrE E wb [] (.mk 3 nm [] : Tree) (.agg #[.int .u8 3,.string (str nm),.slice xa 0 xc])) jR) (c := pt b21 (flat [.agg #[.int .u8 3,.string (str nm),.slice xa 0 xc],tv hi ha hc,tv lo la lc]) 24) jR))
 rw [hT] at hN ⊢
 refine ⟨(F9,some ⟨b21,0,none⟩,3),?_,?_⟩
 ·simp only [szL,e4]; rw [hN]; rfl
 exact hF9.sublist (List.Sublist.cons_cons _ (List.nil_sublist _))
theorem rLinear_bad (l : List Int) (rel : Nat) (bound : Int) (hbad : costsB l = false ∨ rel < 1 ∨ 3 < rel) (hll : l.length ≤ 1099511627776) (a : Option Addr) (c : Nat) (w : World) (hr : RdC w l a) :
  Calls Tryz.prog 121 [.slice a l.length c,.int .u8 (rel : Int),.int .i64 bound].toArray w fun e w' => ∃ b : Nat,e = .returned (.tuple #[.agg [.slice none 0 0,.slice (some ⟨b,0,none⟩) 1 1].toArray,.int .i64 2]) ∧ St w [] [rowc (.slice (some ⟨b,0,none⟩) 1 1) 1 4 1 (bls [false])] w' := by
 refine enter Tryz.func121 rfl Tryz.ntmps121 rfl (St.init _) ?_
 refine jN 3 ?_
 refine WL.alloc F.zero44 rfl (fun b6 => ?_)
 refine jN 10 ?_
 refine WL.callV F.fun158 rfl rfl (fun w hS => rCosts_c l a c hll w (hr.next hS)) ?_
 refine jN 4 ?_
 refine WA.splitB (i := 16) rfl (fun g16 => ?_) (fun g16 => ?_)
 ·refine jN 20 ?_
  refine jC (β := Nat) (res := fun b => .agg [.slice none 0 0,.slice (some ⟨b,0,none⟩) 1 1].toArray) (cs := fun b => [rowc (.slice (some ⟨b,0,none⟩) 1 1) 1 4 1 (bls [false])]) F.fun50 rfl (fun w hS _ => Const_c false w) (fun b24 => ?_)
  refine jN 8 ?_
  refine WQ.ret (rs := [.cell 6 44,.tmp 7]) rfl (.cellN F.agg44 rfl jM rfl (.tmp rfl .nil)) (fun w hS => ⟨b24,rfl,(jK hS)⟩)
 refine jN 10 ?_
 refine WA.splitB (i := 20) rfl (fun g20 => ?_) (fun g20 => ?_)
 ·refine jN 12 ?_
  refine jC (β := Nat) (res := fun b => .agg [.slice none 0 0,.slice (some ⟨b,0,none⟩) 1 1].toArray) (cs := fun b => [rowc (.slice (some ⟨b,0,none⟩) 1 1) 1 4 1 (bls [false])]) F.fun50 rfl (fun w hS _ => Const_c false w) (fun b24 => ?_)
  refine jN 8 ?_
  refine WQ.ret (rs := [.cell 6 44,.tmp 7]) rfl (.cellN F.agg44 rfl jM rfl (.tmp rfl .nil)) (fun w hS => ⟨b24,rfl,(jK hS)⟩)
 refine jN 10 ?_
 refine WC.cond rfl (fun h23 => ?_) (fun h23 => ?_)
 ·refine jN 3 ?_
  refine jC (β := Nat) (res := fun b => .agg [.slice none 0 0,.slice (some ⟨b,0,none⟩) 1 1].toArray) (cs := fun b => [rowc (.slice (some ⟨b,0,none⟩) 1 1) 1 4 1 (bls [false])]) F.fun50 rfl (fun w hS _ => Const_c false w) (fun b24 => ?_)
  refine jN 8 ?_
  refine WQ.ret (rs := [.cell 6 44,.tmp 7]) rfl (.cellN F.agg44 rfl jM rfl (.tmp rfl .nil)) (fun w hS => ⟨b24,rfl,(jK hS)⟩)
 exfalso; simp at g16 g20 h23; rw [g16] at hbad; simp at hbad; omega
abbrev SX (L : List RowV) (Q : SV → Prop) : Type := { y : SV × List Nat × List RowV // y.1.good ∧ Q y.1 ∧ y.1.among (L ++ y.2.2) }
theorem SPost.sx {L : List RowV} {Q : SV → Prop} {w w' : World} {e : Ending} (h : SPost L Q w e w') : ∃ y : SX L Q,e = .returned y.1.1.val ∧ St w [] [rwC y.1.2.1 y.1.2.2] w' := by
 obtain ⟨z,F,M,h1,h2,h3,h4,h5⟩ := h
 exact ⟨⟨(z,F,M),h1,h2,h3⟩,h4,h5⟩
theorem rCube_s (on off : Nat) (hon : on < 4294967296) (hoff : off < 4294967296) (L : List RowV) (w : World) : Calls Tryz.prog 113 [.int .u32 (on : Int),.int .u32 (off : Int)].toArray w (SPost L (fun z => z.v = featL (on ||| off) ∧ ∀ M,z.has M = (decide (confN z.v (hasN z.v M) &&& on = on % 16777216) && decide (confN z.v (hasN z.v M) &&& off = 0))) w) := by
 refine (rCube_c on off hon hoff w).mono ?_
 rintro e w' ⟨y,rfl,hS⟩
 exact SPost.two ⟨featL_sorted _,fun x hx => featL_lt hx,featL_len _,tabN_len _ _ _⟩ (tabN_len _ _ _) rfl ⟨rfl,fun M => SV.has_tab _ M⟩ hS
theorem rBetween_s (M : Nat) (low high : Int) (hM : M < 4294967296) (L : List RowV) (w : World) : Calls Tryz.prog 120 [.int .u32 (M : Int),.int .i64 low,.int .i64 high].toArray w (SPost L (fun z => z.v = featL M ∧ ∀ N,z.has N = (decide (low ≤ ((featL (confN z.v (hasN z.v N))).length : Int)) && decide (((featL (confN z.v (hasN z.v N))).length : Int) ≤ high))) w) := by
 refine (rBetween_c M low high hM w).mono ?_
 rintro e w' ⟨y,rfl,hS⟩
 exact SPost.two ⟨featL_sorted _,fun x hx => featL_lt hx,featL_len _,tabN_len _ _ _⟩ (tabN_len _ _ _) rfl ⟨rfl,fun N => SV.has_tab _ N⟩ hS
theorem rChanged_s (s : SV) (hg : s.good) (M : Nat) (every : Bool) (L : List RowV) (ha : s.among L) (w : World) (hL : ∀ x ∈ L,RdRow w x) : Calls Tryz.prog 119 [s.val,.int .u32 (M : Int),.bool every].toArray w (SPost L (fun z => z.v = s.v ∧ ∀ N,z.has N = chgF every M s.v s.bs (hasN s.v N) s.bs.length) w) := by
 refine (rChanged_c s.v s.bs M every hg.so hg.lt hg.vl hg.bl s.a s.ta s.c s.tc w (ha.rdV hL) (ha.rdB hL)).mono ?_
 rintro e w' ⟨b,rfl,hS⟩
 exact SPost.tab ⟨hg.so,hg.lt,hg.vl,tabN_len _ _ _⟩ (tabN_len _ _ _) ⟨rfl,fun M => SV.has_tab _ M⟩ ha.1 hS
theorem rows_more {w0 w : World} {C : List Chunk} {L M : List RowV} {F : List Nat} (hL : ∀ x ∈ L,RdRow w0 x) (hS : St w0 [] C w) (hm : rwC F M ∈ C) : ∀ x ∈ L ++ M,RdRow w x := fun x hx => by
 rcases List.mem_append.1 hx with h | h
 ·exact (hL x h).next hS
 ·exact rwC_rd (hS.ok _ hm) h
theorem rows_app {w : World} {L M : List RowV} (hL : ∀ x ∈ L,RdRow w x) (hM : ∀ x ∈ M,RdRow w x) : ∀ x ∈ L ++ M,RdRow w x := fun x hx => (List.mem_append.1 hx).elim (hL x) (hM x)
set_option maxRecDepth 100000 in
theorem rIte_s (s u r : SV) (hs : s.good) (hu : u.good) (hr : r.good) (L : List RowV) (ha : s.among L) (ha2 : u.among L) (ha3 : r.among L) (w : World) (hL : ∀ x ∈ L,RdRow w x) :
  Calls Tryz.prog 118 [s.val,u.val,r.val].toArray w (SPost L (fun z => (∀ x ∈ z.v,x ∈ s.v ∨ x ∈ u.v ∨ x ∈ r.v) ∧ ∀ M,z.has M = ((s.has M && u.has M) || (!s.has M && r.has M))) w) := by
 refine enter Tryz.func118 rfl Tryz.ntmps118 rfl (St.init _) ?_
 refine jN 3 ?_
 refine WL.boxN rfl rfl (fun b3 => ?_)
 refine jN 1 ?_
 refine WL.boxN rfl rfl (fun b4 => ?_)
 refine jN 1 ?_
 refine WL.boxN rfl rfl (fun b5 => ?_)
 refine jN 1 ?_
 refine WL.alloc F.zero44 rfl (fun b6 => ?_)
 refine jN 3 ?_
 refine WC.drawsL (by kernel_rfl) (FactsOk.cons (ds := [2,4,6,7,8]) (LoadOk.whole (t := 3) rfl jM) (FactsOk.cons (ds := [2,4,6,7,8]) (LoadOk.whole (t := 4) rfl jM) (FactsOk.cons (ds := [4,6,7,8]) (LoadOk.whole (t := 3) rfl jM) (FactsOk.cons (ds := [6,7,8]) (LoadOk.whole (t := 5) rfl jM) (FactsOk.nil))))) ?_
 refine jF 0 0 rfl rfl (Yl.loadN F.agg44 rfl rfl) ?_
 refine jF 1 1 rfl rfl (Yl.loadN F.agg44 rfl rfl) ?_
 refine jF 3 2 rfl rfl (Yl.loadN F.agg44 rfl rfl) ?_
 refine jF 5 3 rfl rfl (Yl.loadN F.agg44 rfl rfl) ?_
 refine jA 2 rfl ?_
 refine jC (β := SX (L) (fun z => z.v = featL (numN s.v ||| numN u.v) ∧ ∀ M,z.has M = (s.has M && u.has M))) (res := fun y => y.1.1.val) (cs := fun y => [rwC y.1.2.1 y.1.2.2]) F.fun115 rfl (fun w hS _ => (rAnd_s s u hs hu L ha ha2 w (fun x hx => (hL x hx).next hS)).mono (fun e w2 h => h.sx)) (fun z9 => ?_)
 refine WD.on (closed_of (by kernel_rfl)) (fun w hS => Sx.gone rfl (Sx.gone rfl (Sx.keep ((fun j v hv => by rw [Nat.zero_add]; exact hS.cell jM hv)) (Sx.keep ((fun j v hv => by rw [Nat.zero_add]; exact hS.cell jM hv)) (Sx.none))))) ?_
 refine jA 4 rfl ?_
 refine jC (β := SX (L) (fun z => z.v = s.v ∧ ∀ M,z.has M = !s.has M)) (res := fun y => y.1.1.val) (cs := fun y => [rwC y.1.2.1 y.1.2.2]) F.fun114 rfl (fun w hS _ => (rNot_s s hs L ha w (fun x hx => (hL x hx).next hS)).mono (fun e w2 h => h.sx)) (fun z11 => ?_)
 refine WD.on (closed_of (by kernel_rfl)) (fun w hS => Sx.gone rfl (Sx.gone rfl (Sx.gone rfl (Sx.keep ((fun j v hv => by rw [Nat.zero_add]; exact hS.cell jM hv)) (Sx.none))))) ?_
 refine jA 6 rfl ?_
 refine jC (β := SX (L ++ z11.1.2.2) (fun z => z.v = featL (numN z11.1.1.v ||| numN r.v) ∧ ∀ M,z.has M = (z11.1.1.has M && r.has M))) (res := fun y => y.1.1.val) (cs := fun y => [rwC y.1.2.1 y.1.2.2]) F.fun115 rfl (fun w hS _ => (rAnd_s z11.1.1 r z11.2.1 hr (L ++ z11.1.2.2) z11.2.2.2 (ha3.mono fun x hx => List.mem_append_left _ hx) w (rows_more hL hS jM)).mono (fun e w2 h => h.sx)) (fun z13 => ?_)
 refine jG ?_
 refine jA 7 rfl ?_
 refine jC (β := SX ((L ++ z9.1.2.2) ++ ((L ++ z11.1.2.2) ++ z13.1.2.2)) (fun z => z.v = featL (numN z9.1.1.v ||| numN z13.1.1.v) ∧ ∀ M,z.has M = (z9.1.1.has M || z13.1.1.has M))) (res := fun y => y.1.1.val) (cs := fun y => [rwC y.1.2.1 y.1.2.2]) F.fun116 rfl (fun w hS _ => (rOr_s z9.1.1 z13.1.1 z9.2.1 z13.2.1 _ (z9.2.2.2.mono fun x hx => List.mem_append_left _ hx) (z13.2.2.2.mono fun x hx => List.mem_append_right _ hx) w (rows_app (rows_more hL hS jM) (rows_app (rows_more hL hS jM) (fun x hx => rwC_rd (hS.ok (rwC z13.1.2.1 z13.1.2.2) jM) hx)))).mono (fun e w2 h => h.sx)) (fun z14 => ?_)
 refine jG ?_
 refine jA 8 rfl ?_
 refine WL.storeN F.agg44 rfl rfl rfl jO jU jS ?_
 refine jG ?_
 refine jD ?_
 refine jN 2 ?_
 refine WQ.ret (rs := [.cell 6 44]) rfl (.cellN F.agg44 rfl jM rfl .nil) (fun w hS => ?_)
 have hJ := St.rwJoin (St.rwJoin (St.rwJoin ((St.pick (St.pick (St.pick (St.pick hS (c := rwC z14.1.2.1 z14.1.2.2) jR) (c := rwC z13.1.2.1 z13.1.2.2) jR) (c := rwC z11.1.2.1 z11.1.2.2) jR) (c := rwC z9.1.2.1 z9.1.2.2) jR))))
 refine ⟨z14.1.1,_,_,z14.2.1,?_,?_,rfl,hJ.sublist (List.Sublist.cons_cons _ (List.nil_sublist _))⟩
 ·refine ⟨fun x hx => ?_,fun M => ?_⟩
  ·rw [z14.2.2.1.1] at hx
   rcases (join_mem.1 hx).2 with h | h
   ·rw [z9.2.2.1.1] at h
    exact (join_mem.1 h).2.elim .inl fun h => .inr (.inl h)
   rw [z13.2.2.1.1] at h
   rcases (join_mem.1 h).2 with h | h
   ·rw [z11.2.2.1.1] at h; exact .inl h
   exact .inr (.inr h)
  rw [z14.2.2.1.2,z9.2.2.1.2,z13.2.2.1.2,z11.2.2.1.2]
 refine z14.2.2.2.mono fun x hx => ?_
 simp only [List.mem_append] at hx ⊢
 rcases hx with ((h | h) | (h | h) | h) | h <;> simp [h]
end Go.Proofs.YtkgllhkhdjodeaaGreat
namespace Fm
open Go Go.Eng
end Fm
namespace Dg
theorem or_pow_testBit (a k j : Nat) : (a ||| 2 ^ k).testBit j = (a.testBit j || decide (j = k)) := by
 rw [Nat.testBit_or,Nat.testBit_two_pow]
 congr 1
 rw [Bool.eq_iff_iff]; simp; omega
end Dg
namespace Go.Proofs.YtkgllhkhdjodeaaGreat
open Go Go.Eng Go.Proofs Dg
theorem num_of (cf : Cf) : ∀ n : Nat,∃ M,M < 2 ^ n ∧ ∀ i,i < n → M.testBit i = cf i
 | 0 => ⟨0,by simp,fun i hi => by omega⟩
 | n + 1 => by
  obtain ⟨M,hM,hb⟩ := num_of cf n
  have hp : 2 ^ n < 2 ^ (n + 1) := Nat.pow_lt_pow_right (by decide) (Nat.lt_succ_self _)
  by_cases hc : cf n = true
  ·refine ⟨M ||| 2 ^ n,Nat.or_lt_two_pow (by omega) hp,fun i hi => ?_⟩
   rw [or_pow_testBit]
   by_cases he : i = n
   ·subst he; simp [hc]
   ·simp [he,hb i (by omega)]
  ·refine ⟨M,by omega,fun i hi => ?_⟩
   by_cases he : i = n
   ·subst he
    rw [Nat.testBit_lt_two_pow hM]; simpa using hc
   ·exact hb i (by omega)
theorem sub_bit {M x : Nat} (h : M.testBit x = true) (j : Nat) : (M - 2 ^ x).testBit j = if j = x then false else M.testBit j := by
 have hr : M % 2 ^ x < 2 ^ x := Nat.mod_lt _ (Nat.two_pow_pos x)
 have ha : M / 2 ^ x % 2 = 1 := by
  rw [Nat.testBit_eq_decide_div_mod_eq] at h
  exact of_decide_eq_true h
 obtain ⟨q,hq⟩ : ∃ q,M / 2 ^ x = 2 * q + 1 := ⟨M / 2 ^ x / 2,by omega⟩
 have hM : M = 2 ^ x * (2 * q + 1) + M % 2 ^ x := by rw [← hq]; exact (Nat.div_add_mod M (2 ^ x)).symm
 have hs : M - 2 ^ x = 2 ^ x * (2 * q) + M % 2 ^ x := by
  have e : 2 ^ x * (2 * q + 1) = 2 ^ x * (2 * q) + 2 ^ x := Nat.mul_succ _ _
  omega
 rw [hs,Nat.testBit_two_pow_mul_add _ hr]
 have h2 : M.testBit j = if j < x then (M % 2 ^ x).testBit j else (2 * q + 1).testBit (j - x) := by
  conv => lhs; rw [hM]
  exact Nat.testBit_two_pow_mul_add _ hr j
 by_cases hj : j = x
 ·subst hj
  rw [if_neg (Nat.lt_irrefl _),if_pos rfl,Nat.sub_self]; simp
 rw [if_neg hj,h2]
 by_cases hl : j < x
 ·rw [if_pos hl,if_pos hl]
 rw [if_neg hl,if_neg hl]
 obtain ⟨n,hn⟩ : ∃ n,j - x = n + 1 := ⟨j - x - 1,by omega⟩
 rw [hn,Nat.testBit_succ,Nat.testBit_succ]
 congr 1
 omega
theorem upd_bit {M x : Nat} (on : Bool) (j : Nat) : (updN M x on).testBit j = if j = x then on else M.testBit j := by
 unfold updN
 cases on with
 | true =>
  rw [if_pos rfl,Nat.testBit_or,Nat.testBit_two_pow]
  by_cases h : j = x
  ·subst h; simp
  ·rw [if_neg h]; simp [Ne.symm h]
 | false =>
  rw [if_neg (by simp)]
  by_cases hb : M.testBit x = true
  ·rw [if_pos hb,sub_bit hb]
  ·rw [if_neg hb]
   by_cases h : j = x
   ·subst h; rw [if_pos rfl]; simpa using hb
   ·rw [if_neg h]
def Ag (cf : Cf) (M : Nat) : Prop := ∀ k,k < 24 → cf k = M.testBit k
def RelS (s : SV) (e : Cf → Bool) : Prop := ∀ cf M,Ag cf M → s.has M = e cf
theorem ag_num (cf : Cf) : ∃ M,Ag cf M := by
 obtain ⟨M,_,h⟩ := num_of cf 24
 exact ⟨M,fun k hk => (h k hk).symm⟩
theorem conf_bit {s : SV} (hg : s.good) (M j : Nat) : (confN s.v (hasN s.v M)).testBit j = (decide (j ∈ s.v) && M.testBit j) := conf_has s.v M hg.so j
theorem rel_with {s z : SV} {e : Cf → Bool} {x : Nat} {on : Bool} (hg : s.good) (hx : x < 24) (h : RelS s e) (hz : ∀ M,z.has M = s.has (updN (confN s.v (hasN s.v M)) x on)) : RelS z (fun cf => e (updI cf (x : Int) on)) := by
 intro cf M hM
 rw [hz]
 have e1 : s.has (updN (confN s.v (hasN s.v M)) x on) = s.has (updN M x on) := by
  unfold SV.has
  rw [hasN_eq s.v _ (updN M x on) fun y hy => ?_]
  rw [upd_bit,upd_bit]
  split
  ·rfl
  ·rw [conf_bit hg,decide_eq_true hy,Bool.true_and]
 rw [e1]
 refine h _ _ fun k hk => ?_
 rw [upd_bit]
 unfold updI
 by_cases hkx : k = x
 ·rw [if_pos (by omega),if_pos hkx]
 rw [if_neg (by omega),if_neg hkx]; exact hM k hk
theorem rel_with_out {s : SV} {e : Cf → Bool} {i : Int} {on : Bool} (hi : i < 0 ∨ 24 ≤ i) (h : RelS s e) : RelS s (fun cf => e (updI cf i on)) := by
 intro cf M hM
 refine h _ _ fun k hk => ?_
 unfold updI
 rw [if_neg (by omega)]
 exact hM k hk
theorem rel_cube {z : SV} {on off : Nat} (hg : z.good) (hv : z.v = featL (on ||| off)) (hz : ∀ M,z.has M = (decide (confN z.v (hasN z.v M) &&& on = on % 16777216) && decide (confN z.v (hasN z.v M) &&& off = 0))) : RelS z (cubeB on off 0) := by
 intro cf M hM
 rw [hz]
 have hb : ∀ j,(confN z.v (hasN z.v M)).testBit j = (decide (j < 24 ∧ (on.testBit j = true ∨ off.testBit j = true)) && M.testBit j) := fun j => by
  rw [conf_bit hg]
  congr 1
  rw [decide_eq_decide,hv,feat_mem,Nat.testBit_or,Bool.or_eq_true]
 have hm : ∀ j,(on % 16777216).testBit j = (decide (j < 24) && on.testBit j) := fun j => by
  rw [show (16777216 : Nat) = 2 ^ 24 from rfl,Nat.testBit_mod_two_pow]
 generalize hN : confN z.v (hasN z.v M) = N at hb
 rw [Bool.eq_iff_iff,Bool.and_eq_true,decide_eq_true_eq,decide_eq_true_eq]
 unfold cubeB
 rw [List.all_eq_true]
 constructor
 ·rintro ⟨h1,h2⟩ j hj
  have hj := List.mem_range.1 hj
  have e1 := congrArg (fun n => n.testBit j) h1
  have e2 := congrArg (fun n => n.testBit j) h2
  simp only [Nat.testBit_and,hm,hb,Nat.zero_testBit,decide_eq_true hj,Bool.true_and] at e1 e2
  rw [hM j hj]
  cases ho : on.testBit j <;> cases hf : off.testBit j <;> cases hMj : M.testBit j <;> simp_all
 intro h
 have hj : ∀ j,j < 24 → (on.testBit j = true → M.testBit j = true) ∧ (off.testBit j = true → M.testBit j = false) := fun j hj => by
  have := h j (List.mem_range.2 hj)
  rw [hM j hj] at this
  cases ho : on.testBit j <;> cases hf : off.testBit j <;> cases hMj : M.testBit j <;> simp_all
 constructor
 refine Nat.eq_of_testBit_eq fun j => ?_
 rw [Nat.testBit_and,hm,hb]
 rotate_left
 refine Nat.eq_of_testBit_eq fun j => ?_
 rw [Nat.testBit_and,hb,Nat.zero_testBit]
 rotate_left
 all_goals
  by_cases hj24 : j < 24
  ·have := hj j hj24
   cases ho : on.testBit j <;> cases hf : off.testBit j <;> cases hMj : M.testBit j <;> simp_all
  simp [hj24]
theorem cube_one {k : Nat} (hk : k < 24) (cf : Cf) : cubeB (2 ^ k) 0 0 cf = cf k := by
 unfold cubeB
 rw [Bool.eq_iff_iff,List.all_eq_true]
 constructor
 ·intro h
  have := h k (List.mem_range.2 hk)
  simpa [Nat.testBit_two_pow_self] using this
 intro h j _
 by_cases hj : k = j
 ·subst hj; simp [h]
 simp [Nat.testBit_two_pow_of_ne hj]
theorem each_or : ∀ (fs : List Nat) (e : Cf → Bool) (cf : Cf),eachF (fun p q => p || q) fs e cf = true ↔ ∃ c',(∀ j,j ∉ fs → c' j = cf j) ∧ e c' = true
 | [],e,cf => ⟨fun h => ⟨cf,fun _ _ => rfl,h⟩,fun ⟨c',h1,h2⟩ => by
   have : c' = cf := funext fun j => h1 j (by simp)
   rw [this] at h2; exact h2⟩
 | i :: fs,e,cf => by
  have ih := each_or fs (fun c => e (updI c (i : Int) false) || e (updI c (i : Int) true)) cf
  show eachF (fun p q => p || q) fs (fun c => e (updI c (i : Int) false) || e (updI c (i : Int) true)) cf = true ↔ _
  rw [ih]
  constructor
  ·rintro ⟨c',h1,h2⟩
   rw [Bool.or_eq_true] at h2
   have key : ∀ b,e (updI c' (i : Int) b) = true → ∃ c',(∀ j,j ∉ i :: fs → c' j = cf j) ∧ e c' = true := fun b hb => ⟨_,fun j hj => by
    unfold updI
    rw [if_neg (by
     intro hji
     exact hj (by rw [show j = i by omega]; exact List.mem_cons_self ..))]
    exact h1 j fun h => hj (List.mem_cons_of_mem _ h),hb⟩
   exact h2.elim (key _) (key _)
  ·rintro ⟨c',h1,h2⟩
   refine ⟨fun j => if j ∈ fs then c' j else cf j,fun j hj => if_neg hj,?_⟩
   have hc : ∀ b,b = c' i → updI (fun j => if j ∈ fs then c' j else cf j) (i : Int) b = c' := fun b hb => funext fun j => by
    unfold updI
    by_cases hji : j = i
    ·rw [if_pos (by omega),hb,hji]
    ·rw [if_neg (by omega)]
     show (if j ∈ fs then c' j else cf j) = c' j
     by_cases hjf : j ∈ fs
     ·rw [if_pos hjf]
     ·rw [if_neg hjf,h1 j (by simp [hji,hjf])]
   rw [Bool.or_eq_true]
   cases hb : c' i with
   | false => left; rw [hc false hb.symm]; exact h2
   | true => right; rw [hc true hb.symm]; exact h2
theorem each_dual : ∀ (fs : List Nat) (e : Cf → Bool) (cf : Cf),eachF (fun p q => p && q) fs e cf = !eachF (fun p q => p || q) fs (fun c => !e c) cf
 | [],e,cf => by show e cf = !(!e cf); rw [Bool.not_not]
 | i :: fs,e,cf => by
  show eachF (fun p q => p && q) fs (fun c => e (updI c (i : Int) false) && e (updI c (i : Int) true)) cf = !eachF (fun p q => p || q) fs (fun c => !e (updI c (i : Int) false) || !e (updI c (i : Int) true)) cf
  rw [each_dual fs]
  congr 2
  funext c
  rw [Bool.not_and]
theorem chg_or {F : Nat} {v : List Nat} {bs : List Bool} {k : Nat} : ∀ m,chgF false F v bs k m = true ↔ ∃ j,j < m ∧ andN (confN v k) F = andN (confN v j) F ∧ bs.getD j false = true
 | 0 => ⟨fun h => by simp [chgF] at h,fun ⟨j,hj,_⟩ => by omega⟩
 | m + 1 => by
  have ih := chg_or (F := F) (v := v) (bs := bs) (k := k) m
  rw [chgF]
  by_cases he : andN (confN v k) F = andN (confN v m) F
  ·rw [if_pos he,if_neg (by decide),Bool.or_eq_true,ih]
   constructor
   ·rintro (⟨j,h1,h2⟩ | h)
    ·exact ⟨j,by omega,h2⟩
    ·exact ⟨m,by omega,he,h⟩
   ·rintro ⟨j,h1,h2,h3⟩
    by_cases hj : j = m
    ·subst hj; exact .inr h3
    ·exact .inl ⟨j,by omega,h2,h3⟩
  ·rw [if_neg he,ih]
   constructor
   ·rintro ⟨j,h1,h2⟩
    exact ⟨j,by omega,h2⟩
   ·rintro ⟨j,h1,h2,h3⟩
    by_cases hj : j = m
    ·subst hj; exact absurd h2 he
    ·exact ⟨j,by omega,h2,h3⟩
theorem chg_dual {F : Nat} {v : List Nat} {bs : List Bool} {k : Nat} : ∀ m,m ≤ bs.length → chgF true F v bs k m = !chgF false F v (bs.map (fun b => !b)) k m
 | 0,_ => rfl
 | m + 1,hm => by
  have hg : (bs.map (fun b => !b)).getD m false = !bs.getD m false := by
   rw [List.getD_eq_getElem?_getD,List.getD_eq_getElem?_getD,List.getElem?_map,List.getElem?_eq_getElem (by omega)]
   rfl
  rw [chgF,chgF,chg_dual m (by omega),hg]
  by_cases he : andN (confN v k) F = andN (confN v m) F
  ·rw [if_pos he,if_pos he,if_pos rfl,if_neg (by decide),Bool.not_or,Bool.not_not]
  ·rw [if_neg he,if_neg he]
theorem rel_or {s z : SV} {e : Cf → Bool} {F : Nat} (hg : s.good) (hF : F < 4294967296) (h : RelS s e) (hz : ∀ M,z.has M = chgF false F s.v s.bs (hasN s.v M) s.bs.length) : RelS z (eachF (fun p q => p || q) (featL F) e) := by
 intro cf M hM
 rw [hz,Bool.eq_iff_iff,chg_or,each_or]
 have h32 : ∀ k,confN s.v k < 4294967296 := fun k => Nat.lt_of_lt_of_le (confN_lt s.v k 24 hg.so hg.lt) (by decide)
 constructor
 ·rintro ⟨j,hj,h1,h2⟩
  refine ⟨fun i => if i ∈ featL F then (confN s.v j).testBit i else cf i,fun i hi => if_neg hi,?_⟩
  obtain ⟨M',hM'⟩ := ag_num (fun i => if i ∈ featL F then (confN s.v j).testBit i else cf i)
  rw [← h _ _ hM',← h2]
  have hj2 : j < 2 ^ s.v.length := by rw [← hg.bl]; exact hj
  show s.bs.getD (hasN s.v M') false = _
  congr 1
  rw [hasN_eq s.v M' (confN s.v j) fun y hy => ?_,has_conf s.v j hg.so hj2]
  have hy24 := hg.lt y hy
  rw [← hM' y hy24]
  dsimp only
  by_cases hyF : y ∈ featL F
  ·rw [if_pos hyF]
  rw [if_neg hyF,hM y hy24]
  have e1 := congrArg (fun n => n.testBit y) h1
  have hFy : F.testBit y = false := by
   cases hq : F.testBit y with
   | false => rfl
   | true => exact absurd (feat_mem.2 ⟨hy24,hq⟩) hyF
  simp only [andN_bit (h32 _),hFy,Bool.not_false,Bool.and_true] at e1
  rw [← e1,conf_bit hg,decide_eq_true hy,Bool.true_and]
 rintro ⟨c',h1,h2⟩
 obtain ⟨M',hM'⟩ := ag_num c'
 refine ⟨hasN s.v M',by rw [hg.bl]; exact hasN_lt _ _,?_,?_⟩
 ·refine Nat.eq_of_testBit_eq fun y => ?_
  rw [andN_bit (h32 _),andN_bit (h32 _),conf_bit hg,conf_bit hg]
  by_cases hy : y ∈ s.v
  ·have hy24 := hg.lt y hy
   cases hFy : F.testBit y with
   | true => simp
   | false =>
    have : c' y = cf y := h1 y fun hq => by rw [(feat_mem.1 hq).2] at hFy; cases hFy
    rw [← hM y hy24,← hM' y hy24,this]
  simp [hy]
 rw [← h2,← h _ _ hM']; rfl
theorem rel_and {s z : SV} {e : Cf → Bool} {F : Nat} (hg : s.good) (hF : F < 4294967296) (h : RelS s e) (hz : ∀ M,z.has M = chgF true F s.v s.bs (hasN s.v M) s.bs.length) : RelS z (eachF (fun p q => p && q) (featL F) e) := by
 have hn : RelS ⟨s.v,s.a,s.c,s.bs.map (fun b => !b),s.ta,s.tc⟩ (fun c => !e c) := fun cf M hM => by
  have h9 := h cf M hM
  show (s.bs.map (fun b => !b)).getD (hasN s.v M) false = !e cf
  rw [List.getD_eq_getElem?_getD,List.getElem?_map,List.getElem?_eq_getElem (by rw [hg.bl]; exact hasN_lt _ _)]
  unfold SV.has at h9
  rw [List.getD_eq_getElem?_getD,List.getElem?_eq_getElem (by rw [hg.bl]; exact hasN_lt _ _)] at h9
  show (!_) = !_
  rw [← h9]
  rfl
 have hg' : SV.good ⟨s.v,s.a,s.c,s.bs.map (fun b => !b),s.ta,s.tc⟩ := ⟨hg.so,hg.lt,hg.vl,by simpa using hg.bl⟩
 have hr := rel_or (z := ⟨s.v,s.a,s.c,tabN (2 ^ s.v.length) (2 ^ s.v.length) (fun k => chgF false F s.v (s.bs.map (fun b => !b)) k (s.bs.map (fun b => !b)).length),s.ta,s.tc⟩) hg' hF hn (fun M => SV.has_tab _ M)
 intro cf M hM
 rw [hz,each_dual,← hr cf M hM,SV.has_tab,chg_dual _ (Nat.le_refl _),List.length_map]
theorem sel_pop {F X : Nat} {cf : Cf} (hX : ∀ k,k < 24 → X.testBit k = (F.testBit k && cf k)) : ∀ d : Nat,d ≤ 24 → selN F cf d + popN (24 - d) X = popN 24 X
 | 0,_ => by simp [selN]
 | d + 1,h => by
  have ih := sel_pop hX d (by omega)
  rw [show 24 - d = 23 - d + 1 by omega,popN_succ,hX (23 - d) (by omega)] at ih
  rw [selN,show 24 - (d + 1) = 23 - d by omega]
  omega
theorem rel_between {z : SV} {F : Nat} {low high : Int} (hg : z.good) (hv : z.v = featL F) (hz : ∀ N,z.has N = (decide (low ≤ ((featL (confN z.v (hasN z.v N))).length : Int)) && decide (((featL (confN z.v (hasN z.v N))).length : Int) ≤ high))) : RelS z (fun cf => inB low high (selN F cf 24)) := by
 intro cf M hM
 rw [hz]
 have e : selN F cf 24 = (featL (confN z.v (hasN z.v M))).length := by
  rw [feat_pop]
  have := sel_pop (F := F) (X := confN z.v (hasN z.v M)) (cf := cf) (fun k hk => by
   rw [conf_bit hg,hM k hk,hv]
   congr 1
   rw [Bool.eq_iff_iff,decide_eq_true_eq,feat_mem]
   exact ⟨fun h => h.2,fun h => ⟨hk,h⟩⟩) 24 (Nat.le_refl _)
  simpa [popN] using this
 show _ = inB low high (selN F cf 24)
 rw [e]
 rfl
theorem tailN_ag {C : List Int} {cf : Cf} {M : Nat} (h : Ag cf M) : ∀ d : Nat,d ≤ 24 → tailN C cf d = tailN C (cfg M) d
 | 0,_ => rfl
 | d + 1,hd => by
  rw [tailN,tailN,tailN_ag h d (by omega),h (23 - d) (by omega)]
  rfl
theorem costN_conf {l : List Int} {M : Nat} : ∀ i : Nat,i ≤ l.length → costN l (confN (nzL l l.length) (hasN (nzL l l.length) M)) i = costN l M i
 | 0,_ => rfl
 | i + 1,hi => by
  rw [costN,costN,costN_conf i (by omega)]
  congr 1
  rw [conf_has (nzL l l.length) M (nzL_sorted l _) i]
  by_cases h0 : l.getD i 0 = 0
  ·simp only [h0]; split <;> split <;> rfl
  ·have hm : i ∈ nzL l l.length := List.mem_filter.2 ⟨List.mem_range.2 (by omega),decide_eq_true h0⟩
   rw [decide_eq_true hm,Bool.true_and]
theorem rel_linear {z : SV} {l : List Int} {rel : Nat} {bound : Int} (hok : costsB l = true) (hrel : 1 ≤ rel ∧ rel ≤ 3) (hv : z.v = nzL l l.length) (hz : ∀ M,z.has M = relB rel (costN l (confN z.v (hasN z.v M)) l.length) bound) : RelS z (fun cf => costsB l && (decide (1 ≤ rel ∧ rel ≤ 3) && relB rel (tailN l cf 24) bound)) := by
 have h24 : l.length ≤ 24 := by
  unfold costsB at hok
  rw [Bool.and_eq_true,decide_eq_true_eq] at hok
  exact hok.2
 intro cf M hM
 rw [hz,hv,costN_conf _ (Nat.le_refl _)]
 dsimp only
 rw [hok,decide_eq_true hrel,Bool.true_and,Bool.true_and,tailN_ag hM 24 (Nat.le_refl _),tailN_all (fun _ => rfl) h24 M]
structure RelL (ss : List SV) (eD : List (Cf → Bool)) : Prop where
 len : ss.length = eD.length
 at' : ∀ (i : Nat) (s : SV) (e : Cf → Bool),ss[i]? = some s → eD[i]? = some e → RelS s e
theorem RelL.pick {ss : List SV} {eD : List (Cf → Bool)} (h : RelL ss eD) {k : Nat} {s : SV} (hs : ss[k % ss.length]? = some s) : RelS s (evAt eD k) := by
 have hl := (List.getElem?_eq_some_iff.1 hs).1
 unfold evAt
 rw [List.getD_eq_getElem?_getD,← h.len,List.getElem?_eq_getElem (by rw [← h.len]; exact hl)]
 exact h.at' _ _ _ hs (List.getElem?_eq_getElem _)
theorem RelL.snoc {ss : List SV} {eD : List (Cf → Bool)} (h : RelL ss eD) {s : SV} {e : Cf → Bool} (hs : RelS s e) : RelL (ss ++ [s]) (eD ++ [e]) := by
 refine ⟨by simp [h.len],fun i t g h1 h2 => ?_⟩
 by_cases hi : i < ss.length
 ·rw [List.getElem?_append_left hi] at h1
  rw [List.getElem?_append_left (by rw [← h.len]; exact hi)] at h2
  exact h.at' _ _ _ h1 h2
 rw [List.getElem?_append_right (by omega)] at h1
 rw [List.getElem?_append_right (by rw [← h.len]; omega),← h.len] at h2
 have hl := (List.getElem?_eq_some_iff.1 h1).1
 simp at hl
 rw [show i - ss.length = 0 by omega] at h1 h2
 cases h1; cases h2
 exact hs
abbrev scl (s : SV) : List Value := scells s.v s.a s.c s.bs s.ta s.tc
def svs (l : List SV) : List Value := l.flatMap scl
theorem svs_append (l m : List SV) : svs (l ++ m) = svs l ++ svs m := by simp [svs]
theorem svs_one (s : SV) : svs [s] = scl s := by simp [svs]
theorem svs_at : ∀ {l : List SV} {k : Nat} {x : SV},l[k]? = some x → ∀ j u,(scl x)[j]? = some u → (svs l)[k * 2 + j]? = some u
 | [],k,x,h,_,_,_ => by simp at h
 | y :: l,0,x,h,j,u,hj => by
  simp only [List.getElem?_cons_zero,Option.some.injEq] at h
  subst h
  have hjl := (List.getElem?_eq_some_iff.1 hj).1
  show (scl y ++ svs l)[0 * 2 + j]? = _
  rw [Nat.zero_mul,Nat.zero_add,List.getElem?_append_left hjl]
  exact hj
 | y :: l,k + 1,x,h,j,u,hj => by
  simp only [List.getElem?_cons_succ] at h
  have ih := svs_at h j u hj
  show (scl y ++ svs l)[(k + 1) * 2 + j]? = _
  rw [List.getElem?_append_right (by simp; omega)]
  simp only [List.length_cons,List.length_nil]
  rw [show (k + 1) * 2 + j - (0 + 1 + 1) = k * 2 + j by omega]
  exact ih
def RdSL (w : World) (ss : List SV) (a : Option Addr) : Prop := ∀ (i : Nat) (s : SV),ss[i]? = some s → ∃ b off,a = some ⟨b,off,none⟩ ∧ ∀ j v,(scl s)[j]? = some v → w.cell? ⟨b,off + i * 2 + j,none⟩ = some v
theorem RdSL.of_row {w : World} {ss : List SV} {a : Option Addr} {n cap : Nat} {e : TypeId} (hn : n = ss.length) (h : (rowc (.slice a n cap) n e 2 (svs ss)).ok w) : RdSL w ss a := fun i s hs => by
 have hlt := (List.getElem?_eq_some_iff.1 hs).1
 obtain ⟨g,hg,_,_⟩ := rowc_addr h (by omega)
 subst hg
 exact ⟨g,0,rfl,fun j v hv => by rw [Nat.zero_add]; exact rowc_cells h (svs_at hs j v hv)⟩
theorem RdSL.pos {w : World} {ss : List SV} {a : Option Addr} (h : RdSL w ss a) (hs : 0 < ss.length) : ∃ b off,a = some ⟨b,off,none⟩ ∧ ∀ (i : Nat) (x : SV),ss[i]? = some x → ∀ j v,(scl x)[j]? = some v → w.cell? ⟨b,off + i * 2 + j,none⟩ = some v := by
 obtain ⟨b,off,h1,_⟩ := h 0 _ (List.getElem?_eq_getElem hs)
 refine ⟨b,off,h1,fun i x hx j v hv => ?_⟩
 obtain ⟨b2,off2,h2,h3⟩ := h i x hx
 rw [h1] at h2
 simp only [Option.some.injEq,Addr.mk.injEq,and_true] at h2
 obtain ⟨rfl,rfl⟩ := h2
 exact h3 j v hv
def SaidP (Lin : List RowV) (Q : SV → Prop) (w : World) (e : Ending) (w' : World) : Prop :=
 ∃ (z : SV) (F : List Nat) (L : List RowV) (k : Int),z.good ∧ Q z ∧ z.among (Lin ++ L) ∧ e = .returned (.tuple #[z.val,.int .i64 k]) ∧ St w [] [rwC F L] w'
abbrev SaidX (L : List RowV) (Q : SV → Prop) : Type := { y : SV × List Nat × List RowV × Int // y.1.good ∧ Q y.1 ∧ y.1.among (L ++ y.2.2.1) }
theorem SaidP.sx {L : List RowV} {Q : SV → Prop} {w w' : World} {e : Ending} (h : SaidP L Q w e w') : ∃ y : SaidX L Q,e = .returned (.tuple #[y.1.1.val,.int .i64 y.1.2.2.2]) ∧ St w [] [rwC y.1.2.1 y.1.2.2.1] w' := by
 obtain ⟨z,F,M,k,h1,h2,h3,h4,h5⟩ := h
 exact ⟨⟨(z,F,M,k),h1,h2,h3⟩,h4,h5⟩
theorem SaidP.of {L : List RowV} {Q R : SV → Prop} {w w' : World} (y : SX L Q) (k : Int) (hR : y.1.1.good → Q y.1.1 → R y.1.1) (hS : St w [] [rwC y.1.2.1 y.1.2.2] w') : SaidP L R w (.returned (.tuple #[y.1.1.val,.int .i64 k])) w' :=
 ⟨y.1.1,_,_,k,y.2.1,hR y.2.1 y.2.2.1,y.2.2.2,rfl,hS⟩
theorem rel_sup {s : SV} {t : BT} (hg : s.good) (ho : t.ok 0) (h : RelS s t.ev) : numN (s.v.filter (difB s.v s.bs)) = supT (canon t).1 := by
 apply Nat.eq_of_testBit_eq
 intro j
 rw [Bool.eq_iff_iff,sup_dep ho]
 have hn := numN_bit j (s.v.filter (difB s.v s.bs)) 0
 rw [Nat.zero_testBit] at hn
 unfold numN
 rw [hn]
 have hat : ∀ (M : Nat) (c : Cf) (on : Bool),Ag c M → s.has (updN M j on) = t.ev (upd c j on) := fun M c on hc => h _ _ fun k hk => by
  rw [upd_bit]
  unfold upd
  split
  ·rfl
  ·exact hc k hk
 constructor
 ·rintro (h9 | h9)
  ·cases h9
  obtain ⟨hj,hd⟩ := List.mem_filter.1 h9
  obtain ⟨k,_,hne⟩ := (difB_iff hg.so hg.lt _ j).1 hd
  refine ⟨cfg (confN s.v k),fun e => hne ?_⟩
  have e1 := hat (confN s.v k) (cfg (confN s.v k)) true (fun _ _ => rfl)
  have e2 := hat (confN s.v k) (cfg (confN s.v k)) false (fun _ _ => rfl)
  unfold SV.has at e1 e2
  rw [e1,e2,e]
 rintro ⟨c,hc⟩
 obtain ⟨M,hM⟩ := ag_num c
 rw [← hat M c false hM,← hat M c true hM] at hc
 have hj : j ∈ s.v := Classical.byContradiction fun hnj => hc (by
  unfold SV.has
  rw [hasN_eq s.v (updN M j false) (updN M j true) fun y hy => ?_]
  have : y ≠ j := fun e => hnj (e ▸ hy)
  rw [upd_bit,upd_bit,if_neg this,if_neg this])
 refine .inr (List.mem_filter.2 ⟨hj,(difB_iff hg.so hg.lt _ j).2 ⟨hasN s.v M,hasN_lt _ _,?_⟩⟩)
 have e1 : ∀ on,s.bs.getD (hasN s.v (updN (confN s.v (hasN s.v M)) j on)) false = s.has (updN M j on) := fun on => by
  unfold SV.has
  rw [hasN_eq s.v _ (updN M j on) fun y hy => ?_]
  rw [upd_bit,upd_bit,conf_bit hg,decide_eq_true hy,Bool.true_and]
 rw [e1,e1]
 exact fun e => hc e.symm
theorem has_at {s : SV} (hg : s.good) {k : Nat} {b : Bool} (h : s.bs[k]? = some b) : s.has (confN s.v k) = b := by
 have hk := (List.getElem?_eq_some_iff.1 h).1
 unfold SV.has
 rw [has_conf s.v k hg.so (by rw [← hg.bl]; exact hk),List.getD_eq_getElem?_getD,h]
 rfl
theorem ev_const {t : BT} (ho : t.ok 0) {b : Bool} (h : ∀ cf,t.ev cf = b) : t = .lf b := BT.unique (m := 0) (n := 0) ho trivial h
theorem rel_none {s : SV} {t : BT} (hg : s.good) (ho : t.ok 0) (h : RelS s t.ev) : (!s.bs.any id) = true ↔ t = .lf false := by
 constructor
 ·intro hb
  refine ev_const ho fun cf => ?_
  obtain ⟨M,hM⟩ := ag_num cf
  rw [← h cf M hM]
  have hk : hasN s.v M < s.bs.length := by rw [hg.bl]; exact hasN_lt _ _
  unfold SV.has
  rw [List.getD_eq_getElem?_getD,List.getElem?_eq_getElem hk]
  show s.bs[hasN s.v M] = false
  cases hq : s.bs[hasN s.v M] with
  | false => rfl
  | true =>
   rw [Bool.not_eq_true'] at hb
   have := (List.any_eq_false.1 hb) _ (List.getElem_mem hk)
   rw [hq] at this
   exact absurd rfl this
 rintro rfl
 rw [Bool.not_eq_true',List.any_eq_false]
 intro b hb
 obtain ⟨k,hk⟩ := List.getElem?_of_mem hb
 have := has_at hg hk
 rw [h (cfg (confN s.v k)) _ fun _ _ => rfl] at this
 rw [← this]
 exact Bool.false_ne_true
theorem rel_all {s : SV} {t : BT} (hg : s.good) (ho : t.ok 0) (h : RelS s t.ev) : s.bs.all id = true ↔ t = .lf true := by
 constructor
 ·intro hb
  refine ev_const ho fun cf => ?_
  obtain ⟨M,hM⟩ := ag_num cf
  rw [← h cf M hM]
  have hk : hasN s.v M < s.bs.length := by rw [hg.bl]; exact hasN_lt _ _
  unfold SV.has
  rw [List.getD_eq_getElem?_getD,List.getElem?_eq_getElem hk]
  exact (List.all_eq_true.1 hb) _ (List.getElem_mem hk)
 rintro rfl
 rw [List.all_eq_true]
 intro b hb
 obtain ⟨k,hk⟩ := List.getElem?_of_mem hb
 have := has_at hg hk
 rw [h (cfg (confN s.v k)) _ fun _ _ => rfl] at this
 rw [← this]
 rfl
theorem hasVar_ge : ∀ {t : BT} {m x : Nat},t.ok m → hasVar x t → m ≤ x
 | .lf _,_,_,_,h => h.elim
 | .nd v lo hi,m,x,h,hx => by
  rcases hx with rfl | hx | hx
  ·exact h.1
  ·have := hasVar_ge h.2.2.2.1 hx; have := h.1; omega
  ·have := hasVar_ge h.2.2.2.2 hx; have := h.1; omega
theorem head_min : ∀ {l : List Nat} {v : Nat},l.Pairwise (· < ·) → v ∈ l → (∀ x ∈ l,v ≤ x) → l[0]? = some v
 | [],_,_,h,_ => by cases h
 | x :: l,v,hp,h,hm => by
  rcases List.mem_cons.1 h with rfl | h
  ·rfl
  ·have h1 := (List.pairwise_cons.1 hp).1 v h
   have h2 := hm x (List.mem_cons_self ..)
   omega
theorem root_feat {v : Nat} {lo hi : BT} (ho : (BT.nd v lo hi).ok 0) : (featL (supT (canon (.nd v lo hi)).1))[0]? = some v := by
 refine head_min (featL_sorted _) (feat_mem.2 ⟨ho.2.1,(sup_var ho v).2 (.inl rfl)⟩) fun x hx => ?_
 rcases (sup_var ho x).1 (feat_mem.1 hx).2 with rfl | h | h
 ·exact Nat.le_refl _
 ·have := hasVar_ge ho.2.2.2.1 h; omega
 have := hasVar_ge ho.2.2.2.2 h; omega
theorem updI_upd (c : Cf) (v : Nat) (b : Bool) : updI c (v : Int) b = upd c v b := by
 funext j
 unfold updI upd
 by_cases h : j = v
 ·rw [if_pos h,if_pos (by omega)]
 rw [if_neg h,if_neg (by omega)]
theorem rel_kid {z : SV} {v : Nat} {lo hi : BT} (ho : (BT.nd v lo hi).ok 0) {b : Bool} (h : RelS z (fun cf => (BT.nd v lo hi).ev (updI cf (v : Int) b))) : RelS z (bif b then hi else lo).ev := by
 have e : (fun cf => (BT.nd v lo hi).ev (updI cf (v : Int) b)) = (bif b then hi else lo).ev := by
  funext cf
  rw [updI_upd]
  cases b
  ·exact BT.ev_lo ho cf
  ·exact BT.ev_hi ho cf
 rwa [e] at h
theorem ok_kid {v : Nat} {lo hi : BT} (ho : (BT.nd v lo hi).ok 0) (b : Bool) : (bif b then hi else lo).ok 0 := by
 cases b
 ·exact BT.ok_mono ho.2.2.2.1 (Nat.zero_le _)
 exact BT.ok_mono ho.2.2.2.2 (Nat.zero_le _)
section
variable {w0 : World} {O : List Nat} {C : List Chunk}
end
open Go Go.Eng Go.Proofs
theorem conv53 {n : Nat} (hn : n < 256) (w : World) : (convert 5 3 (.int .u8 (n : Int))).run Tryz.prog w = .ok (.int .i64 (n : Int)) w := by
 have h := run_convert_int (P := Tryz.prog) w 5 3 .u8 (n : Int) (by kernel_rfl) (by kernel_rfl)
 rw [show Tryz.prog.intKind 3 = .i64 by kernel_rfl,wrap_i64 (by omega) (by omega)] at h
 exact h
open Go Go.Eng Go.Proofs Dg
def popL : List UInt8 := [0,1,1,2,1,2,2,3,1,2,2,3,2,3,3,4,1,2,2,3,2,3,3,4,2,3,3,4,3,4,4,5,1,2,2,3,2,3,3,4,2,3,3,4,3,4,4,5,2,3,3,4,3,4,4,5,3,4,4,5,4,5,5,6,1,2,2,3,2,3,3,4,2,3,3,4,3,4,4,5,2,3,3,4,3,4,4,5,3,4,4,5,4,5,5,6,2,3,3,4,3,4,4,5,3,4,4,5,4,5,5,6,3,4,4,5,4,5,5,6,4,5,5,6,5,6,6,7,1,2,2,3,2,3,3,4,2,3,3,4,3,4,4,5,2,3,3,4,3,4,4,5,3,4,4,5,4,5,5,6,2,3,3,4,3,4,4,5,3,4,4,5,4,5,5,6,3,4,4,5,4,5,5,6,4,5,5,6,5,6,6,7,2,3,3,4,3,4,4,5,3,4,4,5,4,5,5,6,3,4,4,5,4,5,5,6,4,5,5,6,5,6,6,7,3,4,4,5,4,5,5,6,4,5,5,6,5,6,6,7,4,5,5,6,5,6,6,7,5,6,6,7,6,7,7,8]
set_option maxRecDepth 100000 in
theorem popL_all : ∀ k : Fin 256,(popL[k.val]?).map (fun c => (c.toNat,decide (c.toNat ≤ 8))) = some (popN 8 k.val,true) := by decide +kernel
theorem popL_at {k : Nat} (h : k < 256) : ∃ c,popL[k]? = some c ∧ c.toNat = popN 8 k ∧ c.toNat ≤ 8 := by
 have h1 := popL_all ⟨k,h⟩
 cases hq : popL[k]? with
 | none => simp [hq] at h1
 | some c =>
  simp only [hq,Option.map_some,Option.some.injEq,Prod.mk.injEq,decide_eq_true_eq] at h1
  exact ⟨c,rfl,h1.1,h1.2⟩
theorem run_add8 {a b : Nat} (h : a + b < 256) (t : TypeId) (x y : Operand) (w : World) :
  (do eqGuard .add t x y (.int .u8 (a : Int)) (.int .u8 (b : Int)); binOp .add t (.int .u8 (a : Int)) (.int .u8 (b : Int)) : Sem Value).run Tryz.prog w = .ok (.int .u8 ((a + b : Nat) : Int)) w := by
 have h1 : IntKind.u8.wrap ((a + b : Nat) : Int) = ((a + b : Nat) : Int) := by
  simp only [IntKind.wrap,IntKind.bits,IntKind.signed,Bool.false_and,Bool.false_eq_true,if_false]
  omega
 simp only [Int.natCast_add] at h1
 simp [eqGuard,binOp,Op.intArith,h1]
theorem conv8 {n : Nat} (hn : n < 256) (w : World) : (convert 5 3 (.int .u8 (n : Int))).run Tryz.prog w = .ok (.int .i64 (n : Int)) w := conv53 hn w
set_option maxRecDepth 100000 in
theorem Ones_c (x : Nat) (hx : x < 4294967296) (w : World) : Pure Tryz.prog 154 [.int .u32 (x : Int)] w (.int .i64 ((popN 32 x : Nat) : Int)) := by
 have s24 : x >>> 24 < 256 := by rw [Nat.shiftRight_eq_div_pow]; omega
 have s16 : x >>> 16 < 4294967296 := Nat.lt_of_le_of_lt (by rw [Nat.shiftRight_eq_div_pow]; exact Nat.div_le_self _ _) hx
 have s8 : x >>> 8 < 4294967296 := Nat.lt_of_le_of_lt (by rw [Nat.shiftRight_eq_div_pow]; exact Nat.div_le_self _ _) hx
 have m : ∀ y : Nat,y &&& 255 < 256 := fun y => Nat.lt_of_le_of_lt Nat.and_le_right (by decide)
 obtain ⟨c1,p1,q1,b1⟩ := popL_at s24
 obtain ⟨c2,p2,q2,b2⟩ := popL_at (m (x >>> 16))
 obtain ⟨c3,p3,q3,b3⟩ := popL_at (m (x >>> 8))
 obtain ⟨c4,p4,q4,b4⟩ := popL_at (m x)
 refine enter Tryz.func154 rfl Tryz.ntmps154 rfl (St.init _) ?_
 refine jN 7 ?_
 refine WC.drawsL (by kernel_rfl) (FactsOk.nil) ?_
 refine jT 0 rfl (Yl.move rfl) ?_
 refine jT 1 rfl (Yl.bin rfl rfl (fun w => run_shrU (a := x) (k := 24) (by decide) _ _ _ w)) ?_
 refine jT 2 rfl (Yl.indexS (m := popL) (i := (x >>> 24)) F.und9 rfl rfl p1) ?_
 refine jT 3 rfl (Yl.move rfl) ?_
 refine jT 4 rfl (Yl.bin rfl rfl (fun w => run_shrU (a := x) (k := 16) (by decide) _ _ _ w)) ?_
 refine jT 5 rfl (Yl.bin rfl rfl (fun w => run_and (a := x >>> 16) (b := 255) s16 (by decide) _ _ _ w)) ?_
 refine jT 6 rfl (Yl.indexS (m := popL) (i := (x >>> 16 &&& 255)) F.und9 rfl rfl p2) ?_
 refine jT 7 rfl (Yl.bin rfl rfl (fun w => run_add8 (a := c1.toNat) (b := c2.toNat) (by omega) _ _ _ w)) ?_
 refine jT 8 rfl (Yl.move rfl) ?_
 refine jT 9 rfl (Yl.bin rfl rfl (fun w => run_shrU (a := x) (k := 8) (by decide) _ _ _ w)) ?_
 refine jT 10 rfl (Yl.bin rfl rfl (fun w => run_and (a := x >>> 8) (b := 255) s8 (by decide) _ _ _ w)) ?_
 refine jT 11 rfl (Yl.indexS (m := popL) (i := (x >>> 8 &&& 255)) F.und9 rfl rfl p3) ?_
 refine jT 12 rfl (Yl.bin rfl rfl (fun w => run_add8 (a := c1.toNat + c2.toNat) (b := c3.toNat) (by omega) _ _ _ w)) ?_
 refine jT 13 rfl (Yl.move rfl) ?_
 refine jT 14 rfl (Yl.bin rfl rfl (fun w => run_and (a := x) (b := 255) hx (by decide) _ _ _ w)) ?_
 refine jT 15 rfl (Yl.indexS (m := popL) (i := (x &&& 255)) F.und9 rfl rfl p4) ?_
 refine jT 16 rfl (Yl.bin rfl rfl (fun w => run_add8 (a := c1.toNat + c2.toNat + c3.toNat) (b := c4.toNat) (by omega) _ _ _ w)) ?_
 refine jT 17 rfl (Yl.convert rfl (v := .int .i64 ((c1.toNat + c2.toNat + c3.toNat + c4.toNat : Nat) : Int)) (fun w => conv8 (by omega) w)) ?_
 refine jT 18 rfl (Yl.assign rfl) ?_
 refine jD ?_
 refine jN 2 ?_
 exact WQ.ret (rs := [.tmp 2]) rfl (.tmp rfl .nil) (fun w hS => ⟨by rw [popN_32,← q1,← q2,← q3,← q4]; rfl,hS⟩)
def padN (n : Nat) (S : List Nat) : List Nat := S ++ List.replicate (n - S.length) 0
theorem padN_len {n : Nat} {S : List Nat} (h : S.length ≤ n) : (padN n S).length = n := by
 unfold padN; rw [List.length_append,List.length_replicate]; omega
theorem padN_full {n : Nat} {S : List Nat} (h : S.length = n) : padN n S = S := by
 unfold padN; rw [h,Nat.sub_self]; simp
theorem padN_set {n : Nat} {S : List Nat} (h : S.length < n) (p : Nat) : (padN n S).set S.length p = padN n (S ++ [p]) := by
 unfold padN
 rw [List.set_append_right _ _ (Nat.le_refl _),Nat.sub_self,show n - S.length = (n - (S ++ [p]).length) + 1 by (rw [List.length_append,List.length_singleton]; omega),List.replicate_succ,List.set_cons_zero,List.append_assoc]
 rfl
theorem padN_zero {n : Nat} {S : List Nat} (h : S.length < n) : padN n S = padN n (S ++ [0]) := by
 unfold padN
 rw [show n - S.length = (n - (S ++ [0]).length) + 1 by (rw [List.length_append,List.length_singleton]; omega),List.replicate_succ,List.append_assoc]
 rfl
theorem padN_nums (n : Nat) : List.replicate n (Value.int .i64 0) = nums (padN n []) := by
 unfold padN nums
 simp
theorem nums_setN {n k p : Nat} {S : List Nat} (hk : k = S.length) (h : S.length < n) : SetN (nums (padN n S)) k [.int .i64 (p : Int)] (nums (padN n (S ++ [p]))) := by
 subst hk
 have h7 := setN_set (nums (padN n S)) S.length (.int .i64 (p : Int)) (by unfold nums; rw [List.length_map,padN_len (by omega)]; exact h)
 have e : (nums (padN n S)).set S.length (.int .i64 (p : Int)) = nums (padN n (S ++ [p])) := by
  rw [← padN_set h]; unfold nums; rw [List.map_set]
 rwa [e] at h7
def startL (low high : Int) (k : Nat) : List Nat := (List.range k).map fun j => bif inB low high j then 1 else 0
theorem startL_len (low high : Int) (k : Nat) : (startL low high k).length = k := by simp [startL]
theorem startL_succ (low high : Int) (k : Nat) : startL low high (k + 1) = startL low high k ++ [bif inB low high k then 1 else 0] := by
 unfold startL; rw [List.range_succ,List.map_append]; rfl
theorem start_bet (low high : Int) (F : Nat) : BetI low high F 0 [] (startL low high (popN 24 F + 1)) := by
 refine ⟨by omega,Mk.nil,startL_len _ _ _,fun k r hk => ?_⟩
 unfold startL at hk
 rw [List.getElem?_map] at hk
 have hlt : k < popN 24 F + 1 := by
  rcases Nat.lt_or_ge k (popN 24 F + 1) with h | h
  ·exact h
  ·rw [List.getElem?_eq_none (by simpa using h)] at hk; cases hk
 rw [List.getElem?_range hlt] at hk
 simp only [Option.map_some,Option.some.injEq] at hk
 subst hk
 cases hb : inB low high k with
 | true => exact ⟨by simp,by simp only [cond_true]; rw [(trs_zero []).2]; trivial,fun cf => by simp only [cond_true]; rw [(trs_zero []).2]; simp [BT.ev,selN,hb]⟩
 | false => exact ⟨by simp,by simp only [cond_false]; rw [(trs_zero []).1]; trivial,fun cf => by simp only [cond_false]; rw [(trs_zero []).1]; simp [BT.ev,selN,hb]⟩
theorem popN_all (F : Nat) : popN 32 (F &&& 16777215) = popN 24 F := by
 have h : F &&& 16777215 < 2 ^ 24 := Nat.lt_of_le_of_lt Nat.and_le_right (by decide)
 rw [popN_24 h]
 refine popN_congr 24 _ _ fun j hj => ?_
 rw [Nat.testBit_and,show (16777215 : Nat) = 2 ^ 24 - 1 from rfl,Nat.testBit_two_pow_sub_one,decide_eq_true hj,Bool.and_true]
structure BetG where
 m : Nat
 G : List Nat
 l : List Dec
 b : Nat
 R : List Nat
structure NxtG where
 G : List Nat
 l : List Dec
 S : List Nat
set_option maxRecDepth 100000 in
theorem Between_c (M : Nat) (low high : Int) (hF : M < 4294967296) (w : World) : Calls Tryz.prog 111 [.int .u32 (M : Int),.int .i64 low,.int .i64 high].toArray w (DPost (fun cf => inB low high (selN M cf 24)) w) := by
 have hF1 : M &&& 16777215 < 4294967296 := Nat.lt_of_le_of_lt Nat.and_le_left hF
 have hpp : popN 24 M ≤ 24 := popN_le 24 M
 refine enter Tryz.func111 rfl Tryz.ntmps111 rfl (St.init _) ?_
 refine jN 3 ?_
 refine WL.alloc F.zero35 rfl (fun b6 => ?_)
 refine jN 5 ?_
 refine jC (β := List Nat × Nat) (res := fun x => pp x.2) (cs := fun x => [mkr x.1 x.2 []]) F.fun147 rfl (fun w hS _ => newMaker_c w) (fun ⟨G0,bm⟩ => ?_)
 refine jN 9 ?_
 refine WL.bin rfl rfl rfl (fun w => run_and (b := 16777215) hF (by decide) _ _ _ w) ?_
 refine jN 1 ?_
 refine WL.callV F.fun154 rfl rfl (fun w hS => Ones_c _ hF1 w) ?_
 rw [popN_all]
 refine jN 10 ?_
 refine WA.say 19 (.int .i64 (((popN 24 M + 1) : Nat) : Int)) rfl ?_
 refine jN 1 ?_
 refine WL.makeSlice (n := (popN 24 M + 1)) (e := 3) (z := .int .i64 0) (bytes := 8) F.und41 (by kernel_rfl) rfl rfl rfl rfl (by omega) (by omega) (fun b20 => ?_)
 refine jN 16 ?_
 refine WC.chunks (C' := [rowc (.slice (some ⟨b20,0,none⟩) (popN 24 M + 1) (popN 24 M + 1)) (popN 24 M + 1) 3 1 (nums (padN (popN 24 M + 1) (startL low high 0))),mkr G0 bm [],pt b6 [.slice none 0 0,.int .i64 0] 35]) (fun w hS => ?_) ?_
 ·have hS1 := St.rowOf (n := (popN 24 M + 1)) (sz := 1) ((St.pick hS (c := pt b20 (List.replicate (popN 24 M + 1) (Value.int .i64 0)) 3) jR)) (by rw [List.length_replicate,Nat.mul_one]) (Nat.le_trans (m := 1000) (by omega) (by decide))
  rw [padN_nums] at hS1
  exact (jK hS1)
 refine WC.loop (α := Nat) (fun k => k ≤ (popN 24 M + 1)) (fun k => [(0,.int .u32 (M : Int)),(1,.int .i64 low),(2,.int .i64 high),(6,pp b6),(7,pp bm),(9,.slice (some ⟨b20,0,none⟩) (popN 24 M + 1) (popN 24 M + 1)),(22,.int .i64 (((popN 24 M + 1) : Nat) : Int)),(23,.int .i64 (k : Int))]) (fun k => [rowc (.slice (some ⟨b20,0,none⟩) (popN 24 M + 1) (popN 24 M + 1)) (popN 24 M + 1) 3 1 (nums (padN (popN 24 M + 1) (startL low high k))),mkr G0 bm [],pt b6 [.slice none 0 0,.int .i64 0] 35]) (fun k => (popN 24 M + 1) - k) (0) ?_ ?_ ?_ ?_
 ·exact Nat.zero_le _
 ·exact ⟨rfl,rfl,rfl,rfl,rfl,rfl,rfl,rfl,trivial⟩
 ·rfl
 rintro k hk
 show WC _ _ _ _ _ _ _ [(0,.int .u32 (M : Int)),(1,.int .i64 low),(2,.int .i64 high),(6,pp b6),(7,pp bm),(9,.slice (some ⟨b20,0,none⟩) (popN 24 M + 1) (popN 24 M + 1)),(22,.int .i64 (((popN 24 M + 1) : Nat) : Int)),(23,.int .i64 (k : Int))] [rowc (.slice (some ⟨b20,0,none⟩) (popN 24 M + 1) (popN 24 M + 1)) (popN 24 M + 1) 3 1 (nums (padN (popN 24 M + 1) (startL low high k))),mkr G0 bm [],pt b6 [.slice none 0 0,.int .i64 0] 35]
 have hsl := startL_len low high k
 have hss := startL_succ low high k
 refine jN 7 ?_
 refine WC.cond rfl (fun h24 => ?_) (fun h24 => ?_)
 ·have hlt : k < (popN 24 M + 1) := by (simp at h24; omega)
  refine jN 22 ?_
  refine WA.splitB (i := 29) rfl (fun g29 => ?_) (fun g29 => ?_)
  ·have hlo : low ≤ (k : Int) := by simpa using g29
   refine jN 13 ?_
   refine WC.cond rfl (fun h33 => ?_) (fun h33 => ?_)
   have hhi : (k : Int) ≤ high := by simpa using h33
   have hib : inB low high k = true := by (unfold inB; rw [decide_eq_true hlo,decide_eq_true hhi]; rfl)
   rw [hib,cond_true] at hss
   refine jN 6 ?_
   refine WL.indexAddr F.sl41 rfl rfl rfl hlt ?_
   refine jN 1 ?_
   refine WL.storeRow1 (xs := nums (padN (popN 24 M + 1) (startL low high k))) (xs' := nums (padN (popN 24 M + 1) (startL low high (k + 1)))) F.one3 rfl rfl rfl jU (by rw [Nat.zero_add,Nat.mul_one,hss]; exact nums_setN (p := 1) hsl.symm (by omega)) ?_
   refine jN 9 ?_
   rotate_left
   have hhi : ¬ (k : Int) ≤ high := by simpa using h33
   have hib : inB low high k = false := by (unfold inB; rw [decide_eq_true hlo,decide_eq_false hhi]; rfl)
   rw [hib,cond_false] at hss
   refine jN 9 ?_
   have hz := padN_zero (n := (popN 24 M + 1)) (S := startL low high k) (by omega)
   rw [hz,← hss]
   rotate_left
   all_goals
    refine WQ.chunks (C' := [rowc (.slice (some ⟨b20,0,none⟩) (popN 24 M + 1) (popN 24 M + 1)) (popN 24 M + 1) 3 1 (nums (padN (popN 24 M + 1) (startL low high (k + 1)))),mkr G0 bm [],pt b6 [.slice none 0 0,.int .i64 0] 35]) (fun w hS => (jK hS)) ?_
    refine WQ.back (k + 1) ?_ ?_ ?_ ?_
    ·exact by (show k + 1 ≤ (popN 24 M + 1)); omega
    ·(show (popN 24 M + 1) - (k + 1) < (popN 24 M + 1) - k; omega)
    ·exact ⟨rfl,rfl,rfl,rfl,rfl,rfl,rfl,rfl,trivial⟩
    rfl
  have hlo : ¬ low ≤ (k : Int) := by simpa using g29
  have hib : inB low high k = false := by (unfold inB; rw [decide_eq_false hlo]; rfl)
  rw [hib,cond_false] at hss
  refine jN 20 ?_
  have hz := padN_zero (n := (popN 24 M + 1)) (S := startL low high k) (by omega)
  rw [hz,← hss]
  refine WQ.chunks (C' := [rowc (.slice (some ⟨b20,0,none⟩) (popN 24 M + 1) (popN 24 M + 1)) (popN 24 M + 1) 3 1 (nums (padN (popN 24 M + 1) (startL low high (k + 1)))),mkr G0 bm [],pt b6 [.slice none 0 0,.int .i64 0] 35]) (fun w hS => (jK hS)) ?_
  refine WQ.back (k + 1) ?_ ?_ ?_ ?_
  ·exact by (show k + 1 ≤ (popN 24 M + 1)); omega
  ·(show (popN 24 M + 1) - (k + 1) < (popN 24 M + 1) - k; omega)
  ·exact ⟨rfl,rfl,rfl,rfl,rfl,rfl,rfl,rfl,trivial⟩
  rfl
 have hke : k = (popN 24 M + 1) := by (simp at h24; omega)
 subst hke
 rw [padN_full hsl]
 refine jN 13 ?_
 refine WC.chunks (C' := [rowc (.slice (some ⟨b20,0,none⟩) (startL low high (popN 24 M + 1)).length (startL low high (popN 24 M + 1)).length) (startL low high (popN 24 M + 1)).length 3 1 (nums (startL low high (popN 24 M + 1))),mkr G0 bm [],pt b6 [.slice none 0 0,.int .i64 0] 35]) (fun w hS => ?_) ?_
 ·rw [hsl]; exact (jK hS)
 refine WC.facts (M := [(0,.int .u32 (M : Int)),(6,pp b6),(7,pp bm),(9,.slice (some ⟨(⟨24,G0,[],b20,startL low high (popN 24 M + 1)⟩ : BetG).b,0,none⟩) (⟨24,G0,[],b20,startL low high (popN 24 M + 1)⟩ : BetG).R.length (⟨24,G0,[],b20,startL low high (popN 24 M + 1)⟩ : BetG).R.length),(11,.int .i64 (((⟨24,G0,[],b20,startL low high (popN 24 M + 1)⟩ : BetG).m : Int) - 1))]) (by rw [hsl]; exact ⟨rfl,rfl,rfl,rfl,rfl,trivial⟩) ?_
 refine WC.loop (α := BetG) (fun g => g.m ≤ 24 ∧ BetI low high M (24 - g.m) g.l g.R ∧ g.l.length ≤ 24 * (24 - g.m) ∧ g.R.length ≤ 25) (fun g => [(0,.int .u32 (M : Int)),(6,pp b6),(7,pp bm),(9,.slice (some ⟨g.b,0,none⟩) g.R.length g.R.length),(11,.int .i64 ((g.m : Int) - 1))]) (fun g => [rowc (.slice (some ⟨g.b,0,none⟩) g.R.length g.R.length) g.R.length 3 1 (nums g.R),mkr g.G bm g.l,pt b6 [.slice none 0 0,.int .i64 0] 35]) (fun g => g.m) (⟨24,G0,[],b20,startL low high (popN 24 M + 1)⟩) ?_ ?_ ?_ ?_
 ·exact ⟨Nat.le_refl _,start_bet low high M,Nat.zero_le _,(by show (startL low high (popN 24 M + 1)).length ≤ 25; omega)⟩
 ·exact ⟨rfl,rfl,rfl,rfl,rfl,trivial⟩
 ·rfl
 rintro ⟨m,G,l,b,R⟩ ⟨hm24,hI,hll,hR25⟩
 dsimp only at hm24 hI hll hR25
 show WC _ _ _ _ _ _ _ [(0,.int .u32 (M : Int)),(6,pp b6),(7,pp bm),(9,.slice (some ⟨b,0,none⟩) R.length R.length),(11,.int .i64 ((m : Int) - 1))] [rowc (.slice (some ⟨b,0,none⟩) R.length R.length) R.length 3 1 (nums R),mkr G bm l,pt b6 [.slice none 0 0,.int .i64 0] 35]
 refine jN 9 ?_
 refine WC.cond rfl (fun h39 => ?_) (fun h39 => ?_)
 ·obtain ⟨k,rfl⟩ : ∃ k,m = k + 1 := ⟨m - 1,by (simp at h39; omega)⟩
  have hki : (((k + 1 : Nat) : Int) - 1) = (k : Int) := by omega
  have hd : 24 - (k + 1) < 24 := by omega
  have hk23 : 23 - (24 - (k + 1)) = k := by omega
  have hdk : 24 - (k + 1) + 1 = 24 - k := by omega
  refine jN 11 ?_
  refine WA.say 43 (.int .i64 (k : Int)) (by rw [← hki]; rfl) ?_
  refine jN 1 ?_
  refine WL.bin rfl rfl rfl (fun w => run_shr (by omega) _ _ _ w) ?_
  refine jN 1 ?_
  refine WL.bin rfl rfl rfl (fun w => run_and (b := 1) (Nat.lt_of_le_of_lt (by rw [Nat.shiftRight_eq_div_pow]; exact Nat.div_le_self _ _) hF) (by decide) _ _ _ w) ?_
  refine jN 4 ?_
  refine WC.cond rfl (fun h46 => ?_) (fun h46 => ?_)
  ·have hbf : M.testBit k = false := by
    cases hz : M.testBit k with
    | false => rfl
    | true => exfalso; rw [(bit_odd M k).2 hz] at h46; simp at h46
   have hI2 := hI.skip hd (by rw [hk23]; exact hbf)
   rw [hdk] at hI2
   refine jN 9 ?_
   refine WA.say 41 (.int .i64 ((k : Int) - 1)) (by rw [← hki]; rfl) ?_
   refine jN 3 ?_
   refine WQ.chunks (C' := [rowc (.slice (some ⟨b,0,none⟩) R.length R.length) R.length 3 1 (nums R),mkr G bm l,pt b6 [.slice none 0 0,.int .i64 0] 35]) (fun w hS => (jK hS)) ?_
   refine WQ.back (⟨k,G,l,b,R⟩) ?_ ?_ ?_ ?_
   ·exact ⟨by show k ≤ 24; omega,hI2,by dsimp only; omega,by dsimp only; omega⟩
   ·(show k < k + 1; omega)
   ·exact ⟨rfl,rfl,rfl,rfl,rfl,trivial⟩
   rfl
  have hbt : M.testBit k = true := by
   refine (bit_odd M k).1 ?_
   have h9 : (M >>> k) &&& 1 ≠ 0 := fun e => by (rw [e] at h46; simp at h46)
   have h8 : (M >>> k) &&& 1 < 2 := Nat.lt_of_le_of_lt Nat.and_le_right (by decide)
   omega
  have hbt2 : M.testBit (23 - (24 - (k + 1))) = true := by rw [hk23]; exact hbt
  have hR2 : 2 ≤ R.length := by
   have h9 := hI.len
   rw [show 24 - (24 - (k + 1)) = k + 1 by omega,popN_succ,hbt,if_pos rfl] at h9
   omega
  refine jN 10 ?_
  refine WA.say 49 (.int .i64 (((R.length - 1) : Nat) : Int)) (by rw [show (((R.length - 1) : Nat) : Int) = (R.length : Int) - 1 by omega]; rfl) ?_
  refine jN 1 ?_
  refine WL.makeSlice (n := (R.length - 1)) (e := 3) (z := .int .i64 0) (bytes := 8) F.und41 (by kernel_rfl) rfl rfl rfl rfl (by omega) (by omega) (fun b50 => ?_)
  refine jN 16 ?_
  refine WC.chunks (C' := [rowc (.slice (some ⟨b50,0,none⟩) (R.length - 1) (R.length - 1)) (R.length - 1) 3 1 (nums (padN (R.length - 1) (⟨G,l,[]⟩ : NxtG).S)),mkr (⟨G,l,[]⟩ : NxtG).G bm (⟨G,l,[]⟩ : NxtG).l,rowc (.slice (some ⟨b,0,none⟩) R.length R.length) R.length 3 1 (nums R),pt b6 [.slice none 0 0,.int .i64 0] 35]) (fun w hS => ?_) ?_
  ·have hS1 := St.rowOf (n := (R.length - 1)) (sz := 1) ((St.pick hS (c := pt b50 (List.replicate (R.length - 1) (Value.int .i64 0)) 3) jR)) (by rw [List.length_replicate,Nat.mul_one]) (Nat.le_trans (m := 1000) (by omega) (by decide))
   rw [padN_nums] at hS1
   exact (jK hS1)
  refine WC.facts (M := [(0,.int .u32 (M : Int)),(6,pp b6),(7,pp bm),(9,.slice (some ⟨b,0,none⟩) R.length R.length),(11,.int .i64 (k : Int)),(12,.slice (some ⟨b50,0,none⟩) (R.length - 1) (R.length - 1)),(52,.int .i64 (((R.length - 1) : Nat) : Int)),(53,.int .i64 ((⟨G,l,[]⟩ : NxtG).S.length : Int))]) (by rw [← hki]; exact ⟨rfl,rfl,rfl,rfl,rfl,rfl,rfl,rfl,trivial⟩) ?_
  refine WC.loop (α := NxtG) (fun g => BetN low high M (24 - (k + 1)) g.l R g.S ∧ g.S.length ≤ (R.length - 1) ∧ g.l.length ≤ 24 * (24 - (k + 1)) + g.S.length) (fun g => [(0,.int .u32 (M : Int)),(6,pp b6),(7,pp bm),(9,.slice (some ⟨b,0,none⟩) R.length R.length),(11,.int .i64 (k : Int)),(12,.slice (some ⟨b50,0,none⟩) (R.length - 1) (R.length - 1)),(52,.int .i64 (((R.length - 1) : Nat) : Int)),(53,.int .i64 (g.S.length : Int))]) (fun g => [rowc (.slice (some ⟨b50,0,none⟩) (R.length - 1) (R.length - 1)) (R.length - 1) 3 1 (nums (padN (R.length - 1) g.S)),mkr g.G bm g.l,rowc (.slice (some ⟨b,0,none⟩) R.length R.length) R.length 3 1 (nums R),pt b6 [.slice none 0 0,.int .i64 0] 35]) (fun g => (R.length - 1) - g.S.length) (⟨G,l,[]⟩) ?_ ?_ ?_ ?_
  ·exact ⟨⟨hI,fun j r hj => by simp at hj⟩,Nat.zero_le _,hll⟩
  ·exact ⟨rfl,rfl,rfl,rfl,rfl,rfl,rfl,rfl,trivial⟩
  ·rfl
  rintro ⟨G1,l1,S⟩ ⟨hN,hSl,hl1⟩
  dsimp only at hN hSl hl1
  show WC _ _ _ _ _ _ _ [(0,.int .u32 (M : Int)),(6,pp b6),(7,pp bm),(9,.slice (some ⟨b,0,none⟩) R.length R.length),(11,.int .i64 (k : Int)),(12,.slice (some ⟨b50,0,none⟩) (R.length - 1) (R.length - 1)),(52,.int .i64 (((R.length - 1) : Nat) : Int)),(53,.int .i64 (S.length : Int))] [rowc (.slice (some ⟨b50,0,none⟩) (R.length - 1) (R.length - 1)) (R.length - 1) 3 1 (nums (padN (R.length - 1) S)),mkr G1 bm l1,rowc (.slice (some ⟨b,0,none⟩) R.length R.length) R.length 3 1 (nums R),pt b6 [.slice none 0 0,.int .i64 0] 35]
  refine jN 7 ?_
  refine WC.cond rfl (fun h54 => ?_) (fun h54 => ?_)
  ·have hlt : S.length < (R.length - 1) := by (simp at h54; omega)
   obtain ⟨lo,hlo⟩ : ∃ x,R[S.length]? = some x := ⟨_,List.getElem?_eq_getElem (by omega)⟩
   obtain ⟨hi,hhi⟩ : ∃ x,R[S.length + 1]? = some x := ⟨_,List.getElem?_eq_getElem (by omega)⟩
   have hlo2 := hN.cur.at' _ _ hlo
   have hhi2 := hN.cur.at' _ _ hhi
   refine jN 12 ?_
   refine WC.draws [([13,15],fun w => w.cell? ⟨b,0 + S.length * 1,none⟩ = some (.int .i64 (lo : Int))),([13,15],fun w => w.cell? ⟨b,0 + (S.length + 1) * 1,none⟩ = some (.int .i64 (hi : Int)))] (by kernel_rfl) (fun w hS => facts_cons (by rw [Nat.zero_add,Nat.mul_one]; exact rowc_cell (hS.ok (rowc (.slice (some ⟨b,0,none⟩) R.length R.length) R.length 3 1 (nums R)) jM) (nums_at hlo)) (facts_cons (by rw [Nat.zero_add,Nat.mul_one]; exact rowc_cell (hS.ok (rowc (.slice (some ⟨b,0,none⟩) R.length R.length) R.length 3 1 (nums R)) jM) (nums_at hhi)) (facts_nil))) ?_
   refine jT 0 rfl (Yl.move rfl) ?_
   refine jT 1 rfl (Yl.move rfl) ?_
   refine jT 2 rfl (Yl.move rfl) ?_
   refine jT 3 rfl (Yl.move rfl) ?_
   refine jT 4 rfl (Yl.move rfl) ?_
   refine jT 5 rfl (Yl.move rfl) ?_
   refine jT 6 rfl (Yl.indexAddr (i := S.length) F.sl41 rfl rfl (by omega)) ?_
   refine jF 7 0 rfl rfl (Yl.load1 F.one3 rfl) ?_
   refine jT 8 rfl (Yl.move rfl) ?_
   refine jT 9 rfl (Yl.move rfl) ?_
   refine jT 10 rfl (Yl.add rfl rfl ⟨by omega,by omega⟩) ?_
   refine jT 11 rfl (Yl.indexAddr (i := S.length + 1) F.sl41 rfl rfl (by omega)) ?_
   refine jF 12 1 rfl rfl (Yl.load1 F.one3 rfl) ?_
   refine jA 13 rfl ?_
   refine WL.callC (β := { z : List Nat × List Dec × Nat // MadeN l1 z.2.1 z.2.2 (mkN k (trs l1 lo) (trs l1 hi)) ∧ z.2.1.length ≤ l1.length + 1 }) (res := fun z => .int .i64 (z.1.2.2 : Int)) (cs := fun z => [mkr z.1.1 bm z.1.2.1]) (Cs := [mkr G1 bm l1]) (C1 := [rowc (.slice (some ⟨b50,0,none⟩) (R.length - 1) (R.length - 1)) (R.length - 1) 3 1 (nums (padN (R.length - 1) S)),rowc (.slice (some ⟨b,0,none⟩) R.length R.length) R.length 3 1 (nums R),pt b6 [.slice none 0 0,.int .i64 0] 35]) (O' := G1) F.fun149 (fun d h => by cases h; rfl) rfl (List.Perm.swap _ _ _) bun_O1 bun_O2 (fun w hS hS2 => mnode_c G1 bm l1 k lo hi w (by omega) hN.cur.mkl hlo2.1 hhi2.1 (by omega) hS2) (fun ⟨⟨G2,l2,r2⟩,hm2,hl2⟩ => ?_)
   refine jG ?_
   dsimp only at hm2 hl2 ⊢
   have hN2 := hN.next hd hbt2 hlo hhi (by rw [hk23]; exact hm2)
   refine jT 14 rfl (Yl.indexAddr (i := S.length) F.sl41 rfl rfl hlt) ?_
   refine jA 15 rfl ?_
   refine WL.storeRow1 (xs := nums (padN (R.length - 1) S)) (xs' := nums (padN (R.length - 1) (S ++ [r2]))) F.one3 rfl rfl rfl jU (by rw [Nat.zero_add,Nat.mul_one]; exact nums_setN rfl hlt) ?_
   refine jG ?_
   refine jD ?_
   refine jN 8 ?_
   refine WQ.chunks (C' := [rowc (.slice (some ⟨b50,0,none⟩) (R.length - 1) (R.length - 1)) (R.length - 1) 3 1 (nums (padN (R.length - 1) (⟨G2,l2,S ++ [r2]⟩ : NxtG).S)),mkr (⟨G2,l2,S ++ [r2]⟩ : NxtG).G bm (⟨G2,l2,S ++ [r2]⟩ : NxtG).l,rowc (.slice (some ⟨b,0,none⟩) R.length R.length) R.length 3 1 (nums R),pt b6 [.slice none 0 0,.int .i64 0] 35]) (fun w hS => (jK hS)) ?_
   refine WQ.say 53 (.int .i64 ((S ++ [r2]).length : Int)) (by rw [List.length_append,List.length_singleton]; rfl) ?_
   refine WQ.back (⟨G2,l2,S ++ [r2]⟩) ?_ ?_ ?_ ?_
   ·exact ⟨hN2,by simp only [List.length_append,List.length_singleton]; omega,by simp only [List.length_append,List.length_singleton]; omega⟩
   ·(show (R.length - 1) - (S ++ [r2]).length < (R.length - 1) - S.length; simp only [List.length_append,List.length_singleton]; omega)
   ·exact ⟨rfl,rfl,rfl,rfl,rfl,rfl,rfl,rfl,trivial⟩
   rfl
  have hSe : S.length = (R.length - 1) := by (simp at h54; omega)
  rw [padN_full hSe]
  have hI2 := hN.done hd hbt2 (by omega)
  rw [hdk] at hI2
  rw [← hSe]
  refine jN 18 ?_
  refine WA.say 41 (.int .i64 ((k : Int) - 1)) (by rw [← hki]; rfl) ?_
  refine jN 3 ?_
  refine WQ.chunks (C' := [rowc (.slice (some ⟨b50,0,none⟩) S.length S.length) S.length 3 1 (nums S),mkr G1 bm l1,pt b6 [.slice none 0 0,.int .i64 0] 35]) (fun w hS => (jK hS)) ?_
  refine WQ.back (⟨k,G1,l1,b50,S⟩) ?_ ?_ ?_ ?_
  ·exact ⟨by show k ≤ 24; omega,hI2,by dsimp only; omega,by dsimp only; omega⟩
  ·(show k < k + 1; omega)
  ·exact ⟨rfl,rfl,rfl,rfl,rfl,trivial⟩
  rfl
 have hm0 : m = 0 := by (simp at h39; omega)
 subst hm0
 refine jN 7 ?_
 have hR1 : R.length = 1 := by (have h9 := hI.len; rw [h9]; rfl)
 obtain ⟨r,hr0⟩ : ∃ r,R[0]? = some r := ⟨_,List.getElem?_eq_getElem (by omega)⟩
 obtain ⟨hr1,hr2,hr3⟩ := hI.at' _ _ hr0
 refine jN 5 ?_
 refine WL.indexAddr (i := 0) F.sl41 rfl rfl rfl (by omega) ?_
 refine jN 1 ?_
 refine WL.load1 F.one3 rfl rfl (v := .int .i64 (r : Int)) (fun w hS => by rw [Nat.zero_add,Nat.mul_one]; exact rowc_cell (hS.ok (rowc (.slice (some ⟨b,0,none⟩) R.length R.length) R.length 3 1 (nums R)) jM) (nums_at hr0)) ?_
 refine jN 1 ?_
 refine WL.callC (β := Option Addr × Nat) (res := fun z => dval (trs l r) z.1 z.2) (cs := fun z => [dC z.1 z.2 (trs l r)]) (Cs := [mkr G bm l]) (C1 := [rowc (.slice (some ⟨b,0,none⟩) R.length R.length) R.length 3 1 (nums R),pt b6 [.slice none 0 0,.int .i64 0] 35]) (O' := G) F.fun148 (fun d h => by cases h; rfl) rfl (List.Perm.swap _ _ _) bun_O1 bun_O2 (fun w hS hS2 => done_c G bm l r w hI.mkl hr1 hr2 (by omega) hS2) (fun z3 => ?_)
 refine jN 5 ?_
 refine WQ.ret (rs := [.cell 6 35]) rfl (.cellN F.agg35 rfl jM rfl .nil) (fun w hS => ⟨⟨(trs l r,z3),hr2,fun c => by rw [hr3,Nat.zero_add]⟩,rfl,(jK hS)⟩)
def spans (l : List SpanV) : List Value := l.flatMap fun s => [.int .i64 s.1,.int .i64 s.2.1,.int .i64 (s.2.2 : Int)]
theorem spans_append (l m : List SpanV) : spans (l ++ m) = spans l ++ spans m := by simp [spans]
theorem spans_one (x : SpanV) : spans [x] = [.int .i64 x.1,.int .i64 x.2.1,.int .i64 (x.2.2 : Int)] := by simp [spans]
theorem spans_at : ∀ {l : List SpanV} {k : Nat} {x : SpanV},l[k]? = some x → ∀ j u,[Value.int .i64 x.1,.int .i64 x.2.1,.int .i64 (x.2.2 : Int)][j]? = some u → (spans l)[k * 3 + j]? = some u
 | [],k,x,h,_,_,_ => by simp at h
 | y :: l,0,x,h,j,u,hj => by
  simp only [List.getElem?_cons_zero,Option.some.injEq] at h
  subst h
  have hjl := (List.getElem?_eq_some_iff.1 hj).1
  show ([Value.int .i64 y.1,.int .i64 y.2.1,.int .i64 (y.2.2 : Int)] ++ spans l)[0 * 3 + j]? = _
  rw [Nat.zero_mul,Nat.zero_add,List.getElem?_append_left hjl]
  exact hj
 | y :: l,k + 1,x,h,j,u,hj => by
  simp only [List.getElem?_cons_succ] at h
  have ih := spans_at h j u hj
  show ([Value.int .i64 y.1,.int .i64 y.2.1,.int .i64 (y.2.2 : Int)] ++ spans l)[(k + 1) * 3 + j]? = _
  rw [List.getElem?_append_right (by simp; omega)]
  simp only [List.length_cons,List.length_nil]
  rw [show (k + 1) * 3 + j - (0 + 1 + 1 + 1) = k * 3 + j by omega]
  exact ih
abbrev KRow := Value × List SpanV
def rowOf (x : KRow) : Chunk := rowc x.1 x.2.length 214 3 (spans x.2)
def kRows (KV : List KRow) : Chunk := bun (KV.flatMap fun x => ob x.1) (fun _ : Unit => KV.map rowOf) (fun _ => True)
theorem fpl_rows : ∀ KV : List KRow,FpL (KV.map rowOf) (KV.flatMap fun x => ob x.1)
 | [] => FpL.nil
 | x :: KV => by
  simp only [List.map_cons,List.flatMap_cons]
  exact FpL.cons FpIs.rowc (fpl_rows KV)
theorem erase_perm {α : Type} : ∀ {l : List α} {i : Nat} (h : i < l.length),(l[i] :: l.eraseIdx i).Perm l
 | _ :: _,0,_ => List.Perm.refl _
 | x :: l,i + 1,h => (List.Perm.swap _ _ _).trans ((erase_perm (l := l) (i := i) (Nat.lt_of_succ_lt_succ h)).cons x)
section
variable {w0 : World} {O : List Nat} {C : List Chunk}
theorem St.kOpen {w : World} {KV : List KRow} {i : Nat} {x : KRow} (hx : KV[i]? = some x) (h : St w0 O (kRows KV :: C) w) : St w0 O (rowOf x :: kRows (KV.eraseIdx i) :: C) w := by
 obtain ⟨_,_,_,_,h⟩ := St.bunOpen h
 obtain ⟨hi,rfl⟩ := List.getElem?_eq_some_iff.1 hx
 have hp : (KV.map rowOf).Perm (rowOf KV[i] :: (KV.eraseIdx i).map rowOf) := ((erase_perm hi).map rowOf).symm
 have h2 : St w0 O (rowOf KV[i] :: ((KV.eraseIdx i).map rowOf ++ C)) w := h.perm (hp.append_right C)
 have h3 := St.bunClose' (φ := fun _ => True) (Cs := fun _ : Unit => (KV.eraseIdx i).map rowOf) () trivial (fpl_rows _) (h2.perm List.perm_middle.symm)
 exact h3.perm (List.Perm.swap _ _ _)
theorem St.kClose {w : World} {KV : List KRow} {i : Nat} {y : KRow} (hi : i < KV.length) (h : St w0 O (rowOf y :: kRows (KV.eraseIdx i) :: C) w) : St w0 O (kRows (KV.set i y) :: C) w := by
 obtain ⟨_,_,_,_,h⟩ := St.bunOpen (h.perm (List.Perm.swap _ _ _))
 have hi2 : i < (KV.set i y).length := by rw [List.length_set]; exact hi
 have hp : ((KV.set i y).map rowOf).Perm (rowOf y :: (KV.eraseIdx i).map rowOf) := by
  have := ((erase_perm hi2).map rowOf).symm
  rw [List.eraseIdx_set_eq,List.getElem_set_self] at this
  exact this
 have h2 : St w0 O (rowOf y :: ((KV.eraseIdx i).map rowOf ++ C)) w := h.perm List.perm_middle
 exact St.bunClose' (φ := fun _ => True) (Cs := fun _ : Unit => (KV.set i y).map rowOf) () trivial (fpl_rows _) (h2.perm (hp.append_right C).symm)
end
def linCells (bm : Nat) (Cc : List Int) (ve : Value) (KV : List KRow) : List Value := pp bm :: (Cc.map (Value.int .i64) ++ (ve :: KV.map (fun x => x.1)))
def linCs (bx bm : Nat) (Cc : List Int) (ve : Value) (E : List SpanV) (l : List Dec) (KV : List KRow) (G : List Nat) : List Chunk :=
 [pt bx (linCells bm Cc ve KV) 212,mkr G bm l,rowc ve 3 214 3 (spans E),kRows KV]
def linC (F : List Nat) (bx bm : Nat) (Cc : List Int) (ve : Value) (E : List SpanV) (l : List Dec) (KV : List KRow) : Chunk :=
 bun F (linCs bx bm Cc ve E l KV) (fun _ => True)
abbrev linF (bx : Nat) (ve : Value) (KV : List KRow) (G : List Nat) : List Nat := [bx] ++ (G ++ (ob ve ++ ((KV.flatMap fun x => ob x.1) ++ [])))
theorem St.linClose {w0 w : World} {O : List Nat} {C : List Chunk} {bx bm : Nat} {Cc : List Int} {ve : Value} {E : List SpanV} {l : List Dec} {KV : List KRow} {G : List Nat}
  (h : St w0 O (pt bx (linCells bm Cc ve KV) 212 :: mkr G bm l :: rowc ve 3 214 3 (spans E) :: kRows KV :: C) w) : St w0 O (linC (linF bx ve KV G) bx bm Cc ve E l KV :: C) w :=
 St.bunClose' (φ := fun _ => True) (Cs := linCs bx bm Cc ve E l KV) G trivial (FpL.cons FpIs.pt (FpL.cons FpIs.bun (FpL.cons FpIs.rowc (FpL.cons FpIs.bun FpL.nil)))) h
theorem linCells_cost {bm : Nat} {Cc : List Int} {ve : Value} {KV : List KRow} {i : Nat} {x : Int} (h : Cc[i]? = some x) : (linCells bm Cc ve KV)[1 + i]? = some (.int .i64 x) := by
 have hi := (List.getElem?_eq_some_iff.1 h).1
 unfold linCells
 rw [Nat.add_comm,List.getElem?_cons_succ,List.getElem?_append_left (by simpa using hi),List.getElem?_map,h]
 rfl
theorem linCells_ends {bm : Nat} {Cc : List Int} {ve : Value} {KV : List KRow} (h : Cc.length = 24) : (linCells bm Cc ve KV)[25]? = some ve := by
 unfold linCells
 rw [List.getElem?_cons_succ,List.getElem?_append_right (by simp [h]),List.length_map,h]
 rfl
theorem linCells_known {bm : Nat} {Cc : List Int} {ve : Value} {KV : List KRow} {i : Nat} {x : KRow} (hc : Cc.length = 24) (h : KV[i]? = some x) : (linCells bm Cc ve KV)[26 + i]? = some x.1 := by
 unfold linCells
 rw [show 26 + i = (25 + i) + 1 by omega,List.getElem?_cons_succ,List.getElem?_append_right (by simp [hc]; omega),List.length_map,hc,show 25 + i - 24 = i + 1 by omega,List.getElem?_cons_succ,List.getElem?_map,h]
 rfl
theorem linCells_set {bm : Nat} {Cc : List Int} {ve : Value} {KV : List KRow} {i : Nat} {y : KRow} (hc : Cc.length = 24) : (linCells bm Cc ve KV).set (26 + i) y.1 = linCells bm Cc ve (KV.set i y) := by
 unfold linCells
 rw [show 26 + i = (25 + i) + 1 by omega,List.set_cons_succ,List.set_append_right _ _ (by simp [hc]; omega),List.length_map,hc,show 25 + i - 24 = i + 1 by omega,List.set_cons_succ,List.map_set]
open Go Go.Eng Go.Proofs Dg
theorem arCost : ArT Tryz.prog 208 2 24 1 [.int .i64 0,.int .i64 0,.int .i64 0,.int .i64 0,.int .i64 0,.int .i64 0,.int .i64 0,.int .i64 0,.int .i64 0,.int .i64 0,.int .i64 0,.int .i64 0,.int .i64 0,.int .i64 0,.int .i64 0,.int .i64 0,.int .i64 0,.int .i64 0,.int .i64 0,.int .i64 0,.int .i64 0,.int .i64 0,.int .i64 0,.int .i64 0] := ⟨by kernel_rfl,by kernel_rfl,by kernel_rfl⟩
theorem arKnown : ArT Tryz.prog 210 209 24 1 [.slice none 0 0,.slice none 0 0,.slice none 0 0,.slice none 0 0,.slice none 0 0,.slice none 0 0,.slice none 0 0,.slice none 0 0,.slice none 0 0,.slice none 0 0,.slice none 0 0,.slice none 0 0,.slice none 0 0,.slice none 0 0,.slice none 0 0,.slice none 0 0,.slice none 0 0,.slice none 0 0,.slice none 0 0,.slice none 0 0,.slice none 0 0,.slice none 0 0,.slice none 0 0,.slice none 0 0] := ⟨by kernel_rfl,by kernel_rfl,by kernel_rfl⟩
theorem set_self {α : Type} : ∀ {l : List α} {i : Nat} {x : α},l[i]? = some x → l.set i x = l
 | [],_,_,h => by cases h
 | y :: l,0,x,h => by simp only [List.getElem?_cons_zero,Option.some.injEq] at h; rw [h]; rfl
 | y :: l,i + 1,x,h => by
  simp only [List.getElem?_cons_succ] at h
  rw [List.set_cons_succ,set_self h]
section
variable {w0 : World} {O : List Nat} {C : List Chunk}
theorem St.kBack {w : World} {KV : List KRow} {i : Nat} {x : KRow} (hx : KV[i]? = some x) (h : St w0 O (rowOf x :: kRows (KV.eraseIdx i) :: C) w) : St w0 O (kRows KV :: C) w := by
 have h2 := St.kClose (y := x) (List.getElem?_eq_some_iff.1 hx).1 h
 rwa [set_self hx] at h2
theorem St.kPut {w : World} {KV : List KRow} {i n c : Nat} {a : Option Addr} {ks : List SpanV} {s : SpanV} (hi : i < KV.length) (hn : n = ks.length + 1)
  (h : St w0 O (rowc (.slice a n c) n 214 3 (spans ks ++ [Value.int .i64 s.1,.int .i64 s.2.1,.int .i64 (s.2.2 : Int)]) :: kRows (KV.eraseIdx i) :: C) w) : St w0 O (kRows (KV.set i (.slice a n c,ks ++ [s])) :: C) w := by
 refine St.kClose (y := (.slice a n c,ks ++ [s])) hi ?_
 have e : rowOf (Value.slice a n c,ks ++ [s]) = rowc (.slice a n c) n 214 3 (spans ks ++ [Value.int .i64 s.1,.int .i64 s.2.1,.int .i64 (s.2.2 : Int)]) := by
  unfold rowOf
  rw [spans_append,spans_one,List.length_append,List.length_singleton,← hn]
 rw [e]
 exact h
end
abbrev LinZ := List Nat × List Dec × List KRow × SpanV
structure LinP (C : List Int) (rel : Nat) (b : Int) (m : Nat) (l : List Dec) (i : Nat) (sum : Int) (z : LinZ) : Prop where
 lin : LinOk C rel b (m + (2 ^ (24 - i) - 1)) z.2.1 z.2.2.1
 ext : ExtL l z.2.1
 sp : SpanOk C rel b z.2.1 (24 - i) z.2.2.2
 lo : z.2.2.2.1 ≤ sum
 hi : sum ≤ z.2.2.2.2.1
set_option maxRecDepth 100000 in
theorem from_c (bx bm : Nat) (Cc : List Int) (hCl : Cc.length = 24) (hCo : Cc.all costOk = true) (rel : Nat) (b : Int) (hrel : 1 ≤ rel ∧ rel ≤ 3) (hb : -17592186044416 ≤ b ∧ b ≤ 17592186044416) (ea : Option Addr) (ec : Nat) : ∀ (n i : Nat),i ≤ 24 → 24 - i < n →
  ∀ (Fp : List Nat) (l : List Dec) (KV : List KRow) (m : Nat) (sum : Int) (w : World),LinOk Cc rel b m l KV → m + 2 ^ (24 - i) ≤ 16777216 → (-(2147483648 * (i : Int)) ≤ sum ∧ sum ≤ 2147483648 * (i : Int)) → St w Fp [linC Fp bx bm Cc (.slice ea 3 ec) (endL rel b) l KV] w →
  Calls Tryz.prog 156 [pp bx,.int .i64 (i : Int),.int .i64 sum].toArray w fun e w' => ∃ z : { z : LinZ // LinP Cc rel b m l i sum z },e = .returned (.agg ([Value.int .i64 z.1.2.2.2.1,.int .i64 z.1.2.2.2.2.1,.int .i64 (z.1.2.2.2.2.2 : Int)]).toArray) ∧ St w Fp [linC z.1.1 bx bm Cc (.slice ea 3 ec) (endL rel b) z.1.2.1 z.1.2.2.1] w' := by
 intro n
 induction n with
 | zero => intro i; omega
 | succ n hrec =>
 intro i hi24 hin Fp l KV m sum w hL hm hsum hS0
 obtain ⟨G,_,h1,h2,hS0⟩ := hS0.bunOpen
 simp only [linCs,List.cons_append,List.nil_append] at hS0
 refine enter Tryz.func156 rfl Tryz.ntmps156 rfl (C := [pt bx (linCells bm Cc (.slice ea 3 ec) KV) 212,mkr G bm l,rowc (.slice ea 3 ec) 3 214 3 (spans (endL rel b)),kRows KV]) hS0 ?_
 refine jN 3 ?_
 refine WL.alloc F.zero214 rfl (fun b6 => ?_)
 refine jN 11 ?_
 refine WL.load1 F.one209 rfl rfl (v := (.slice ea 3 ec)) (fun w hS => hS.cell (cs := linCells bm Cc (.slice ea 3 ec) KV) jM (linCells_ends hCl)) ?_
 refine jN 13 ?_
 refine WC.cond rfl (fun h18 => ?_) (fun h18 => ?_)
 ·have hlt : i < 24 := by simp at h18; omega
  obtain ⟨⟨v,ks⟩,hx⟩ : ∃ x,KV[i]? = some x := ⟨_,List.getElem?_eq_getElem (by have := hL.kl; omega)⟩
  obtain ⟨ka,kc,hv⟩ := hL.shape _ (List.mem_of_getElem? hx)
  dsimp only at hv
  subst hv
  have hkm : ks.length ≤ m := hL.km _ (List.mem_of_getElem? hx)
  have hp2 : 2 ^ (24 - i) = 2 ^ (24 - (i + 1)) + 2 ^ (24 - (i + 1)) := by (rw [show 24 - i = (24 - (i + 1)) + 1 by omega,Nat.pow_succ]; omega)
  have hp1 : 0 < 2 ^ (24 - (i + 1)) := Nat.pow_pos (by decide)
  obtain ⟨c,hc⟩ : ∃ c,Cc[i]? = some c := ⟨_,List.getElem?_eq_getElem (by omega)⟩
  have hcg : Cc.getD i 0 = c := by rw [List.getD_eq_getElem?_getD,hc]; rfl
  have hcb : -2147483648 ≤ c ∧ c ≤ 2147483648 := by rw [← hcg]; exact costOk_bd hCo i
  refine jN 10 ?_
  refine WL.indexAddrA (i := i) arKnown rfl rfl rfl hlt ?_
  refine jN 1 ?_
  refine WL.load1 F.one209 rfl rfl (v := .slice ka ks.length kc) (fun w hS => by rw [Nat.mul_one]; exact hS.cell (cs := linCells bm Cc (.slice ea 3 ec) KV) jM (linCells_known hCl hx)) ?_
  refine jN 16 ?_
  refine WC.chunks (C' := [rowc (.slice ka ks.length kc) ks.length 214 3 (spans ks),kRows (KV.eraseIdx i),pt b6 [.int .i64 0,.int .i64 0,.int .i64 0] 214,pt bx (linCells bm Cc (.slice ea 3 ec) KV) 212,mkr G bm l,rowc (.slice ea 3 ec) 3 214 3 (spans (endL rel b))]) (fun w hS => (St.kOpen hx (St.pick (St.pick (St.pick (St.pick (St.pick hS (c := rowc (.slice ea 3 ec) 3 214 3 (spans (endL rel b))) jR) (c := mkr G bm l) jR) (c := pt bx (linCells bm Cc (.slice ea 3 ec) KV) 212) jR) (c := pt b6 [.int .i64 0,.int .i64 0,.int .i64 0] 214) jR) (c := kRows KV) jR)).sublist (List.Sublist.refl _)) ?_
  refine WC.loop (α := Nat) (fun k => k ≤ ks.length) (fun k => [(0,pp bx),(1,.int .i64 (i : Int)),(2,.int .i64 sum),(6,pp b6),(25,.slice ka ks.length kc),(26,.int .i64 (ks.length : Int)),(27,.int .i64 (k : Int))]) (fun _ => [rowc (.slice ka ks.length kc) ks.length 214 3 (spans ks),kRows (KV.eraseIdx i),pt b6 [.int .i64 0,.int .i64 0,.int .i64 0] 214,pt bx (linCells bm Cc (.slice ea 3 ec) KV) 212,mkr G bm l,rowc (.slice ea 3 ec) 3 214 3 (spans (endL rel b))]) (fun k => ks.length - k) (0) ?_ ?_ ?_ ?_
  ·exact Nat.zero_le _
  ·exact ⟨rfl,rfl,rfl,rfl,rfl,rfl,rfl,trivial⟩
  ·rfl
  rintro k hk
  show WC _ _ _ _ _ _ _ [(0,pp bx),(1,.int .i64 (i : Int)),(2,.int .i64 sum),(6,pp b6),(25,.slice ka ks.length kc),(26,.int .i64 (ks.length : Int)),(27,.int .i64 (k : Int))] [rowc (.slice ka ks.length kc) ks.length 214 3 (spans ks),kRows (KV.eraseIdx i),pt b6 [.int .i64 0,.int .i64 0,.int .i64 0] 214,pt bx (linCells bm Cc (.slice ea 3 ec) KV) 212,mkr G bm l,rowc (.slice ea 3 ec) 3 214 3 (spans (endL rel b))]
  refine jN 7 ?_
  refine WC.cond rfl (fun h28 => ?_) (fun h28 => ?_)
  ·have hlt2 : k < ks.length := by simpa using h28
   obtain ⟨s,hs⟩ : ∃ s,ks[k]? = some s := ⟨_,List.getElem?_eq_getElem hlt2⟩
   refine WC.know (φ := ∃ g,ka = some ⟨g,0,none⟩ ∧ ks.length = ks.length ∧ ks.length ≤ kc) (fun w hS => rowc_addr (hS.ok (rowc (.slice ka ks.length kc) ks.length 214 3 (spans ks)) jM) (by omega)) (fun ⟨g,hg,_,_⟩ => ?_)
   subst hg
   have hsk := hL.sp _ _ hx s (List.mem_of_getElem? hs)
   refine jN 7 ?_
   refine WL.indexAddr F.sl209 rfl rfl rfl hlt2 ?_
   refine jN 1 ?_
   refine WL.loadN F.agg214 rfl rfl (vs := [Value.int .i64 s.1,.int .i64 s.2.1,.int .i64 (s.2.2 : Int)]) rfl (fun w hS j u hu => by rw [Nat.zero_add]; exact rowc_cells (hS.ok (rowc (.slice (some ⟨g,0,none⟩) ks.length kc) ks.length 214 3 (spans ks)) jM) (spans_at hs j u hu)) ?_
   refine jN 1 ?_
   refine WL.alloc F.zero214 rfl (fun b9 => ?_)
   refine jN 16 ?_
   refine WA.splitB (i := 35) rfl (fun g35 => ?_) (fun g35 => ?_)
   ·have hs1 : s.1 ≤ sum := by simpa using g35
    refine jN 16 ?_
    refine WC.cond rfl (fun h40 => ?_) (fun h40 => ?_)
    ·have hs2 : sum ≤ s.2.1 := by simpa using h40
     refine jN 14 ?_
     refine WQ.ret (rs := [.cell 6 214]) rfl (.cellN F.agg214 rfl jM rfl .nil) (fun w hS => ?_)
     have hS1 := St.kBack hx (St.pick (St.pick hS (c := kRows (KV.eraseIdx i)) jR) (c := rowc (.slice (some ⟨g,0,none⟩) ks.length kc) ks.length 214 3 (spans ks)) jR)
     exact ⟨⟨(_,l,KV,s),⟨hL.mono (Nat.le_add_right _ _),ExtL.refl _,hsk,hs1,hs2⟩⟩,rfl,St.linClose (jK hS1)⟩
    have hs2 : ¬ sum ≤ s.2.1 := by simpa using h40
    refine jN 9 ?_
    refine WQ.chunks (C' := [rowc (.slice (some ⟨g,0,none⟩) ks.length kc) ks.length 214 3 (spans ks),kRows (KV.eraseIdx i),pt b6 [.int .i64 0,.int .i64 0,.int .i64 0] 214,pt bx (linCells bm Cc (.slice ea 3 ec) KV) 212,mkr G bm l,rowc (.slice ea 3 ec) 3 214 3 (spans (endL rel b))]) (fun w hS => (jK hS)) ?_
    refine WQ.back (k + 1) ?_ ?_ ?_ ?_
    ·exact by (show k + 1 ≤ ks.length; omega)
    ·(show ks.length - (k + 1) < ks.length - k; omega)
    ·exact ⟨rfl,rfl,rfl,rfl,rfl,rfl,rfl,trivial⟩
    rfl
   have hs1 : ¬ s.1 ≤ sum := by simpa using g35
   refine jN 22 ?_
   refine WQ.chunks (C' := [rowc (.slice (some ⟨g,0,none⟩) ks.length kc) ks.length 214 3 (spans ks),kRows (KV.eraseIdx i),pt b6 [.int .i64 0,.int .i64 0,.int .i64 0] 214,pt bx (linCells bm Cc (.slice ea 3 ec) KV) 212,mkr G bm l,rowc (.slice ea 3 ec) 3 214 3 (spans (endL rel b))]) (fun w hS => (jK hS)) ?_
   refine WQ.back (k + 1) ?_ ?_ ?_ ?_
   ·exact by (show k + 1 ≤ ks.length; omega)
   ·(show ks.length - (k + 1) < ks.length - k; omega)
   ·exact ⟨rfl,rfl,rfl,rfl,rfl,rfl,rfl,trivial⟩
   rfl
  refine jN 7 ?_
  refine WA.chunksE (C' := fun F1 => [linC F1 bx bm Cc (.slice ea 3 ec) (endL rel b) l KV,pt b6 [.int .i64 0,.int .i64 0,.int .i64 0] 214]) (fun w hS => ?_) (fun F1 => ?_)
  ·have hS1 := St.kBack hx (St.pick (St.pick hS (c := kRows (KV.eraseIdx i)) jR) (c := rowc (.slice ka ks.length kc) ks.length 214 3 (spans ks)) jR)
   exact ⟨_,St.linClose (jK hS1)⟩
  refine jN 6 ?_
  refine WA.say 45 (.int .i64 ((i + 1 : Nat) : Int)) rfl ?_
  refine jN 3 ?_
  refine WL.callC (β := { z : LinZ // LinP Cc rel b (m) l (i + 1) (sum) z }) (res := fun z => .agg ([Value.int .i64 z.1.2.2.2.1,.int .i64 z.1.2.2.2.2.1,.int .i64 (z.1.2.2.2.2.2 : Int)]).toArray) (cs := fun z => [linC z.1.1 bx bm Cc (.slice ea 3 ec) (endL rel b) z.1.2.1 z.1.2.2.1]) (Cs := [linC F1 bx bm Cc (.slice ea 3 ec) (endL rel b) l KV]) (C1 := [pt b6 [.int .i64 0,.int .i64 0,.int .i64 0] 214]) (O' := F1) F.fun156 (fun d h => by cases h; rfl) rfl (List.Perm.refl _) bun_O1 bun_O2 (fun w hS hS2 => hrec (i + 1) (by omega) (by omega) F1 l KV (m) (sum) w hL (by omega) ⟨by omega,by omega⟩ hS2) (fun ⟨z1,hz1⟩ => ?_)
  obtain ⟨F2,l2,KV2,s1⟩ := z1
  obtain ⟨j1,j2,j3,j4,j5⟩ := hz1
  dsimp only at j1 j2 j3 j4 j5 ⊢
  refine jN 1 ?_
  refine WL.alloc F.zero214 rfl (fun b10 => ?_)
  refine jN 2 ?_
  refine WA.chunks (C' := [linC F2 bx bm Cc (.slice ea 3 ec) (endL rel b) l2 KV2,pt b10 [Value.int .i64 s1.1,.int .i64 s1.2.1,.int .i64 (s1.2.2 : Int)] 214,pt b6 [.int .i64 0,.int .i64 0,.int .i64 0] 214]) (fun w hS => (jK hS)) ?_
  refine jN 4 ?_
  refine WA.openB (fun G2 _ _ _ => ?_)
  simp only [linCs,List.cons_append,List.nil_append]
  refine jN 6 ?_
  refine WA.say 50 (.int .i64 ((i + 1 : Nat) : Int)) rfl ?_
  refine jN 11 ?_
  refine WL.indexAddrA (i := i) arCost rfl rfl rfl hlt ?_
  refine jN 1 ?_
  refine WL.load1 F.one2 rfl rfl (v := .int .i64 c) (fun w hS => by rw [Nat.mul_one]; exact hS.cell (cs := linCells bm Cc (.slice ea 3 ec) KV2) jM (linCells_cost hc)) ?_
  refine jN 2 ?_
  refine WA.chunksE (C' := fun F3 => [linC F3 bx bm Cc (.slice ea 3 ec) (endL rel b) l2 KV2,pt b10 [Value.int .i64 s1.1,.int .i64 s1.2.1,.int .i64 (s1.2.2 : Int)] 214,pt b6 [.int .i64 0,.int .i64 0,.int .i64 0] 214]) (fun w hS => ?_) (fun F3 => ?_)
  ·exact ⟨_,St.linClose (jK hS)⟩
  refine jN 1 ?_
  refine WL.callC (β := { z : LinZ // LinP Cc rel b (m + (2 ^ (24 - (i + 1)) - 1)) l2 (i + 1) (sum + c) z }) (res := fun z => .agg ([Value.int .i64 z.1.2.2.2.1,.int .i64 z.1.2.2.2.2.1,.int .i64 (z.1.2.2.2.2.2 : Int)]).toArray) (cs := fun z => [linC z.1.1 bx bm Cc (.slice ea 3 ec) (endL rel b) z.1.2.1 z.1.2.2.1]) (Cs := [linC F3 bx bm Cc (.slice ea 3 ec) (endL rel b) l2 KV2]) (C1 := [pt b10 [Value.int .i64 s1.1,.int .i64 s1.2.1,.int .i64 (s1.2.2 : Int)] 214,pt b6 [.int .i64 0,.int .i64 0,.int .i64 0] 214]) (O' := F3) F.fun156 (fun d h => by cases h; rfl) rfl (List.Perm.refl _) bun_O1 bun_O2 (fun w hS hS2 => hrec (i + 1) (by omega) (by omega) F3 l2 KV2 (m + (2 ^ (24 - (i + 1)) - 1)) (sum + c) w j1 (by omega) ⟨by omega,by omega⟩ hS2) (fun ⟨z2,hz2⟩ => ?_)
  obtain ⟨F4,l3,KV3,s2⟩ := z2
  obtain ⟨k1,k2,k3,k4,k5⟩ := hz2
  dsimp only at k1 k2 k3 k4 k5 ⊢
  refine jN 1 ?_
  refine WL.alloc F.zero214 rfl (fun b11 => ?_)
  refine jN 2 ?_
  refine WA.chunks (C' := [linC F4 bx bm Cc (.slice ea 3 ec) (endL rel b) l3 KV3,pt b11 [Value.int .i64 s2.1,.int .i64 s2.2.1,.int .i64 (s2.2.2 : Int)] 214,pt b10 [Value.int .i64 s1.1,.int .i64 s1.2.1,.int .i64 (s1.2.2 : Int)] 214,pt b6 [.int .i64 0,.int .i64 0,.int .i64 0] 214]) (fun w hS => (jK hS)) ?_
  refine WA.openB (fun G4 _ _ _ => ?_)
  simp only [linCs,List.cons_append,List.nil_append]
  have j3x := j3.ext k2
  have e1 := j3.lo
  have e2 := j3.hi
  have e3 := k3.lo
  have e4 := k3.hi
  have hll3 := k1.ll
  refine jN 3 ?_
  refine WC.drawsL (by kernel_rfl) (FactsOk.cons (ds := [36]) (LoadOk.one (t := 10) (off := 0) rfl jM rfl) (FactsOk.cons (ds := [36]) (LoadOk.one (t := 11) (off := 0) rfl jM rfl) (FactsOk.cons (ds := [36]) (LoadOk.by (Y := fun w => w.cell? ⟨bx,1 + i * 1,none⟩ = some (.int .i64 c)) (fun w hS => by rw [Nat.mul_one]; exact hS.cell (cs := linCells bm Cc (.slice ea 3 ec) KV3) jM (linCells_cost hc))) (FactsOk.cons (ds := [36]) (LoadOk.one (t := 10) (off := 1) rfl jM rfl) (FactsOk.cons (ds := [36]) (LoadOk.one (t := 11) (off := 1) rfl jM rfl) (FactsOk.cons (ds := [36]) (LoadOk.by (Y := fun w => w.cell? ⟨bx,1 + i * 1,none⟩ = some (.int .i64 c)) (fun w hS => by rw [Nat.mul_one]; exact hS.cell (cs := linCells bm Cc (.slice ea 3 ec) KV3) jM (linCells_cost hc))) (FactsOk.cons (ds := [33,36]) (LoadOk.one (t := 0) (off := 0) rfl jM rfl) (FactsOk.cons (ds := [33,36]) (LoadOk.one (t := 10) (off := 2) rfl jM rfl) (FactsOk.cons (ds := [33,36]) (LoadOk.one (t := 11) (off := 2) rfl jM rfl) (FactsOk.nil)))))))))) ?_
  refine jT 0 rfl (Yl.fieldAddr0 F.fld214_0 rfl) ?_
  refine jF 1 0 rfl rfl (Yl.load1 F.one2 rfl) ?_
  refine jT 2 rfl (Yl.fieldAddr0 F.fld214_0 rfl) ?_
  refine jF 3 1 rfl rfl (Yl.load1 F.one2 rfl) ?_
  refine jT 4 rfl (Yl.move rfl) ?_
  refine jT 5 rfl (Yl.move rfl) ?_
  refine jT 6 rfl (Yl.nilCheck rfl) ?_
  refine jT 7 rfl (Yl.fieldAddr0 F.fld212_1 rfl) ?_
  refine jT 8 rfl (Yl.indexAddrA (i := i) arCost rfl rfl hlt) ?_
  refine jF 9 2 rfl rfl (Yl.load1 F.one2 rfl) ?_
  refine jT 10 rfl (Yl.sub rfl rfl ⟨by omega,by omega⟩) ?_
  refine jT 11 rfl (Yl.maxI rfl rfl) ?_
  refine jT 12 rfl (Yl.fieldAddr0 F.fld214_1 rfl) ?_
  refine jF 13 3 rfl rfl (Yl.load1 F.one2 rfl) ?_
  refine jT 14 rfl (Yl.fieldAddr0 F.fld214_1 rfl) ?_
  refine jF 15 4 rfl rfl (Yl.load1 F.one2 rfl) ?_
  refine jT 16 rfl (Yl.move rfl) ?_
  refine jT 17 rfl (Yl.move rfl) ?_
  refine jT 18 rfl (Yl.nilCheck rfl) ?_
  refine jT 19 rfl (Yl.fieldAddr0 F.fld212_1 rfl) ?_
  refine jT 20 rfl (Yl.indexAddrA (i := i) arCost rfl rfl hlt) ?_
  refine jF 21 5 rfl rfl (Yl.load1 F.one2 rfl) ?_
  refine jT 22 rfl (Yl.sub rfl rfl ⟨by omega,by omega⟩) ?_
  refine jT 23 rfl (Yl.minI rfl rfl rfl) ?_
  refine jT 24 rfl (Yl.move rfl) ?_
  refine jT 25 rfl (Yl.nilCheck rfl) ?_
  refine jT 26 rfl (Yl.fieldAddr0 F.fld212_0 rfl) ?_
  refine jF 27 6 rfl rfl (Yl.load1 F.one200 rfl) ?_
  refine jT 28 rfl (Yl.move rfl) ?_
  refine jT 29 rfl (Yl.fieldAddr0 F.fld214_2 rfl) ?_
  refine jF 30 7 rfl rfl (Yl.load1 F.one3 rfl) ?_
  refine jT 31 rfl (Yl.fieldAddr0 F.fld214_2 rfl) ?_
  refine jF 32 8 rfl rfl (Yl.load1 F.one3 rfl) ?_
  refine WD.two (i := 33) (j := 35) (by decide +kernel) rfl rfl ?_ ?_
  refine WL.callC (β := { z : List Nat × List Dec × Nat // MadeN l3 z.2.1 z.2.2 (mkN i (trs l3 s1.2.2) (trs l3 s2.2.2)) ∧ z.2.1.length ≤ l3.length + 1 }) (res := fun z => .int .i64 (z.1.2.2 : Int)) (cs := fun z => [mkr z.1.1 bm z.1.2.1]) (Cs := [mkr G4 bm l3]) (C1 := [pt bx (linCells bm Cc (.slice ea 3 ec) KV3) 212,rowc (.slice ea 3 ec) 3 214 3 (spans (endL rel b)),kRows KV3,pt b11 [Value.int .i64 s2.1,.int .i64 s2.2.1,.int .i64 (s2.2.2 : Int)] 214,pt b10 [Value.int .i64 s1.1,.int .i64 s1.2.1,.int .i64 (s1.2.2 : Int)] 214,pt b6 [.int .i64 0,.int .i64 0,.int .i64 0] 214]) (O' := G4) F.fun149 (fun d h => by cases h; rfl) rfl (List.Perm.swap _ _ _) bun_O1 bun_O2 (fun w hS hS2 => mnode_c G4 bm l3 i s1.2.2 s2.2.2 w hlt k1.mks j3x.lt k3.lt (by omega) hS2) (fun ⟨⟨G5,l4,p4⟩,hm4,hl4⟩ => ?_)
  refine WD.on (closed_of (by decide +kernel)) (fun w hS => Sx.keep (hS.cell jM rfl) (Sx.keep (hS.cell jM rfl) (Sx.keep (by rw [Nat.mul_one]; exact hS.cell (cs := linCells bm Cc (.slice ea 3 ec) KV3) jM (linCells_cost hc)) (Sx.keep (hS.cell jM rfl) (Sx.keep (hS.cell jM rfl) (Sx.keep (by rw [Nat.mul_one]; exact hS.cell (cs := linCells bm Cc (.slice ea 3 ec) KV3) jM (linCells_cost hc)) (Sx.gone rfl (Sx.gone rfl (Sx.gone rfl (Sx.none)))))))))) ?_
  dsimp only at hm4 hl4 ⊢
  have hq := SpanOk.new (x := c) (sum := sum) (p := p4) j3x k3 (by omega) (by rw [show 23 - (24 - (i + 1)) = i by omega]; exact hcg) ⟨j4,j5⟩ ⟨k4,k5⟩ (by rw [show 23 - (24 - (i + 1)) = i by omega]; exact hm4) (lo := ((if s2.1 - c > s1.1 then s2.1 - c else s1.1),(if s2.2.1 - c < s1.2.1 then s2.2.1 - c else s1.2.1),p4).1) (hi := ((if s2.1 - c > s1.1 then s2.1 - c else s1.1),(if s2.2.1 - c < s1.2.1 then s2.2.1 - c else s1.2.1),p4).2.1) (by dsimp only; split <;> omega) (by dsimp only; split <;> omega)
  rw [show 24 - (i + 1) + 1 = 24 - i by omega] at hq
  refine jT 34 rfl (Yl.build F.stT214 rfl jB) ?_
  refine jA 35 rfl ?_
  refine WL.alloc F.zero214 rfl (fun b12 => ?_)
  refine WD.on (closed_of (by decide +kernel)) (fun w hS => Sx.keep (hS.cell jM rfl) (Sx.keep (hS.cell jM rfl) (Sx.keep (by rw [Nat.mul_one]; exact hS.cell (cs := linCells bm Cc (.slice ea 3 ec) KV3) jM (linCells_cost hc)) (Sx.keep (hS.cell jM rfl) (Sx.keep (hS.cell jM rfl) (Sx.keep (by rw [Nat.mul_one]; exact hS.cell (cs := linCells bm Cc (.slice ea 3 ec) KV3) jM (linCells_cost hc)) (Sx.gone rfl (Sx.gone rfl (Sx.gone rfl (Sx.none)))))))))) ?_
  rotate_left
  refine WL.alloc F.zero214 rfl (fun b12 => ?_)
  refine WD.on (closed_of (by decide +kernel)) (fun w hS => Sx.keep (hS.cell jM rfl) (Sx.keep (hS.cell jM rfl) (Sx.keep (by rw [Nat.mul_one]; exact hS.cell (cs := linCells bm Cc (.slice ea 3 ec) KV3) jM (linCells_cost hc)) (Sx.keep (hS.cell jM rfl) (Sx.keep (hS.cell jM rfl) (Sx.keep (by rw [Nat.mul_one]; exact hS.cell (cs := linCells bm Cc (.slice ea 3 ec) KV3) jM (linCells_cost hc)) (Sx.keep (hS.cell jM rfl) (Sx.keep (hS.cell jM rfl) (Sx.keep (hS.cell jM rfl) (Sx.none)))))))))) ?_
  refine jA 33 rfl ?_
  refine WL.callC (β := { z : List Nat × List Dec × Nat // MadeN l3 z.2.1 z.2.2 (mkN i (trs l3 s1.2.2) (trs l3 s2.2.2)) ∧ z.2.1.length ≤ l3.length + 1 }) (res := fun z => .int .i64 (z.1.2.2 : Int)) (cs := fun z => [mkr z.1.1 bm z.1.2.1]) (Cs := [mkr G4 bm l3]) (C1 := [pt b12 [.int .i64 0,.int .i64 0,.int .i64 0] 214,pt bx (linCells bm Cc (.slice ea 3 ec) KV3) 212,rowc (.slice ea 3 ec) 3 214 3 (spans (endL rel b)),kRows KV3,pt b11 [Value.int .i64 s2.1,.int .i64 s2.2.1,.int .i64 (s2.2.2 : Int)] 214,pt b10 [Value.int .i64 s1.1,.int .i64 s1.2.1,.int .i64 (s1.2.2 : Int)] 214,pt b6 [.int .i64 0,.int .i64 0,.int .i64 0] 214]) (O' := G4) F.fun149 (fun d h => by cases h; rfl) rfl (((List.Perm.swap _ _ _).cons _).trans (List.Perm.swap _ _ _)) bun_O1 bun_O2 (fun w hS hS2 => mnode_c G4 bm l3 i s1.2.2 s2.2.2 w hlt k1.mks j3x.lt k3.lt (by omega) hS2) (fun ⟨⟨G5,l4,p4⟩,hm4,hl4⟩ => ?_)
  refine WD.on (closed_of (by decide +kernel)) (fun w hS => Sx.keep (hS.cell jM rfl) (Sx.keep (hS.cell jM rfl) (Sx.keep (by rw [Nat.mul_one]; exact hS.cell (cs := linCells bm Cc (.slice ea 3 ec) KV3) jM (linCells_cost hc)) (Sx.keep (hS.cell jM rfl) (Sx.keep (hS.cell jM rfl) (Sx.keep (by rw [Nat.mul_one]; exact hS.cell (cs := linCells bm Cc (.slice ea 3 ec) KV3) jM (linCells_cost hc)) (Sx.gone rfl (Sx.gone rfl (Sx.gone rfl (Sx.none)))))))))) ?_
  dsimp only at hm4 hl4 ⊢
  have hq := SpanOk.new (x := c) (sum := sum) (p := p4) j3x k3 (by omega) (by rw [show 23 - (24 - (i + 1)) = i by omega]; exact hcg) ⟨j4,j5⟩ ⟨k4,k5⟩ (by rw [show 23 - (24 - (i + 1)) = i by omega]; exact hm4) (lo := ((if s2.1 - c > s1.1 then s2.1 - c else s1.1),(if s2.2.1 - c < s1.2.1 then s2.2.1 - c else s1.2.1),p4).1) (hi := ((if s2.1 - c > s1.1 then s2.1 - c else s1.1),(if s2.2.1 - c < s1.2.1 then s2.2.1 - c else s1.2.1),p4).2.1) (by dsimp only; split <;> omega) (by dsimp only; split <;> omega)
  rw [show 24 - (i + 1) + 1 = 24 - i by omega] at hq
  refine jT 34 rfl (Yl.build F.stT214 rfl jB) ?_
  rotate_left
  all_goals
   refine jA 36 rfl ?_
   refine WL.storeN F.agg214 rfl rfl rfl jO jU jS ?_
   refine jG ?_
   refine jD ?_
   refine jN 2 ?_
   obtain ⟨sn,hsn⟩ : ∃ s : SpanV,s = ((if s2.1 - c > s1.1 then s2.1 - c else s1.1),(if s2.2.1 - c < s1.2.1 then s2.2.1 - c else s1.2.1),p4) := ⟨_,rfl⟩
   rw [← hsn] at hq
   obtain ⟨hq1,hq2,hq3⟩ := hq
   have q1 : ((if s2.1 - c > s1.1 then s2.1 - c else s1.1),(if s2.2.1 - c < s1.2.1 then s2.2.1 - c else s1.2.1),p4).1 = sn.1 := by rw [hsn]
   have q2 : ((if s2.1 - c > s1.1 then s2.1 - c else s1.1),(if s2.2.1 - c < s1.2.1 then s2.2.1 - c else s1.2.1),p4).2.1 = sn.2.1 := by rw [hsn]
   have q3 : p4 = sn.2.2 := by rw [hsn]
   dsimp only at q1 q2
   rw [q1,q2,q3]
   obtain ⟨⟨v3,ks3⟩,hx3⟩ : ∃ x,KV3[i]? = some x := ⟨_,List.getElem?_eq_getElem (by have := k1.kl; omega)⟩
   obtain ⟨ka3,kc3,hv3⟩ := k1.shape _ (List.mem_of_getElem? hx3)
   dsimp only at hv3
   subst hv3
   have hkm3 : ks3.length ≤ _ := k1.km _ (List.mem_of_getElem? hx3)
   refine WC.chunks (C' := [rowc (.slice ka3 ks3.length kc3) ks3.length 214 3 (spans ks3),kRows (KV3.eraseIdx i),pt b12 [Value.int .i64 sn.1,.int .i64 sn.2.1,.int .i64 (sn.2.2 : Int)] 214,pt bx (linCells bm Cc (.slice ea 3 ec) KV3) 212,mkr G5 bm l4,rowc (.slice ea 3 ec) 3 214 3 (spans (endL rel b)),pt b6 [.int .i64 0,.int .i64 0,.int .i64 0] 214]) (fun w hS => St.kOpen hx3 (jK hS)) ?_
   refine WC.drawsL (by kernel_rfl) (FactsOk.cons (ds := [10,14]) (LoadOk.by (Y := fun w => w.cell? ⟨bx,26 + i * 1,none⟩ = some (.slice ka3 ks3.length kc3)) (fun w hS => by rw [Nat.mul_one]; exact hS.cell (cs := linCells bm Cc (.slice ea 3 ec) KV3) jM (linCells_known hCl hx3))) (FactsOk.cons (ds := [9,10,14]) (LoadOk.whole (t := 12) rfl jM) (FactsOk.nil))) ?_
   refine jT 0 rfl (Yl.move rfl) ?_
   refine jT 1 rfl (Yl.move rfl) ?_
   refine jT 2 rfl (Yl.move rfl) ?_
   refine jT 3 rfl (Yl.move rfl) ?_
   refine jT 4 rfl (Yl.nilCheck rfl) ?_
   refine jT 5 rfl (Yl.fieldAddr0 F.fld212_3 rfl) ?_
   refine jT 6 rfl (Yl.indexAddrA (i := i) arKnown rfl rfl hlt) ?_
   refine jF 7 0 rfl rfl (Yl.load1 F.one209 rfl) ?_
   refine jF 8 1 rfl rfl (Yl.loadN F.agg214 rfl rfl) ?_
   refine jT 11 rfl (Yl.nilCheck rfl) ?_
   refine jT 12 rfl (Yl.fieldAddr0 F.fld212_3 rfl) ?_
   refine jA 9 rfl ?_
   refine WL.buildSlice F.sl209 F.ez209 rfl rfl rfl rfl jB rfl (fun b104 => ?_)
   refine WD.on (closed_of (by decide +kernel)) (fun w hS => Sx.keep (by rw [Nat.mul_one]; exact hS.cell (cs := linCells bm Cc (.slice ea 3 ec) KV3) jM (linCells_known hCl hx3)) (Sx.gone rfl (Sx.none))) ?_
   refine jA 10 rfl ?_
   refine WL.appendE (news := [Value.int .i64 sn.1,.int .i64 sn.2.1,.int .i64 (sn.2.2 : Int)]) F.el209 rfl rfl rfl jR (fun w hS jj u hu => by rw [Nat.zero_add]; exact hS.cell (cs := [Value.int .i64 sn.1,.int .i64 sn.2.1,.int .i64 (sn.2.2 : Int)]) jM hu) rfl jO (Nat.le_trans (m := 67108864) (by omega) (by decide)) (by omega) (fun a4 c4 => ?_)
   refine jG ?_
   refine jT 13 rfl (Yl.indexAddrA (i := i) arKnown rfl rfl hlt) ?_
   refine jA 14 rfl ?_
   have linset : SetN (linCells bm Cc (.slice ea 3 ec) KV3) (26 + i * 1) [.slice a4 (ks3.length + 1) c4] (linCells bm Cc (.slice ea 3 ec) (KV3.set i (.slice a4 (ks3.length + 1) c4,ks3 ++ [sn]))) := by
    have h7 := setN_set (linCells bm Cc (.slice ea 3 ec) KV3) (26 + i) (.slice a4 (ks3.length + 1) c4) (List.getElem?_eq_some_iff.1 (linCells_known hCl hx3)).1
    rw [linCells_set (y := (.slice a4 (ks3.length + 1) c4,ks3 ++ [sn])) hCl] at h7
    rw [Nat.mul_one]; exact h7
   refine WL.store1 (cs := linCells bm Cc (.slice ea 3 ec) KV3) (cs' := linCells bm Cc (.slice ea 3 ec) (KV3.set i (.slice a4 (ks3.length + 1) c4,ks3 ++ [sn]))) F.one209 rfl rfl rfl jU linset ?_
   refine jG ?_
   refine jD ?_
   refine jN 10 ?_
   refine WQ.ret (rs := [.cell 6 214]) rfl (.cellN F.agg214 rfl jM rfl .nil) (fun w hS => ?_)
   have hS1 := St.kPut (KV := KV3) (i := i) (ks := ks3) (a := a4) (c := c4) (s := sn) (n := ks3.length + 1) (by have := k1.kl; omega) rfl (St.pick (St.pick hS (c := kRows (KV3.eraseIdx i)) jR) (c := rowc (.slice a4 (ks3.length + 1) c4) (ks3.length + 1) 214 3 (spans ks3 ++ [Value.int .i64 sn.1,.int .i64 sn.2.1,.int .i64 (sn.2.2 : Int)])) jR)
   have hlk := (k1.node hm4 hl4).snoc (d := 24 - (i + 1)) (v2 := .slice a4 (ks3.length + 1) c4) (by omega) (by rw [show 23 - (24 - (i + 1)) = i by omega]; exact hx3) hkm3 (by rw [show 24 - (i + 1) + 1 = 24 - i by omega]; exact hq1) ⟨_,_,rfl⟩
   rw [show 23 - (24 - (i + 1)) = i by omega] at hlk
   exact ⟨⟨(_,l4,_,sn),⟨hlk.mono (by omega),(j2.trans k2).trans (ExtL.made hm4),hq1,hq2,hq3⟩⟩,rfl,St.linClose (jK hS1)⟩
 have hie : i = 24 := by simp at h18; omega
 subst hie
 refine jN 14 ?_
 refine WC.chunks (C' := [pt b6 [.int .i64 0,.int .i64 0,.int .i64 0] 214,pt bx (linCells bm Cc (.slice ea 3 ec) KV) 212,mkr G bm l,rowc (.slice ea 3 ec) 3 214 3 (spans (endL rel b)),kRows KV]) (fun w hS => (jK hS)) ?_
 refine WC.loop (α := Nat) (fun k => k ≤ 3 ∧ ∀ j s,j < k → (endL rel b)[j]? = some s → ¬ (s.1 ≤ sum ∧ sum ≤ s.2.1)) (fun k => [(0,pp bx),(2,.int .i64 sum),(6,pp b6),(25,(.slice ea 3 ec)),(26,.int .i64 3),(27,.int .i64 (k : Int))]) (fun _ => [pt b6 [.int .i64 0,.int .i64 0,.int .i64 0] 214,pt bx (linCells bm Cc (.slice ea 3 ec) KV) 212,mkr G bm l,rowc (.slice ea 3 ec) 3 214 3 (spans (endL rel b)),kRows KV]) (fun k => 3 - k) (0) ?_ ?_ ?_ ?_
 ·exact ⟨Nat.zero_le _,fun j s hj => by omega⟩
 ·exact ⟨rfl,rfl,rfl,rfl,rfl,rfl,trivial⟩
 ·rfl
 rintro k ⟨hk,hno⟩
 show WC _ _ _ _ _ _ _ [(0,pp bx),(2,.int .i64 sum),(6,pp b6),(25,(.slice ea 3 ec)),(26,.int .i64 3),(27,.int .i64 (k : Int))] [pt b6 [.int .i64 0,.int .i64 0,.int .i64 0] 214,pt bx (linCells bm Cc (.slice ea 3 ec) KV) 212,mkr G bm l,rowc (.slice ea 3 ec) 3 214 3 (spans (endL rel b)),kRows KV]
 refine jN 7 ?_
 refine WC.cond rfl (fun h28 => ?_) (fun h28 => ?_)
 ·have hlt2 : k < 3 := by (simp at h28; omega)
  obtain ⟨s,hs⟩ : ∃ s,(endL rel b)[k]? = some s := ⟨_,List.getElem?_eq_getElem hlt2⟩
  refine WC.know (φ := ∃ g,ea = some ⟨g,0,none⟩ ∧ 3 = 3 ∧ 3 ≤ ec) (fun w hS => rowc_addr (hS.ok (rowc (.slice ea 3 ec) 3 214 3 (spans (endL rel b))) jM) (by omega)) (fun ⟨g,hg,_,_⟩ => ?_)
  subst hg
  refine jN 7 ?_
  refine WL.indexAddr F.sl209 rfl rfl rfl hlt2 ?_
  refine jN 1 ?_
  refine WL.loadN F.agg214 rfl rfl (vs := [Value.int .i64 s.1,.int .i64 s.2.1,.int .i64 (s.2.2 : Int)]) rfl (fun w hS j u hu => by rw [Nat.zero_add]; exact rowc_cells (hS.ok (rowc (.slice (some ⟨g,0,none⟩) 3 ec) 3 214 3 (spans (endL rel b))) jM) (spans_at hs j u hu)) ?_
  refine jN 1 ?_
  refine WL.alloc F.zero214 rfl (fun b9 => ?_)
  refine jN 16 ?_
  refine WA.splitB (i := 35) rfl (fun g35 => ?_) (fun g35 => ?_)
  ·have hs1 : s.1 ≤ sum := by simpa using g35
   refine jN 16 ?_
   refine WC.cond rfl (fun h40 => ?_) (fun h40 => ?_)
   ·have hs2 : sum ≤ s.2.1 := by simpa using h40
    refine jN 14 ?_
    refine WQ.ret (rs := [.cell 6 214]) rfl (.cellN F.agg214 rfl jM rfl .nil) (fun w hS => ?_)
    exact ⟨⟨(_,l,KV,s),⟨hL.mono (Nat.le_add_right _ _),ExtL.refl _,endL_ok hrel hb s (List.mem_of_getElem? hs),hs1,hs2⟩⟩,rfl,St.linClose (jK hS)⟩
   have hs2 : ¬ sum ≤ s.2.1 := by simpa using h40
   refine jN 9 ?_
   refine WQ.chunks (C' := [pt b6 [.int .i64 0,.int .i64 0,.int .i64 0] 214,pt bx (linCells bm Cc (.slice (some ⟨g,0,none⟩) 3 ec) KV) 212,mkr G bm l,rowc (.slice (some ⟨g,0,none⟩) 3 ec) 3 214 3 (spans (endL rel b)),kRows KV]) (fun w hS => (jK hS)) ?_
   have hno2 : ∀ j s,j < k + 1 → (endL rel b)[j]? = some s → ¬ (s.1 ≤ sum ∧ sum ≤ s.2.1) := fun j s2 hj hj2 => by
    rcases Nat.lt_or_ge j k with h | h
    ·exact hno j s2 h hj2
    ·have e : j = k := by omega
     subst e
     rw [hs] at hj2
     cases hj2
     exact fun h => hs2 h.2
   refine WQ.back (k + 1) ?_ ?_ ?_ ?_
   ·exact ⟨by omega,hno2⟩
   ·(show 3 - (k + 1) < 3 - k; omega)
   ·exact ⟨rfl,rfl,rfl,rfl,rfl,rfl,trivial⟩
   rfl
  have hs1 : ¬ s.1 ≤ sum := by simpa using g35
  refine jN 22 ?_
  refine WQ.chunks (C' := [pt b6 [.int .i64 0,.int .i64 0,.int .i64 0] 214,pt bx (linCells bm Cc (.slice (some ⟨g,0,none⟩) 3 ec) KV) 212,mkr G bm l,rowc (.slice (some ⟨g,0,none⟩) 3 ec) 3 214 3 (spans (endL rel b)),kRows KV]) (fun w hS => (jK hS)) ?_
  have hno2 : ∀ j s,j < k + 1 → (endL rel b)[j]? = some s → ¬ (s.1 ≤ sum ∧ sum ≤ s.2.1) := fun j s2 hj hj2 => by
   rcases Nat.lt_or_ge j k with h | h
   ·exact hno j s2 h hj2
   ·have e : j = k := by omega
    subst e
    rw [hs] at hj2
    cases hj2
    exact fun h => hs1 h.1
  refine WQ.back (k + 1) ?_ ?_ ?_ ?_
  ·exact ⟨by omega,hno2⟩
  ·(show 3 - (k + 1) < 3 - k; omega)
  ·exact ⟨rfl,rfl,rfl,rfl,rfl,rfl,trivial⟩
  rfl
 exfalso
 have hke : k = 3 := by (simp at h28; omega)
 subst hke
 obtain ⟨s,hs,hs2⟩ := endL_hit (rel := rel) (b := b) (sum := sum) ⟨by omega,by omega⟩
 obtain ⟨j,hj⟩ := List.getElem?_of_mem hs
 exact hno j s (List.getElem?_eq_some_iff.1 hj).1 hj hs2
open Go Go.Eng Go.Proofs Dg
def padI (l : List Int) : List Int := l ++ List.replicate (24 - l.length) 0
theorem padI_len {l : List Int} (h : l.length ≤ 24) : (padI l).length = 24 := by
 unfold padI; rw [List.length_append,List.length_replicate]; omega
theorem padI_get (l : List Int) (j : Nat) : (padI l).getD j 0 = l.getD j 0 := by
 unfold padI
 rw [List.getD_eq_getElem?_getD,List.getD_eq_getElem?_getD]
 by_cases h : j < l.length
 ·rw [List.getElem?_append_left h]
 rw [List.getElem?_append_right (by omega),List.getElem?_replicate,List.getElem?_eq_none (show l.length ≤ j by omega)]
 split <;> rfl
theorem padI_ok {l : List Int} (h : l.all costOk = true) : (padI l).all costOk = true := by
 unfold padI
 rw [List.all_append,h,Bool.true_and,List.all_eq_true]
 intro x hx
 rw [List.eq_of_mem_replicate hx]
 decide
theorem tailN_pad (l : List Int) (cf : Cf) : ∀ d : Nat,tailN (padI l) cf d = tailN l cf d
 | 0 => rfl
 | d + 1 => by rw [tailN,tailN,tailN_pad l cf d,padI_get]
abbrev KV0 : List KRow := List.replicate 24 (.slice none 0 0,[])
theorem lin_copy {l : List Int} (h : l.length ≤ 24) (bm : Nat) (KV : List KRow) : (linCells bm (List.replicate 24 0) (.slice none 0 0) KV).take 1 ++ l.map (Value.int .i64) ++ (linCells bm (List.replicate 24 0) (.slice none 0 0) KV).drop (1 + l.length) = linCells bm (padI l) (.slice none 0 0) KV := by
 unfold linCells padI
 rw [List.take_succ_cons,List.take_zero,Nat.add_comm,List.drop_succ_cons,List.drop_append_of_le_length (by simpa using h),List.map_append,List.map_replicate,List.map_replicate,List.drop_replicate]
 simp
theorem lin_ends {C : List Int} (h : C.length = 24) (bm : Nat) (v v' : Value) (KV : List KRow) : SetN (linCells bm C v KV) 25 [v'] (linCells bm C v' KV) := by
 have h7 := setN_set (linCells bm C v KV) 25 v' (by unfold linCells; simp [h]; omega)
 have e : (linCells bm C v KV).set 25 v' = linCells bm C v' KV := by
  unfold linCells
  rw [List.set_cons_succ,List.set_append_right _ _ (by simp [h]),List.length_map,h]
  rfl
 rwa [e] at h7
theorem lin_start (C : List Int) (rel : Nat) (b : Int) : LinOk C rel b 0 [] KV0 := by
 refine ⟨Mk.nil,rfl,fun x hx => ?_,fun i x hx s hs => ?_,Nat.le_refl _,fun x hx => ?_⟩
 ·rw [List.eq_of_mem_replicate hx]; exact ⟨_,_,rfl⟩
 ·rw [List.eq_of_mem_replicate (List.mem_of_getElem? hx)] at hs; cases hs
 rw [List.eq_of_mem_replicate hx]; exact Nat.zero_le _
theorem St.kNils {w0 w : World} {O : List Nat} {C : List Chunk} : ∀ n : Nat,St w0 O C w → St w0 O ((List.replicate n ((.slice none 0 0,[]) : KRow)).map rowOf ++ C) w
 | 0,h => h
 | n + 1,h => (St.kNils n h).rowNil 214 3
theorem St.kStart {w0 w : World} {O : List Nat} {C : List Chunk} (h : St w0 O C w) : St w0 O (kRows KV0 :: C) w :=
 St.bunClose' (φ := fun _ => True) (Cs := fun _ : Unit => KV0.map rowOf) () trivial (fpl_rows _) (St.kNils 24 h)
theorem linC_mk {F : List Nat} {bx bm : Nat} {Cc : List Int} {ve : Value} {E : List SpanV} {l : List Dec} {KV : List KRow} {w : World} (h : (linC F bx bm Cc ve E l KV).ok w) : w.cell? ⟨bx,0,none⟩ = some (pp bm) := by
 obtain ⟨G,_,h3,_⟩ := h
 have h5 : w.heap[bx]? = some (.cells (linCells bm Cc ve KV).toArray 212 (0,0)) := h3 (pt bx (linCells bm Cc ve KV) 212) (by simp [linCs])
 simp [World.cell?,h5,linCells]
theorem linear_ev {l : List Int} {rel : Nat} {bound : Int} (hok : l.all costOk = true) (hrel : 1 ≤ rel ∧ rel ≤ 3) (cf : Cf) : relB rel (0 + tailN (padI l) cf 24) (clampB bound) = relB rel (tailN l cf 24) bound := by
 have h1 := tailN_bd hok cf 24
 rw [Int.zero_add,tailN_pad,relB_clamp hrel ⟨by omega,by omega⟩]
set_option maxRecDepth 100000 in
theorem Linear_1 (l : List Int) (bound : Int) (hv : costsB l = true) (hll : l.length ≤ 1099511627776) (hbd : -9223372036854775808 ≤ bound ∧ bound < 9223372036854775808) (a : Option Addr) (c : Nat) (w : World) (hr : RdC w l a) :
  Calls Tryz.prog 112 [.slice a l.length c,.int .u8 1,.int .i64 bound].toArray w fun e w' => ∃ z : DRes (fun cf => relB 1 (tailN l cf 24) bound),e = .returned (.tuple #[z.v,.int .i64 0]) ∧ St w [] [z.ch] w' := by
 have hv9 := hv
 unfold costsB at hv9
 rw [Bool.and_eq_true,decide_eq_true_eq] at hv9
 obtain ⟨hok,hl24⟩ := hv9
 refine enter Tryz.func112 rfl Tryz.ntmps112 rfl (St.init _) ?_
 refine jN 3 ?_
 refine WL.alloc F.zero35 rfl (fun b6 => ?_)
 refine jN 10 ?_
 refine WL.callV F.fun155 rfl rfl (fun w hS => lvalid_c l a c hll w (hr.next hS)) ?_
 rw [hv]
 refine jN 4 ?_
 refine WA.splitB (i := 13) rfl (fun g13 => ?_) (fun g13 => ?_)
 ·cases g13
 refine jN 9 ?_
 refine WA.splitB (i := 16) rfl (fun g16 => ?_) (fun g16 => ?_)
 ·cases g16
 refine jN 29 ?_
 refine WL.maxI (r := max bound (-17592186044416)) rfl rfl rfl (by split <;> omega) ?_
 refine jN 1 ?_
 refine WL.minI (r := clampB bound) rfl rfl rfl (by unfold clampB; split <;> omega) ?_
 refine jN 2 ?_
 have hcb := clampB_bd bound
 refine jN 5 ?_
 refine WL.buildA F.arT206 rfl jB rfl ?_
 refine jN 1 ?_
 refine WL.alloc F.zero206 rfl (fun b8 => ?_)
 refine jN 23 ?_
 refine WL.buildA F.arT206 rfl jB rfl ?_
 refine jN 8 ?_
 refine jC (β := List Nat × Nat) (res := fun x => pp x.2) (cs := fun x => [mkr x.1 x.2 []]) F.fun147 rfl (fun w hS _ => newMaker_c w) (fun ⟨G0,bm⟩ => ?_)
 refine jN 3 ?_
 refine WL.boxN rfl rfl (fun b40 => ?_)
 refine jN 6 ?_
 refine WA.chunks (C' := [pt b40 (linCells bm (List.replicate 24 0) (.slice none 0 0) KV0) 212,mkr G0 bm [],pt b8 [.int .i64 1,.int .i64 1,.int .i64 0] 206,pt b6 [.slice none 0 0,.int .i64 0] 35]) (fun w hS => (jK hS)) ?_
 refine jN 7 ?_
 refine WL.sliceArr arCost rfl rfl ?_
 refine jN 3 ?_
 refine WL.copyPt (o := 1) (cs := linCells bm (List.replicate 24 0) (.slice none 0 0) KV0) (vs := l.map (Value.int .i64)) F.und90 (by kernel_rfl) rfl rfl rfl (by rw [List.length_map]; exact (Nat.min_eq_left hl24).symm) (fun w hS j v hj => ?_) (by rw [List.length_map]; unfold linCells; simp; omega) (fun v hv => ?_) jU ?_
 ·rw [List.getElem?_map] at hj
  cases hq : l[j]? with
  | none => rw [hq] at hj; cases hj
  | some x =>
   rw [hq] at hj
   cases hj
   obtain ⟨b9,off9,e1,e2⟩ := hr j x hq
   exact ⟨b9,off9,e1,hS.oldc e2 (by simp)⟩
 ·obtain ⟨x,_,rfl⟩ := List.mem_map.1 hv
  rfl
 rw [List.length_map,lin_copy hl24]
 refine jN 11 ?_
 refine WL.indexAddrA (i := 0) F.arT206 rfl rfl rfl (by decide) ?_
 refine jN 9 ?_
 refine WL.indexAddrA (i := 1) F.arT206 rfl rfl rfl (by decide) ?_
 refine jN 9 ?_
 refine WL.indexAddrA (i := 2) F.arT206 rfl rfl rfl (by decide) ?_
 refine jN 5 ?_
 refine WL.buildSlice F.sl209 F.ez209 rfl rfl rfl rfl jB rfl (fun b63 => ?_)
 refine jN 5 ?_
 refine WL.store1 (cs := linCells bm (padI l) (.slice none 0 0) KV0) (cs' := linCells bm (padI l) (.slice (some ⟨b63,0,none⟩) 3 3) KV0) F.one209 rfl rfl rfl jU (lin_ends (padI_len hl24) bm _ _ KV0) ?_
 refine jN 3 ?_
 refine WC.chunks (C' := [pt b40 (linCells bm (padI l) (.slice (some ⟨b63,0,none⟩) 3 3) KV0) 212,mkr G0 bm [],rowc (.slice (some ⟨b63,0,none⟩) 3 3) 3 214 3 (spans (endL 1 (clampB bound))),kRows KV0,pt b6 [.slice none 0 0,.int .i64 0] 35]) (fun w hS => ?_) ?_
 ·have hS1 := St.kStart (St.rowOf (n := 3) (sz := 3) ((St.pick hS (c := pt b63 [Value.int .i64 (-35184372088832),.int .i64 (clampB bound - 1),.int .i64 1,.int .i64 (clampB bound),.int .i64 (clampB bound),.int .i64 1,.int .i64 (clampB bound + 1),.int .i64 35184372088832,.int .i64 0] 214) jR)) rfl (by decide))
  exact (jK hS1)
 refine WC.draws [([7,8],fun w => w.cell? ⟨b40,0,none⟩ = some (pp bm))] (by kernel_rfl) (fun w hS => facts_cons (hS.cell (cs := linCells bm (padI l) (.slice (some ⟨b63,0,none⟩) 3 3) KV0) jM rfl) (facts_nil)) ?_
 refine jT 0 rfl (Yl.move rfl) ?_
 refine jT 1 rfl (Yl.nilCheck rfl) ?_
 refine jT 2 rfl (Yl.fieldAddr0 F.fld212_0 rfl) ?_
 refine jF 3 0 rfl rfl (Yl.load1 F.one200 rfl) ?_
 refine jT 4 rfl (Yl.move rfl) ?_
 refine jA 5 rfl ?_
 refine WA.chunksE (C' := fun F1 => [linC F1 b40 bm (padI l) (.slice (some ⟨b63,0,none⟩) 3 3) (endL 1 (clampB bound)) [] KV0,pt b6 [.slice none 0 0,.int .i64 0] 35]) (fun w hS => ?_) (fun F1 => ?_)
 ·exact ⟨_,St.linClose (jK hS)⟩
 refine WL.callC (β := { z : LinZ // LinP (padI l) 1 (clampB bound) 0 [] 0 0 z }) (res := fun z => .agg ([Value.int .i64 z.1.2.2.2.1,.int .i64 z.1.2.2.2.2.1,.int .i64 (z.1.2.2.2.2.2 : Int)]).toArray) (cs := fun z => [linC z.1.1 b40 bm (padI l) (.slice (some ⟨b63,0,none⟩) 3 3) (endL 1 (clampB bound)) z.1.2.1 z.1.2.2.1]) (Cs := [linC F1 b40 bm (padI l) (.slice (some ⟨b63,0,none⟩) 3 3) (endL 1 (clampB bound)) [] KV0]) (C1 := [pt b6 [.slice none 0 0,.int .i64 0] 35]) (O' := F1) F.fun156 (fun d h => by cases h; rfl) rfl (List.Perm.refl _) bun_O1 bun_O2 (fun w hS hS2 => from_c b40 bm (padI l) (padI_len hl24) (padI_ok hok) 1 (clampB bound) ⟨by decide,by decide⟩ hcb (some ⟨b63,0,none⟩) 3 25 0 (by omega) (by omega) F1 [] KV0 0 0 w (lin_start _ _ _) (by decide) ⟨by omega,by omega⟩ hS2) (fun ⟨z1,hz1⟩ => ?_)
 obtain ⟨F2,l2,KV2,s1⟩ := z1
 obtain ⟨j1,j2,j3,j4,j5⟩ := hz1
 dsimp only at j1 j2 j3 j4 j5 ⊢
 rw [show (24 - 0 : Nat) = 24 from rfl] at j3
 refine WD.on (closed_of (by kernel_rfl)) (fun w hS => Sx.keep (linC_mk (hS.ok (linC F2 b40 bm (padI l) (.slice (some ⟨b63,0,none⟩) 3 3) (endL 1 (clampB bound)) l2 KV2) (List.mem_cons_self ..))) (Sx.none)) ?_
 skip
 refine jT 6 rfl (Yl.field1 (ft := 3) (off := 2) (by kernel_rfl) F.one3 rfl rfl) ?_
 refine jA 7 rfl ?_
 refine WA.openB (fun G2 _ _ _ => ?_)
 simp only [linCs,List.cons_append,List.nil_append]
 refine WL.callC (β := Option Addr × Nat) (res := fun z => dval (trs l2 s1.2.2) z.1 z.2) (cs := fun z => [dC z.1 z.2 (trs l2 s1.2.2)]) (Cs := [mkr G2 bm l2]) (C1 := [pt b40 (linCells bm (padI l) (.slice (some ⟨b63,0,none⟩) 3 3) KV2) 212,rowc (.slice (some ⟨b63,0,none⟩) 3 3) 3 214 3 (spans (endL 1 (clampB bound))),kRows KV2,pt b6 [.slice none 0 0,.int .i64 0] 35]) (O' := G2) F.fun148 (fun d h => by cases h; rfl) rfl (List.Perm.swap _ _ _) bun_O1 bun_O2 (fun w hS hS2 => done_c G2 bm l2 s1.2.2 w j1.mks j3.lt j3.ok (by have := j1.ll; omega) hS2) (fun z3 => ?_)
 refine jG ?_
 refine jA 8 rfl ?_
 refine WL.storeN F.agg35 rfl rfl rfl jO jU jS ?_
 refine jG ?_
 refine jT 9 rfl (Yl.assign rfl) ?_
 refine jD ?_
 refine jN 2 ?_
 refine WQ.ret (rs := [.cell 6 35,.tmp 7]) rfl (.cellN F.agg35 rfl jM rfl (.tmp rfl .nil)) (fun w hS => ⟨⟨(trs l2 s1.2.2,z3),j3.ok,fun cf => ?_⟩,rfl,(jK hS)⟩)
 rw [j3.ev 0 j4 j5]
 exact linear_ev hok ⟨by decide,by decide⟩ cf
set_option maxRecDepth 100000 in
theorem Linear_2 (l : List Int) (bound : Int) (hv : costsB l = true) (hll : l.length ≤ 1099511627776) (hbd : -9223372036854775808 ≤ bound ∧ bound < 9223372036854775808) (a : Option Addr) (c : Nat) (w : World) (hr : RdC w l a) :
  Calls Tryz.prog 112 [.slice a l.length c,.int .u8 2,.int .i64 bound].toArray w fun e w' => ∃ z : DRes (fun cf => relB 2 (tailN l cf 24) bound),e = .returned (.tuple #[z.v,.int .i64 0]) ∧ St w [] [z.ch] w' := by
 have hv9 := hv
 unfold costsB at hv9
 rw [Bool.and_eq_true,decide_eq_true_eq] at hv9
 obtain ⟨hok,hl24⟩ := hv9
 refine enter Tryz.func112 rfl Tryz.ntmps112 rfl (St.init _) ?_
 refine jN 3 ?_
 refine WL.alloc F.zero35 rfl (fun b6 => ?_)
 refine jN 10 ?_
 refine WL.callV F.fun155 rfl rfl (fun w hS => lvalid_c l a c hll w (hr.next hS)) ?_
 rw [hv]
 refine jN 4 ?_
 refine WA.splitB (i := 13) rfl (fun g13 => ?_) (fun g13 => ?_)
 ·cases g13
 refine jN 9 ?_
 refine WA.splitB (i := 16) rfl (fun g16 => ?_) (fun g16 => ?_)
 ·refine jN 12 ?_
  refine WA.splitB (i := 20) rfl (fun g20 => ?_) (fun g20 => ?_)
  ·cases g20
  refine jN 19 ?_
  refine WL.maxI (r := max bound (-17592186044416)) rfl rfl rfl (by split <;> omega) ?_
  refine jN 1 ?_
  refine WL.minI (r := clampB bound) rfl rfl rfl (by unfold clampB; split <;> omega) ?_
  refine jN 2 ?_
  have hcb := clampB_bd bound
  refine jN 5 ?_
  refine WL.buildA F.arT206 rfl jB rfl ?_
  refine jN 1 ?_
  refine WL.alloc F.zero206 rfl (fun b8 => ?_)
  refine jN 32 ?_
  refine WL.buildA F.arT206 rfl jB rfl ?_
  refine jN 8 ?_
  refine jC (β := List Nat × Nat) (res := fun x => pp x.2) (cs := fun x => [mkr x.1 x.2 []]) F.fun147 rfl (fun w hS _ => newMaker_c w) (fun ⟨G0,bm⟩ => ?_)
  refine jN 3 ?_
  refine WL.boxN rfl rfl (fun b40 => ?_)
  refine jN 6 ?_
  refine WA.chunks (C' := [pt b40 (linCells bm (List.replicate 24 0) (.slice none 0 0) KV0) 212,mkr G0 bm [],pt b8 [.int .i64 0,.int .i64 1,.int .i64 1] 206,pt b6 [.slice none 0 0,.int .i64 0] 35]) (fun w hS => (jK hS)) ?_
  refine jN 7 ?_
  refine WL.sliceArr arCost rfl rfl ?_
  refine jN 3 ?_
  refine WL.copyPt (o := 1) (cs := linCells bm (List.replicate 24 0) (.slice none 0 0) KV0) (vs := l.map (Value.int .i64)) F.und90 (by kernel_rfl) rfl rfl rfl (by rw [List.length_map]; exact (Nat.min_eq_left hl24).symm) (fun w hS j v hj => ?_) (by rw [List.length_map]; unfold linCells; simp; omega) (fun v hv => ?_) jU ?_
  ·rw [List.getElem?_map] at hj
   cases hq : l[j]? with
   | none => rw [hq] at hj; cases hj
   | some x =>
    rw [hq] at hj
    cases hj
    obtain ⟨b9,off9,e1,e2⟩ := hr j x hq
    exact ⟨b9,off9,e1,hS.oldc e2 (by simp)⟩
  ·obtain ⟨x,_,rfl⟩ := List.mem_map.1 hv
   rfl
  rw [List.length_map,lin_copy hl24]
  refine jN 11 ?_
  refine WL.indexAddrA (i := 0) F.arT206 rfl rfl rfl (by decide) ?_
  refine jN 9 ?_
  refine WL.indexAddrA (i := 1) F.arT206 rfl rfl rfl (by decide) ?_
  refine jN 9 ?_
  refine WL.indexAddrA (i := 2) F.arT206 rfl rfl rfl (by decide) ?_
  refine jN 5 ?_
  refine WL.buildSlice F.sl209 F.ez209 rfl rfl rfl rfl jB rfl (fun b63 => ?_)
  refine jN 5 ?_
  refine WL.store1 (cs := linCells bm (padI l) (.slice none 0 0) KV0) (cs' := linCells bm (padI l) (.slice (some ⟨b63,0,none⟩) 3 3) KV0) F.one209 rfl rfl rfl jU (lin_ends (padI_len hl24) bm _ _ KV0) ?_
  refine jN 3 ?_
  refine WC.chunks (C' := [pt b40 (linCells bm (padI l) (.slice (some ⟨b63,0,none⟩) 3 3) KV0) 212,mkr G0 bm [],rowc (.slice (some ⟨b63,0,none⟩) 3 3) 3 214 3 (spans (endL 2 (clampB bound))),kRows KV0,pt b6 [.slice none 0 0,.int .i64 0] 35]) (fun w hS => ?_) ?_
  ·have hS1 := St.kStart (St.rowOf (n := 3) (sz := 3) ((St.pick hS (c := pt b63 [Value.int .i64 (-35184372088832),.int .i64 (clampB bound - 1),.int .i64 0,.int .i64 (clampB bound),.int .i64 (clampB bound),.int .i64 1,.int .i64 (clampB bound + 1),.int .i64 35184372088832,.int .i64 1] 214) jR)) rfl (by decide))
   exact (jK hS1)
  refine WC.draws [([7,8],fun w => w.cell? ⟨b40,0,none⟩ = some (pp bm))] (by kernel_rfl) (fun w hS => facts_cons (hS.cell (cs := linCells bm (padI l) (.slice (some ⟨b63,0,none⟩) 3 3) KV0) jM rfl) (facts_nil)) ?_
  refine jT 0 rfl (Yl.move rfl) ?_
  refine jT 1 rfl (Yl.nilCheck rfl) ?_
  refine jT 2 rfl (Yl.fieldAddr0 F.fld212_0 rfl) ?_
  refine jF 3 0 rfl rfl (Yl.load1 F.one200 rfl) ?_
  refine jT 4 rfl (Yl.move rfl) ?_
  refine jA 5 rfl ?_
  refine WA.chunksE (C' := fun F1 => [linC F1 b40 bm (padI l) (.slice (some ⟨b63,0,none⟩) 3 3) (endL 2 (clampB bound)) [] KV0,pt b6 [.slice none 0 0,.int .i64 0] 35]) (fun w hS => ?_) (fun F1 => ?_)
  ·exact ⟨_,St.linClose (jK hS)⟩
  refine WL.callC (β := { z : LinZ // LinP (padI l) 2 (clampB bound) 0 [] 0 0 z }) (res := fun z => .agg ([Value.int .i64 z.1.2.2.2.1,.int .i64 z.1.2.2.2.2.1,.int .i64 (z.1.2.2.2.2.2 : Int)]).toArray) (cs := fun z => [linC z.1.1 b40 bm (padI l) (.slice (some ⟨b63,0,none⟩) 3 3) (endL 2 (clampB bound)) z.1.2.1 z.1.2.2.1]) (Cs := [linC F1 b40 bm (padI l) (.slice (some ⟨b63,0,none⟩) 3 3) (endL 2 (clampB bound)) [] KV0]) (C1 := [pt b6 [.slice none 0 0,.int .i64 0] 35]) (O' := F1) F.fun156 (fun d h => by cases h; rfl) rfl (List.Perm.refl _) bun_O1 bun_O2 (fun w hS hS2 => from_c b40 bm (padI l) (padI_len hl24) (padI_ok hok) 2 (clampB bound) ⟨by decide,by decide⟩ hcb (some ⟨b63,0,none⟩) 3 25 0 (by omega) (by omega) F1 [] KV0 0 0 w (lin_start _ _ _) (by decide) ⟨by omega,by omega⟩ hS2) (fun ⟨z1,hz1⟩ => ?_)
  obtain ⟨F2,l2,KV2,s1⟩ := z1
  obtain ⟨j1,j2,j3,j4,j5⟩ := hz1
  dsimp only at j1 j2 j3 j4 j5 ⊢
  rw [show (24 - 0 : Nat) = 24 from rfl] at j3
  refine WD.on (closed_of (by kernel_rfl)) (fun w hS => Sx.keep (linC_mk (hS.ok (linC F2 b40 bm (padI l) (.slice (some ⟨b63,0,none⟩) 3 3) (endL 2 (clampB bound)) l2 KV2) (List.mem_cons_self ..))) (Sx.none)) ?_
  skip
  refine jT 6 rfl (Yl.field1 (ft := 3) (off := 2) (by kernel_rfl) F.one3 rfl rfl) ?_
  refine jA 7 rfl ?_
  refine WA.openB (fun G2 _ _ _ => ?_)
  simp only [linCs,List.cons_append,List.nil_append]
  refine WL.callC (β := Option Addr × Nat) (res := fun z => dval (trs l2 s1.2.2) z.1 z.2) (cs := fun z => [dC z.1 z.2 (trs l2 s1.2.2)]) (Cs := [mkr G2 bm l2]) (C1 := [pt b40 (linCells bm (padI l) (.slice (some ⟨b63,0,none⟩) 3 3) KV2) 212,rowc (.slice (some ⟨b63,0,none⟩) 3 3) 3 214 3 (spans (endL 2 (clampB bound))),kRows KV2,pt b6 [.slice none 0 0,.int .i64 0] 35]) (O' := G2) F.fun148 (fun d h => by cases h; rfl) rfl (List.Perm.swap _ _ _) bun_O1 bun_O2 (fun w hS hS2 => done_c G2 bm l2 s1.2.2 w j1.mks j3.lt j3.ok (by have := j1.ll; omega) hS2) (fun z3 => ?_)
  refine jG ?_
  refine jA 8 rfl ?_
  refine WL.storeN F.agg35 rfl rfl rfl jO jU jS ?_
  refine jG ?_
  refine jT 9 rfl (Yl.assign rfl) ?_
  refine jD ?_
  refine jN 2 ?_
  refine WQ.ret (rs := [.cell 6 35,.tmp 7]) rfl (.cellN F.agg35 rfl jM rfl (.tmp rfl .nil)) (fun w hS => ⟨⟨(trs l2 s1.2.2,z3),j3.ok,fun cf => ?_⟩,rfl,(jK hS)⟩)
  rw [j3.ev 0 j4 j5]
  exact linear_ev hok ⟨by decide,by decide⟩ cf
 cases g16
set_option maxRecDepth 100000 in
theorem Linear_3 (l : List Int) (bound : Int) (hv : costsB l = true) (hll : l.length ≤ 1099511627776) (hbd : -9223372036854775808 ≤ bound ∧ bound < 9223372036854775808) (a : Option Addr) (c : Nat) (w : World) (hr : RdC w l a) :
  Calls Tryz.prog 112 [.slice a l.length c,.int .u8 3,.int .i64 bound].toArray w fun e w' => ∃ z : DRes (fun cf => relB 3 (tailN l cf 24) bound),e = .returned (.tuple #[z.v,.int .i64 0]) ∧ St w [] [z.ch] w' := by
 have hv9 := hv
 unfold costsB at hv9
 rw [Bool.and_eq_true,decide_eq_true_eq] at hv9
 obtain ⟨hok,hl24⟩ := hv9
 refine enter Tryz.func112 rfl Tryz.ntmps112 rfl (St.init _) ?_
 refine jN 3 ?_
 refine WL.alloc F.zero35 rfl (fun b6 => ?_)
 refine jN 10 ?_
 refine WL.callV F.fun155 rfl rfl (fun w hS => lvalid_c l a c hll w (hr.next hS)) ?_
 rw [hv]
 refine jN 4 ?_
 refine WA.splitB (i := 13) rfl (fun g13 => ?_) (fun g13 => ?_)
 ·cases g13
 refine jN 9 ?_
 refine WA.splitB (i := 16) rfl (fun g16 => ?_) (fun g16 => ?_)
 ·refine jN 12 ?_
  refine WA.splitB (i := 20) rfl (fun g20 => ?_) (fun g20 => ?_)
  ·refine jN 13 ?_
   refine WC.cond rfl (fun h24 => ?_) (fun h24 => ?_)
   ·cases h24
   refine jN 7 ?_
   refine WL.maxI (r := max bound (-17592186044416)) rfl rfl rfl (by split <;> omega) ?_
   refine jN 1 ?_
   refine WL.minI (r := clampB bound) rfl rfl rfl (by unfold clampB; split <;> omega) ?_
   refine jN 2 ?_
   have hcb := clampB_bd bound
   refine jN 5 ?_
   refine WL.buildA F.arT206 rfl jB rfl ?_
   refine jN 1 ?_
   refine WL.alloc F.zero206 rfl (fun b8 => ?_)
   refine jN 32 ?_
   refine WL.buildA F.arT206 rfl jB rfl ?_
   refine jN 8 ?_
   refine jC (β := List Nat × Nat) (res := fun x => pp x.2) (cs := fun x => [mkr x.1 x.2 []]) F.fun147 rfl (fun w hS _ => newMaker_c w) (fun ⟨G0,bm⟩ => ?_)
   refine jN 3 ?_
   refine WL.boxN rfl rfl (fun b40 => ?_)
   refine jN 6 ?_
   refine WA.chunks (C' := [pt b40 (linCells bm (List.replicate 24 0) (.slice none 0 0) KV0) 212,mkr G0 bm [],pt b8 [.int .i64 0,.int .i64 1,.int .i64 0] 206,pt b6 [.slice none 0 0,.int .i64 0] 35]) (fun w hS => (jK hS)) ?_
   refine jN 7 ?_
   refine WL.sliceArr arCost rfl rfl ?_
   refine jN 3 ?_
   refine WL.copyPt (o := 1) (cs := linCells bm (List.replicate 24 0) (.slice none 0 0) KV0) (vs := l.map (Value.int .i64)) F.und90 (by kernel_rfl) rfl rfl rfl (by rw [List.length_map]; exact (Nat.min_eq_left hl24).symm) (fun w hS j v hj => ?_) (by rw [List.length_map]; unfold linCells; simp; omega) (fun v hv => ?_) jU ?_
   ·rw [List.getElem?_map] at hj
    cases hq : l[j]? with
    | none => rw [hq] at hj; cases hj
    | some x =>
     rw [hq] at hj
     cases hj
     obtain ⟨b9,off9,e1,e2⟩ := hr j x hq
     exact ⟨b9,off9,e1,hS.oldc e2 (by simp)⟩
   ·obtain ⟨x,_,rfl⟩ := List.mem_map.1 hv
    rfl
   rw [List.length_map,lin_copy hl24]
   refine jN 11 ?_
   refine WL.indexAddrA (i := 0) F.arT206 rfl rfl rfl (by decide) ?_
   refine jN 9 ?_
   refine WL.indexAddrA (i := 1) F.arT206 rfl rfl rfl (by decide) ?_
   refine jN 9 ?_
   refine WL.indexAddrA (i := 2) F.arT206 rfl rfl rfl (by decide) ?_
   refine jN 5 ?_
   refine WL.buildSlice F.sl209 F.ez209 rfl rfl rfl rfl jB rfl (fun b63 => ?_)
   refine jN 5 ?_
   refine WL.store1 (cs := linCells bm (padI l) (.slice none 0 0) KV0) (cs' := linCells bm (padI l) (.slice (some ⟨b63,0,none⟩) 3 3) KV0) F.one209 rfl rfl rfl jU (lin_ends (padI_len hl24) bm _ _ KV0) ?_
   refine jN 3 ?_
   refine WC.chunks (C' := [pt b40 (linCells bm (padI l) (.slice (some ⟨b63,0,none⟩) 3 3) KV0) 212,mkr G0 bm [],rowc (.slice (some ⟨b63,0,none⟩) 3 3) 3 214 3 (spans (endL 3 (clampB bound))),kRows KV0,pt b6 [.slice none 0 0,.int .i64 0] 35]) (fun w hS => ?_) ?_
   ·have hS1 := St.kStart (St.rowOf (n := 3) (sz := 3) ((St.pick hS (c := pt b63 [Value.int .i64 (-35184372088832),.int .i64 (clampB bound - 1),.int .i64 0,.int .i64 (clampB bound),.int .i64 (clampB bound),.int .i64 1,.int .i64 (clampB bound + 1),.int .i64 35184372088832,.int .i64 0] 214) jR)) rfl (by decide))
    exact (jK hS1)
   refine WC.draws [([7,8],fun w => w.cell? ⟨b40,0,none⟩ = some (pp bm))] (by kernel_rfl) (fun w hS => facts_cons (hS.cell (cs := linCells bm (padI l) (.slice (some ⟨b63,0,none⟩) 3 3) KV0) jM rfl) (facts_nil)) ?_
   refine jT 0 rfl (Yl.move rfl) ?_
   refine jT 1 rfl (Yl.nilCheck rfl) ?_
   refine jT 2 rfl (Yl.fieldAddr0 F.fld212_0 rfl) ?_
   refine jF 3 0 rfl rfl (Yl.load1 F.one200 rfl) ?_
   refine jT 4 rfl (Yl.move rfl) ?_
   refine jA 5 rfl ?_
   refine WA.chunksE (C' := fun F1 => [linC F1 b40 bm (padI l) (.slice (some ⟨b63,0,none⟩) 3 3) (endL 3 (clampB bound)) [] KV0,pt b6 [.slice none 0 0,.int .i64 0] 35]) (fun w hS => ?_) (fun F1 => ?_)
   ·exact ⟨_,St.linClose (jK hS)⟩
   refine WL.callC (β := { z : LinZ // LinP (padI l) 3 (clampB bound) 0 [] 0 0 z }) (res := fun z => .agg ([Value.int .i64 z.1.2.2.2.1,.int .i64 z.1.2.2.2.2.1,.int .i64 (z.1.2.2.2.2.2 : Int)]).toArray) (cs := fun z => [linC z.1.1 b40 bm (padI l) (.slice (some ⟨b63,0,none⟩) 3 3) (endL 3 (clampB bound)) z.1.2.1 z.1.2.2.1]) (Cs := [linC F1 b40 bm (padI l) (.slice (some ⟨b63,0,none⟩) 3 3) (endL 3 (clampB bound)) [] KV0]) (C1 := [pt b6 [.slice none 0 0,.int .i64 0] 35]) (O' := F1) F.fun156 (fun d h => by cases h; rfl) rfl (List.Perm.refl _) bun_O1 bun_O2 (fun w hS hS2 => from_c b40 bm (padI l) (padI_len hl24) (padI_ok hok) 3 (clampB bound) ⟨by decide,by decide⟩ hcb (some ⟨b63,0,none⟩) 3 25 0 (by omega) (by omega) F1 [] KV0 0 0 w (lin_start _ _ _) (by decide) ⟨by omega,by omega⟩ hS2) (fun ⟨z1,hz1⟩ => ?_)
   obtain ⟨F2,l2,KV2,s1⟩ := z1
   obtain ⟨j1,j2,j3,j4,j5⟩ := hz1
   dsimp only at j1 j2 j3 j4 j5 ⊢
   rw [show (24 - 0 : Nat) = 24 from rfl] at j3
   refine WD.on (closed_of (by kernel_rfl)) (fun w hS => Sx.keep (linC_mk (hS.ok (linC F2 b40 bm (padI l) (.slice (some ⟨b63,0,none⟩) 3 3) (endL 3 (clampB bound)) l2 KV2) (List.mem_cons_self ..))) (Sx.none)) ?_
   skip
   refine jT 6 rfl (Yl.field1 (ft := 3) (off := 2) (by kernel_rfl) F.one3 rfl rfl) ?_
   refine jA 7 rfl ?_
   refine WA.openB (fun G2 _ _ _ => ?_)
   simp only [linCs,List.cons_append,List.nil_append]
   refine WL.callC (β := Option Addr × Nat) (res := fun z => dval (trs l2 s1.2.2) z.1 z.2) (cs := fun z => [dC z.1 z.2 (trs l2 s1.2.2)]) (Cs := [mkr G2 bm l2]) (C1 := [pt b40 (linCells bm (padI l) (.slice (some ⟨b63,0,none⟩) 3 3) KV2) 212,rowc (.slice (some ⟨b63,0,none⟩) 3 3) 3 214 3 (spans (endL 3 (clampB bound))),kRows KV2,pt b6 [.slice none 0 0,.int .i64 0] 35]) (O' := G2) F.fun148 (fun d h => by cases h; rfl) rfl (List.Perm.swap _ _ _) bun_O1 bun_O2 (fun w hS hS2 => done_c G2 bm l2 s1.2.2 w j1.mks j3.lt j3.ok (by have := j1.ll; omega) hS2) (fun z3 => ?_)
   refine jG ?_
   refine jA 8 rfl ?_
   refine WL.storeN F.agg35 rfl rfl rfl jO jU jS ?_
   refine jG ?_
   refine jT 9 rfl (Yl.assign rfl) ?_
   refine jD ?_
   refine jN 2 ?_
   refine WQ.ret (rs := [.cell 6 35,.tmp 7]) rfl (.cellN F.agg35 rfl jM rfl (.tmp rfl .nil)) (fun w hS => ⟨⟨(trs l2 s1.2.2,z3),j3.ok,fun cf => ?_⟩,rfl,(jK hS)⟩)
   rw [j3.ev 0 j4 j5]
   exact linear_ev hok ⟨by decide,by decide⟩ cf
  cases g20
 cases g16
theorem Linear_bad (l : List Int) (rel : Nat) (bound : Int) (hbad : costsB l = false ∨ rel < 1 ∨ 3 < rel) (hll : l.length ≤ 1099511627776) (a : Option Addr) (c : Nat) (w : World) (hr : RdC w l a) :
  Calls Tryz.prog 112 [.slice a l.length c,.int .u8 (rel : Int),.int .i64 bound].toArray w fun e w' => ∃ z : DRes (fun _ => false),e = .returned (.tuple #[z.v,.int .i64 2]) ∧ St w [] [z.ch] w' := by
 refine enter Tryz.func112 rfl Tryz.ntmps112 rfl (St.init _) ?_
 refine jN 3 ?_
 refine WL.alloc F.zero35 rfl (fun b6 => ?_)
 refine jN 10 ?_
 refine WL.callV F.fun155 rfl rfl (fun w hS => lvalid_c l a c hll w (hr.next hS)) ?_
 refine jN 4 ?_
 refine WA.splitB (i := 13) rfl (fun g13 => ?_) (fun g13 => ?_)
 ·refine jN 37 ?_
  exact WQ.ret (rs := [.cell 6 35,.tmp 7]) rfl (.cellN F.agg35 rfl jM rfl (.tmp rfl .nil)) (fun w hS => ⟨⟨(.lf false,none,0),trivial,fun _ => rfl⟩,rfl,hS.drop.rowNil _ _⟩)
 refine jN 9 ?_
 refine WA.splitB (i := 16) rfl (fun g16 => ?_) (fun g16 => ?_)
 ·refine jN 12 ?_
  refine WA.splitB (i := 20) rfl (fun g20 => ?_) (fun g20 => ?_)
  ·refine jN 13 ?_
   refine WC.cond rfl (fun h24 => ?_) (fun h24 => ?_)
   ·refine jN 12 ?_
    exact WQ.ret (rs := [.cell 6 35,.tmp 7]) rfl (.cellN F.agg35 rfl jM rfl (.tmp rfl .nil)) (fun w hS => ⟨⟨(.lf false,none,0),trivial,fun _ => rfl⟩,rfl,hS.drop.rowNil _ _⟩)
   exfalso; simp at g13 g16 g20 h24; rw [g13] at hbad; simp at hbad; omega
  exfalso; simp at g13 g16 g20; rw [g13] at hbad; simp at hbad; omega
 exfalso; simp at g13 g16; rw [g13] at hbad; simp at hbad; omega
def linB (l : List Int) (rel : Nat) : Bool := costsB l && decide (1 ≤ rel ∧ rel ≤ 3)
theorem Linear_c (l : List Int) (rel : Nat) (bound : Int) (hll : l.length ≤ 1099511627776) (hbd : -9223372036854775808 ≤ bound ∧ bound < 9223372036854775808) (a : Option Addr) (c : Nat) (w : World) (hr : RdC w l a) :
  Calls Tryz.prog 112 [.slice a l.length c,.int .u8 (rel : Int),.int .i64 bound].toArray w fun e w' => ∃ z : DRes (fun cf => costsB l && (decide (1 ≤ rel ∧ rel ≤ 3) && relB rel (tailN l cf 24) bound)),e = .returned (.tuple #[z.v,.int .i64 (if linB l rel then 0 else 2)]) ∧ St w [] [z.ch] w' := by
 by_cases h : costsB l = true ∧ 1 ≤ rel ∧ rel ≤ 3
 ·obtain ⟨h1,h2⟩ := h
  have hb : linB l rel = true := by unfold linB; rw [h1,decide_eq_true h2]; rfl
  rw [hb,h1,decide_eq_true h2]
  have hr3 : rel = 1 ∨ rel = 2 ∨ rel = 3 := by omega
  rcases hr3 with rfl | rfl | rfl
  ·exact Linear_1 l bound h1 hll hbd a c w hr
  ·exact Linear_2 l bound h1 hll hbd a c w hr
  exact Linear_3 l bound h1 hll hbd a c w hr
 have hbad : costsB l = false ∨ rel < 1 ∨ 3 < rel := by
  cases hq : costsB l with
  | false => exact .inl rfl
  | true =>
   rw [hq] at h
   simp at h
   omega
 have hb : linB l rel = false := by
  unfold linB
  rcases hbad with h1 | h1
  ·rw [h1]; rfl
  ·rw [decide_eq_false (by omega),Bool.and_false]
 have hf : (fun cf => costsB l && (decide (1 ≤ rel ∧ rel ≤ 3) && relB rel (tailN l cf 24) bound)) = fun _ => false := by
  funext cf
  rcases hbad with h1 | h1
  ·rw [h1]; rfl
  ·rw [decide_eq_false (by omega),Bool.false_and,Bool.and_false]
 rw [hb,hf]
 exact Linear_bad l rel bound hbad hll a c w hr
def menB (x : OpV) : Bool := decide (x.doo = 2) && (decide (0 ≤ x.i) && decide (x.i < 24))
def men1 (x : OpV) (f : Nat) : Nat := if menB x then f ||| 2 ^ x.i.toNat else f
def men2 (x : OpV) (f : Nat) : Nat := if x.doo = 3 then f ||| x.f ||| x.g else f
def men3 (x : OpV) (f : Nat) : Nat := if x.doo = 12 then f ||| x.f else f
theorem men_up (x : OpV) (f : Nat) {k : Nat} (h : f.testBit k = true) : (men3 x (men2 x (men1 x f))).testBit k = true := by
 have h1 : (men1 x f).testBit k = true := by unfold men1; split <;> simp [h]
 have h2 : (men2 x (men1 x f)).testBit k = true := by unfold men2; split <;> simp [h1]
 unfold men3; split <;> simp [h2]
theorem men_lt {x : OpV} (hx : x.wf) {f : Nat} (h : f < 4294967296) : men3 x (men2 x (men1 x f)) < 4294967296 := by
 have h1 : men1 x f < 4294967296 := by
  unfold men1
  split
  ·rename_i hb
   unfold menB at hb
   simp at hb
   exact Nat.or_lt_two_pow (n := 32) h (Nat.pow_lt_pow_right (by decide) (by omega))
  ·exact h
 have h2 : men2 x (men1 x f) < 4294967296 := by
  unfold men2
  split
  ·exact or_lt32 (or_lt32 h1 hx.f) hx.g
  ·exact h1
 unfold men3
 split
 ·exact or_lt32 h2 hx.f
 exact h2
theorem men_in (x : OpV) (f g : Nat) (hg : ∀ k,(men3 x (men2 x (men1 x f))).testBit k = true → g.testBit k = true) (h13 : x.doo = 13 → ∀ k,k < 24 → x.l.getD k 0 ≠ 0 → g.testBit k = true) : OpIn x g := by
 refine ⟨fun h h0 h24 => hg _ ?_,fun h k _ hk => hg _ ?_,fun h k _ hk => hg _ ?_,h13⟩
 ·have hb : menB x = true := by unfold menB; simp [h,h0,h24]
  unfold men3 men2 men1
  rw [if_neg (by omega),if_neg (by omega),if_pos hb]
  rw [Nat.testBit_or,Nat.testBit_two_pow_self,Bool.or_true]
 ·unfold men3 men2
  rw [if_neg (by omega),if_pos h]
  rw [Nat.testBit_or,Nat.testBit_or]
  rcases hk with hk | hk <;> simp [hk]
 unfold men3
 rw [if_pos h,Nat.testBit_or,hk,Bool.or_true]
def MentP (l : List OpV) : Prop := l.length ≤ 12 ∧ ∃ f,f < 4294967296 ∧ (featL f).length ≤ 7 ∧ ∀ x ∈ l,OpIn x f ∧ x.l.length ≤ 40
set_option maxRecDepth 100000 in
theorem Mentioned_c (l : List OpV) (a : Option Addr) (c : Nat) (hwf : ∀ x ∈ l,x.wf) (w : World) (hr : RdOps w l a) :
  Calls Tryz.prog 18 [.slice a l.length c].toArray w fun e w' => ∃ z : { b : Bool // b = true → MentP l },e = .returned (.bool z.1) ∧ St w [] [] w' := by
 refine enter Tryz.func18 rfl Tryz.ntmps18 rfl (St.init _) ?_
 refine jN 17 ?_
 refine WC.cond rfl (fun h9 => ?_) (fun h9 => ?_)
 ·refine jN 8 ?_
  exact WQ.ret (rs := [.tmp 2]) rfl (.tmp rfl .nil) (fun w hS => ⟨⟨false,fun h => by cases h⟩,rfl,hS.sublist (List.nil_sublist _)⟩)
 have hl12 : l.length ≤ 12 := by simp at h9; omega
 refine jN 16 ?_
 refine WC.loop (α := Nat × Nat) (fun g => g.1 ≤ l.length ∧ g.2 < 4294967296 ∧ ∀ x ∈ l.take g.1,OpIn x g.2 ∧ x.l.length ≤ 40) (fun g => [(0,.slice a l.length c),(3,.int .u32 (g.2 : Int)),(4,.int .i64 (g.1 : Int))]) (fun _ => []) (fun g => l.length - g.1) ((0,0)) ?_ ?_ ?_ ?_
 ·exact ⟨Nat.zero_le _,(by decide),by simp⟩
 ·exact ⟨rfl,rfl,rfl,trivial⟩
 ·rfl
 rintro ⟨i,f⟩ ⟨hi,hf,hin⟩
 dsimp only at hi hf hin
 show WC _ _ _ _ _ _ _ [(0,.slice a l.length c),(3,.int .u32 (f : Int)),(4,.int .i64 (i : Int))] []
 refine jN 13 ?_
 refine WC.cond rfl (fun h13 => ?_) (fun h13 => ?_)
 ·have hlt : i < l.length := by simpa using h13
  obtain ⟨x,hx⟩ : ∃ x,l[i]? = some x := ⟨_,List.getElem?_eq_getElem hlt⟩
  obtain ⟨⟨b,off,ha,hcell⟩,hrc⟩ := hr i x hx
  subst ha
  have hw := hwf x (List.mem_of_getElem? hx)
  have hwd := hw.doo
  refine jN 11 ?_
  refine WL.indexAddr F.sl46 rfl rfl rfl hlt ?_
  refine jN 1 ?_
  refine WL.loadN F.agg92 rfl rfl (vs := x.cells) rfl (fun w hS j u hu => hS.oldc (hcell j u hu) (by simp)) ?_
  refine jN 1 ?_
  refine WL.alloc F.zero92 rfl (fun b5 => ?_)
  refine jN 6 ?_
  refine WC.cutF [(0,.slice (some ⟨b,off,none⟩) l.length c),(3,.int .u32 (f : Int)),(4,.int .i64 (i : Int)),(5,pp b5),(32,.bool (menB x))] (fun Q' hQ => ?_) ?_
  ·refine jN 9 ?_
   refine WA.splitB (i := 23) rfl (fun g23 => ?_) (fun g23 => ?_)
   ·refine jN 13 ?_
    refine WA.splitB (i := 28) rfl (fun g28 => ?_) (fun g28 => ?_)
    have hB : menB x = decide (x.i < 24) := by (unfold menB; rw [decide_eq_true (show x.doo = 2 by simp at g23; omega),decide_eq_true (show 0 ≤ x.i by simpa using g28),Bool.true_and,Bool.true_and])
    refine jN 12 ?_
    rotate_left
    have hB : menB x = false := by (unfold menB; rw [decide_eq_false (show ¬ 0 ≤ x.i by simp at g28; omega),Bool.false_and,Bool.and_false])
    refine jN 9 ?_
    rotate_left
    all_goals
     refine WQ.say 32 (.bool (menB x)) (by rw [hB]; rfl) ?_
     exact WQ.byCut hQ ⟨rfl,rfl,rfl,rfl,rfl,trivial⟩
   have hB : menB x = false := by (unfold menB; rw [decide_eq_false (by simp at g23; omega),Bool.false_and])
   refine jN 19 ?_
   refine WQ.say 32 (.bool (menB x)) (by rw [hB]; rfl) ?_
   exact WQ.byCut hQ ⟨rfl,rfl,rfl,rfl,rfl,trivial⟩
  refine jN 1 ?_
  refine WC.cutF [(0,.slice (some ⟨b,off,none⟩) l.length c),(3,.int .u32 ((men1 x f) : Int)),(4,.int .i64 (i : Int)),(5,pp b5)] (fun Q' hQ => ?_) ?_
  ·refine WC.cond rfl (fun h32 => ?_) (fun h32 => ?_)
   have hb9 := h32
   unfold menB at hb9
   simp at hb9
   obtain ⟨k,hk⟩ := Int.eq_ofNat_of_zero_le hb9.2.1
   have hk24 : k < 24 := by omega
   have e1 : (men1 x f) = f ||| 2 ^ k := by (unfold men1; rw [if_pos h32,hk]; rfl)
   have hp32 : 2 ^ k < 4294967296 := Nat.lt_of_lt_of_le (Nat.pow_lt_pow_right (by decide) (show k < 32 by omega)) (by decide)
   refine jN 7 ?_
   refine WA.say 35 (.int .i64 (k : Int)) (by rw [show (k : Int) = x.i from hk.symm]; rfl) ?_
   refine jN 1 ?_
   refine WL.convert rfl rfl (v := .int .u64 (k : Int)) (fun w hS => conv61 (by omega) w) ?_
   refine jN 1 ?_
   refine WL.bin rfl rfl rfl (fun w => run_shl1U (by omega) _ _ _ w) ?_
   refine jN 1 ?_
   refine WL.bin rfl rfl rfl (fun w => run_or hf hp32 _ _ _ w) ?_
   refine jN 3 ?_
   rotate_left
   have e1 : (men1 x f) = f := by (unfold men1; rw [if_neg (by rw [h32]; decide)])
   refine jN 1 ?_
   rotate_left
   all_goals
    refine WQ.say 3 (.int .u32 ((men1 x f) : Int)) (by rw [e1]; rfl) ?_
    exact WQ.byCut hQ ⟨rfl,rfl,rfl,rfl,trivial⟩
  refine jN 4 ?_
  have hf1 : (men1 x f) < 4294967296 := by (have h9 := men_lt hw hf; refine Nat.lt_of_le_of_lt ?_ h9; unfold men3 men2; split <;> split <;> first | exact Nat.le_refl _ | (exact Nat.left_le_or) | (exact Nat.le_trans Nat.left_le_or Nat.left_le_or) | (exact Nat.le_trans (Nat.le_trans Nat.left_le_or Nat.left_le_or) Nat.left_le_or))
  refine jN 8 ?_
  refine WC.cutF [(0,.slice (some ⟨b,off,none⟩) l.length c),(3,.int .u32 ((men2 x (men1 x f)) : Int)),(4,.int .i64 (i : Int)),(5,pp b5)] (fun Q' hQ => ?_) ?_
  ·refine WC.cond rfl (fun h41 => ?_) (fun h41 => ?_)
   have hd3 : x.doo = 3 := by simp at h41; omega
   have e2 : (men2 x (men1 x f)) = (men1 x f) ||| x.f ||| x.g := by (unfold men2; rw [if_pos hd3])
   refine jN 8 ?_
   refine WL.bin rfl rfl rfl (fun w => run_or hf1 hw.f _ _ _ w) ?_
   refine jN 5 ?_
   refine WL.bin rfl rfl rfl (fun w => run_or (or_lt32 hf1 hw.f) hw.g _ _ _ w) ?_
   refine jN 3 ?_
   rotate_left
   have hd3 : x.doo ≠ 3 := by simp at h41; omega
   have e2 : (men2 x (men1 x f)) = (men1 x f) := by (unfold men2; rw [if_neg hd3])
   refine jN 1 ?_
   rotate_left
   all_goals
    refine WQ.say 3 (.int .u32 ((men2 x (men1 x f)) : Int)) (by rw [e2]; rfl) ?_
    exact WQ.byCut hQ ⟨rfl,rfl,rfl,rfl,trivial⟩
  refine jN 4 ?_
  have hf2 : (men2 x (men1 x f)) < 4294967296 := by (have h9 := men_lt hw hf; refine Nat.lt_of_le_of_lt ?_ h9; unfold men3; split <;> first | exact Nat.le_refl _ | exact Nat.left_le_or)
  refine jN 8 ?_
  refine WC.cutF [(0,.slice (some ⟨b,off,none⟩) l.length c),(3,.int .u32 ((men3 x (men2 x (men1 x f))) : Int)),(4,.int .i64 (i : Int)),(5,pp b5)] (fun Q' hQ => ?_) ?_
  ·refine WC.cond rfl (fun h51 => ?_) (fun h51 => ?_)
   have hd12 : x.doo = 12 := by simp at h51; omega
   have e3 : (men3 x (men2 x (men1 x f))) = (men2 x (men1 x f)) ||| x.f := by (unfold men3; rw [if_pos hd12])
   refine jN 8 ?_
   refine WL.bin rfl rfl rfl (fun w => run_or hf2 hw.f _ _ _ w) ?_
   refine jN 3 ?_
   rotate_left
   have hd12 : x.doo ≠ 12 := by simp at h51; omega
   have e3 : (men3 x (men2 x (men1 x f))) = (men2 x (men1 x f)) := by (unfold men3; rw [if_neg hd12])
   refine jN 1 ?_
   rotate_left
   all_goals
    refine WQ.say 3 (.int .u32 ((men3 x (men2 x (men1 x f))) : Int)) (by rw [e3]; rfl) ?_
    exact WQ.byCut hQ ⟨rfl,rfl,rfl,rfl,trivial⟩
  refine jN 14 ?_
  refine WC.cond rfl (fun h59 => ?_) (fun h59 => ?_)
  ·refine jN 13 ?_
   exact WQ.ret (rs := [.tmp 2]) rfl (.tmp rfl .nil) (fun w hS => ⟨⟨false,fun h => by cases h⟩,rfl,hS.sublist (List.nil_sublist _)⟩)
  have hl40 : x.l.length ≤ 40 := by simp at h59; omega
  have hf3 := men_lt hw hf
  refine jN 9 ?_
  refine WC.chunks (C' := [pt b5 x.cells 92]) (fun w hS => (jK hS)) ?_
  refine WC.loop (α := Nat × Nat) (fun g => g.1 ≤ 24 ∧ g.2 < 4294967296 ∧ (∀ k,(men3 x (men2 x (men1 x f))).testBit k = true → g.2.testBit k = true) ∧ ∀ j,j < g.1 → x.l.getD j 0 ≠ 0 → g.2.testBit j = true) (fun g => [(0,.slice (some ⟨b,off,none⟩) l.length c),(3,.int .u32 (g.2 : Int)),(4,.int .i64 (i : Int)),(5,pp b5),(6,.int .i64 (g.1 : Int))]) (fun _ => [pt b5 x.cells 92]) (fun g => 24 - g.1) ((0,(men3 x (men2 x (men1 x f))))) ?_ ?_ ?_ ?_
  ·exact ⟨Nat.zero_le _,hf3,fun _ h => h,fun j hj => by omega⟩
  ·exact ⟨rfl,rfl,rfl,rfl,rfl,trivial⟩
  ·rfl
  rintro ⟨k,f2⟩ ⟨hk,hf4,hup,hz⟩
  dsimp only at hk hf4 hup hz
  show WC _ _ _ _ _ _ _ [(0,.slice (some ⟨b,off,none⟩) l.length c),(3,.int .u32 (f2 : Int)),(4,.int .i64 (i : Int)),(5,pp b5),(6,.int .i64 (k : Int))] [pt b5 x.cells 92]
  refine jN 15 ?_
  refine WA.splitB (i := 65) rfl (fun g65 => ?_) (fun g65 => ?_)
  ·have hkl : k < x.l.length := by simpa using g65
   refine jN 10 ?_
   refine WA.splitB (i := 69) rfl (fun g69 => ?_) (fun g69 => ?_)
   ·have hk24 : k < 24 := by (simp at g69; omega)
    refine jN 13 ?_
    refine WC.cond rfl (fun h73 => ?_) (fun h73 => ?_)
    ·obtain ⟨y,hy⟩ : ∃ y,x.l[k]? = some y := ⟨_,List.getElem?_eq_getElem hkl⟩
     obtain ⟨b2,off2,hla,hc2⟩ := hrc k y hy
     have hgy : x.l.getD k 0 = y := by rw [List.getD_eq_getElem?_getD,hy]; rfl
     refine jN 10 ?_
     refine WA.say 77 (.slice (some ⟨b2,off2,none⟩) x.l.length x.lc) (by rw [← hla]; rfl) ?_
     refine jN 3 ?_
     refine WL.indexAddr F.sl90 rfl rfl rfl hkl ?_
     refine jN 1 ?_
     refine WL.load1 F.one2 rfl rfl (v := .int .i64 y) (fun w hS => hS.oldc (by rw [Nat.mul_one]; exact hc2) (by simp)) ?_
     refine jN 4 ?_
     refine WC.cond rfl (fun h81 => ?_) (fun h81 => ?_)
     ·have hp32 : 2 ^ k < 4294967296 := Nat.lt_of_lt_of_le (Nat.pow_lt_pow_right (by decide) (show k < 32 by omega)) (by decide)
      refine jN 6 ?_
      refine WL.convert rfl rfl (v := .int .u64 (k : Int)) (fun w hS => conv61 (by omega) w) ?_
      refine jN 1 ?_
      refine WL.bin rfl rfl rfl (fun w => run_shl1U (by omega) _ _ _ w) ?_
      refine jN 1 ?_
      refine WL.bin rfl rfl rfl (fun w => run_or hf4 hp32 _ _ _ w) ?_
      refine jN 13 ?_
      have hz2 : ∀ j,j < k + 1 → x.l.getD j 0 ≠ 0 → (f2 ||| 2 ^ k).testBit j = true := fun j hj hne => by
       rw [Nat.testBit_or]
       rcases Nat.lt_or_ge j k with h | h
       ·rw [hz j h hne,Bool.true_or]
       ·have e : j = k := by omega
        rw [e,Nat.testBit_two_pow_self,Bool.or_true]
      refine WQ.chunks (C' := [pt b5 x.cells 92]) (fun w hS => (jK hS)) ?_
      refine WQ.back ((k + 1,f2 ||| 2 ^ k)) ?_ ?_ ?_ ?_
      ·exact ⟨by (show k + 1 ≤ 24; omega),or_lt32 hf4 hp32,fun j hj => by (rw [Nat.testBit_or,hup j hj,Bool.true_or]),hz2⟩
      ·(show 24 - (k + 1) < 24 - k; omega)
      ·exact ⟨rfl,rfl,rfl,rfl,rfl,trivial⟩
      rfl
     have hy0 : y = 0 := by (simp at h81; exact h81)
     refine jN 11 ?_
     have hz2 : ∀ j,j < k + 1 → x.l.getD j 0 ≠ 0 → f2.testBit j = true := fun j hj hne => by
      rcases Nat.lt_or_ge j k with h | h
      ·exact hz j h hne
      ·have e : j = k := by omega
       rw [e,hgy] at hne
       exact absurd hy0 hne
     refine WQ.chunks (C' := [pt b5 x.cells 92]) (fun w hS => (jK hS)) ?_
     refine WQ.back ((k + 1,f2)) ?_ ?_ ?_ ?_
     ·exact ⟨by (show k + 1 ≤ 24; omega),hf4,hup,hz2⟩
     ·(show 24 - (k + 1) < 24 - k; omega)
     ·exact ⟨rfl,rfl,rfl,rfl,rfl,trivial⟩
     rfl
    have hdn : x.doo = 13 → x.l.length ≤ k ∨ 24 ≤ k := fun h => by (rw [h] at h73; simp at h73)
    refine jN 14 ?_
    have hop : OpIn x f2 := men_in x f f2 hup fun h13 j hj hne => by
     rcases hdn h13 with h | h
     ·rcases Nat.lt_or_ge j k with h2 | h2
      ·exact hz j h2 hne
      ·exact absurd (by rw [List.getD_eq_getElem?_getD,List.getElem?_eq_none (by omega)]; rfl) hne
     ·exact hz j (by omega) hne
    have hin2 : ∀ y ∈ l.take (i + 1),OpIn y f2 ∧ y.l.length ≤ 40 := fun y hy => by
     rw [List.take_add_one,hx] at hy
     rcases List.mem_append.1 hy with hy | hy
     ·exact ⟨(hin y hy).1.mono fun k hk => hup k (men_up x f hk),(hin y hy).2⟩
     ·simp at hy
      subst hy
      exact ⟨hop,hl40⟩
    refine WQ.chunks (C' := []) (fun w hS => hS.sublist (List.nil_sublist _)) ?_
    refine WQ.back ((i + 1,f2)) ?_ ?_ ?_ ?_
    ·exact ⟨by (show i + 1 ≤ l.length; omega),hf4,hin2⟩
    ·(show l.length - (i + 1) < l.length - i; omega)
    ·exact ⟨rfl,rfl,rfl,trivial⟩
    rfl
   have hdn : x.doo = 13 → x.l.length ≤ k ∨ 24 ≤ k := fun _ => .inr (by simp at g69; omega)
   refine jN 25 ?_
   have hop : OpIn x f2 := men_in x f f2 hup fun h13 j hj hne => by
    rcases hdn h13 with h | h
    ·rcases Nat.lt_or_ge j k with h2 | h2
     ·exact hz j h2 hne
     ·exact absurd (by rw [List.getD_eq_getElem?_getD,List.getElem?_eq_none (by omega)]; rfl) hne
    ·exact hz j (by omega) hne
   have hin2 : ∀ y ∈ l.take (i + 1),OpIn y f2 ∧ y.l.length ≤ 40 := fun y hy => by
    rw [List.take_add_one,hx] at hy
    rcases List.mem_append.1 hy with hy | hy
    ·exact ⟨(hin y hy).1.mono fun k hk => hup k (men_up x f hk),(hin y hy).2⟩
    ·simp at hy
     subst hy
     exact ⟨hop,hl40⟩
   refine WQ.chunks (C' := []) (fun w hS => hS.sublist (List.nil_sublist _)) ?_
   refine WQ.back ((i + 1,f2)) ?_ ?_ ?_ ?_
   ·exact ⟨by (show i + 1 ≤ l.length; omega),hf4,hin2⟩
   ·(show l.length - (i + 1) < l.length - i; omega)
   ·exact ⟨rfl,rfl,rfl,trivial⟩
   rfl
  have hdn : x.doo = 13 → x.l.length ≤ k ∨ 24 ≤ k := fun _ => .inl (by simp at g65; omega)
  refine jN 33 ?_
  have hop : OpIn x f2 := men_in x f f2 hup fun h13 j hj hne => by
   rcases hdn h13 with h | h
   ·rcases Nat.lt_or_ge j k with h2 | h2
    ·exact hz j h2 hne
    ·exact absurd (by rw [List.getD_eq_getElem?_getD,List.getElem?_eq_none (by omega)]; rfl) hne
   ·exact hz j (by omega) hne
  have hin2 : ∀ y ∈ l.take (i + 1),OpIn y f2 ∧ y.l.length ≤ 40 := fun y hy => by
   rw [List.take_add_one,hx] at hy
   rcases List.mem_append.1 hy with hy | hy
   ·exact ⟨(hin y hy).1.mono fun k hk => hup k (men_up x f hk),(hin y hy).2⟩
   ·simp at hy
    subst hy
    exact ⟨hop,hl40⟩
  refine WQ.chunks (C' := []) (fun w hS => hS.sublist (List.nil_sublist _)) ?_
  refine WQ.back ((i + 1,f2)) ?_ ?_ ?_ ?_
  ·exact ⟨by (show i + 1 ≤ l.length; omega),hf4,hin2⟩
  ·(show l.length - (i + 1) < l.length - i; omega)
  ·exact ⟨rfl,rfl,rfl,trivial⟩
  rfl
 have hie : i = l.length := by simp at h13; omega
 subst hie
 rw [List.take_length] at hin
 refine jN 10 ?_
 refine jC (β := Option Addr × Nat) (res := fun y => .slice y.1 (featL f).length y.2) (cs := fun y => [rowc (.slice y.1 (featL f).length y.2) (featL f).length 3 1 (nums (featL f))]) F.fun34 rfl (fun w hS _ => Features_c f hf w) (fun ⟨va,vc⟩ => ?_)
 refine jN 9 ?_
 refine WQ.ret (rs := [.tmp 2]) rfl (.tmp rfl .nil) (fun w hS => ⟨⟨_,fun h => ⟨hl12,f,hf,?_,hin⟩⟩,rfl,hS.sublist (List.nil_sublist _)⟩)
 have h9 : ((featL f).length : Int) ≤ 7 := of_decide_eq_true h
 omega
structure CubeG where
 m : Nat
 G : List Nat
 l : List Dec
 r : Nat
theorem Cube_c (on off : Nat) (hon : on < 4294967296) (hoff : off < 4294967296) (w : World) : Calls Tryz.prog 107 [.int .u32 (on : Int),.int .u32 (off : Int)].toArray w (DPost (fun c => cubeB on off 0 c) w) := by
 have hon1 : (on &&& 16777215) < 4294967296 := Nat.lt_of_le_of_lt Nat.and_le_left hon
 have hoff1 : (off &&& 16777215) < 4294967296 := Nat.lt_of_le_of_lt Nat.and_le_left hoff
 refine enter Tryz.func107 rfl Tryz.ntmps107 rfl (St.init _) ?_
 refine jN 3 ?_
 refine WL.alloc F.zero35 rfl (fun b4 => ?_)
 refine jN 7 ?_
 refine WL.bin rfl rfl rfl (fun w => run_and (b := 16777215) hon (by decide) _ _ _ w) ?_
 refine jN 3 ?_
 refine WL.bin rfl rfl rfl (fun w => run_and (b := 16777215) hoff (by decide) _ _ _ w) ?_
 refine jN 14 ?_
 refine WL.bin rfl rfl rfl (fun w => run_and hon1 hoff1 _ _ _ w) ?_
 refine jN 4 ?_
 refine WC.cond rfl (fun h15 => ?_) (fun h15 => ?_)
 ·have hcl : (on &&& 16777215) &&& (off &&& 16777215) ≠ 0 := by (intro e; rw [e] at h15; simp at h15)
  refine jN 10 ?_
  refine WQ.ret (rs := [.cell 4 35]) rfl (.cellN F.agg35 rfl jM rfl .nil) (fun w hS => ⟨⟨(.lf false,none,0),trivial,fun c => (cubeB_clash hcl c).symm⟩,rfl,hS.drop.rowNil _ _⟩)
 have hcl : (on &&& 16777215) &&& (off &&& 16777215) = 0 := by (simp at h15; omega)
 refine jN 5 ?_
 refine WL.call0 (β := List Nat × Nat) (res := fun x => .returned (pp x.2)) (cs := fun x => [mkr x.1 x.2 []]) (ψ := fun _ => True) F.fun147 (fun d h => by cases h; rfl) rfl (fun w hS => (newMaker_c w).mono (fun e w2 ⟨x,h1,h2⟩ => ⟨x,trivial,h1,h2⟩)) (fun ⟨G0,bm⟩ _ => ?_)
 refine WL.step ?_
 refine WL.assign rfl rfl ?_
 refine WL.nil ?_
 refine WQ.then_normal ?_
 refine WC.seq ?_
 refine WC.region ?_
 refine WL.step ?_
 refine WL.assign rfl rfl ?_
 refine WL.nil ?_
 refine WQ.then_normal ?_
 refine WC.seq ?_
 refine WC.seq ?_
 refine WC.region ?_
 refine WL.step ?_
 refine WL.assign rfl rfl ?_
 refine WL.nil ?_
 refine WQ.then_normal ?_
 refine WC.block ?_
 refine WC.loop (α := CubeG) (fun g => g.m ≤ 24 ∧ Mk g.l ∧ g.l.length + g.m ≤ 24 ∧ g.r < g.l.length + 2 ∧ (trs g.l g.r).ok g.m ∧ ∀ c,(trs g.l g.r).ev c = cubeB (on &&& 16777215) (off &&& 16777215) g.m c) (fun g => [(0,.int .u32 (((on &&& 16777215) : Nat) : Int)),(1,.int .u32 (((off &&& 16777215) : Nat) : Int)),(4,pp b4),(5,pp bm),(6,.int .i64 (g.r : Int)),(7,.int .i64 ((g.m : Int) - 1))]) (fun g => [mkr g.G bm g.l,pt b4 [.slice none 0 0,.int .i64 0] 35]) (fun g => g.m) (⟨24,G0,[],1⟩) ?_ ?_ ?_ ?_
 ·exact ⟨Nat.le_refl _,Mk.nil,(by show 0 + 24 ≤ 24; decide),(by show 1 < 0 + 2; decide),trivial,fun c => (cubeB_end _ _ c).symm⟩
 ·exact ⟨rfl,rfl,rfl,rfl,rfl,rfl,trivial⟩
 ·rfl
 rintro ⟨m,G,l,r⟩ ⟨hm24,hm,hlm,hr,hok,hev⟩
 dsimp only at hm24 hm hlm hr hok hev
 show WC _ _ _ _ _ _ _ [(0,.int .u32 (((on &&& 16777215) : Nat) : Int)),(1,.int .u32 (((off &&& 16777215) : Nat) : Int)),(4,pp b4),(5,pp bm),(6,.int .i64 (r : Int)),(7,.int .i64 ((m : Int) - 1))] [mkr G bm l,pt b4 [.slice none 0 0,.int .i64 0] 35]
 refine jN 9 ?_
 refine WC.cond rfl (fun h19 => ?_) (fun h19 => ?_)
 ·obtain ⟨k,rfl⟩ : ∃ k,m = k + 1 := ⟨m - 1,by (simp at h19; omega)⟩
  have hki : (((k + 1 : Nat) : Int) - 1) = (k : Int) := by omega
  refine jN 11 ?_
  refine WA.say 24 (.int .i64 (k : Int)) (by rw [← hki]; rfl) ?_
  refine jN 1 ?_
  refine WL.bin rfl rfl rfl (fun w => run_shr (by omega) _ _ _ w) ?_
  refine jN 1 ?_
  refine WL.bin rfl rfl rfl (fun w => run_and (b := 1) (Nat.lt_of_le_of_lt (by rw [Nat.shiftRight_eq_div_pow]; exact Nat.div_le_self _ _) hon1) (by decide) _ _ _ w) ?_
  refine jN 6 ?_
  refine WC.cond rfl (fun h22 => ?_) (fun h22 => ?_)
  ·rw [Fm.testBit_shift] at h22
   have hb1 : (on &&& 16777215).testBit k = true := h22
   have hb2 : (off &&& 16777215).testBit k = false := by
    have h0 : ((on &&& 16777215) &&& (off &&& 16777215)).testBit k = false := by rw [hcl]; simp
    rw [Nat.testBit_and,hb1] at h0; simpa using h0
   refine jN 5 ?_
   refine WA.say 29 (.int .i64 (k : Int)) (by rw [← hki]; rfl) ?_
   refine jN 3 ?_
   refine WL.callC (β := { z : List Nat × List Dec × Nat // MadeN l z.2.1 z.2.2 (mkN k (trs l 0) (trs l r)) ∧ z.2.1.length ≤ l.length + 1 }) (res := fun z => .int .i64 (z.1.2.2 : Int)) (cs := fun z => [mkr z.1.1 bm z.1.2.1]) (Cs := [mkr G bm l]) (C1 := [pt b4 [.slice none 0 0,.int .i64 0] 35]) (O' := G) F.fun149 (fun d h => by cases h; rfl) rfl (List.Perm.refl _) bun_O1 bun_O2 (fun w hS hS2 => mnode_c G bm l k 0 r w (by omega) hm (by omega) hr (by omega) hS2) (fun ⟨⟨G2,l2,r2⟩,hm2,hl2⟩ => ?_)
   dsimp only at hm2 hl2
   refine jN 9 ?_
   refine WA.say 20 (.int .i64 (k : Int)) (by rw [← hki]; rfl) ?_
   refine jN 5 ?_
   refine WQ.chunks (C' := [mkr G2 bm l2,pt b4 [.slice none 0 0,.int .i64 0] 35]) (fun w hS => (jK hS)) ?_
   refine WQ.back (⟨k,G2,l2,r2⟩) ?_ ?_ ?_ ?_
   ·exact ⟨by show k ≤ 24; omega,hm2.ismk,by dsimp only; omega,hm2.lt,by show (trs l2 r2).ok k; rw [hm2.tree]; exact mkN_ok (Nat.le_refl _) (by omega) (by rw [(trs_zero l).1]; trivial) hok,fun c => by (show (trs l2 r2).ev c = cubeB _ _ k c; rw [cubeB_step (m := k) (by omega) c,hm2.tree,mkN_ev,(trs_zero l).1,hev,hb1,hb2]; cases c k <;> simp [BT.ev])⟩
   ·(show k < k + 1; omega)
   ·exact ⟨rfl,rfl,rfl,rfl,rfl,rfl,trivial⟩
   rfl
  rw [Fm.testBit_shift] at h22
  have hb1 : (on &&& 16777215).testBit k = false := h22
  refine jN 6 ?_
  refine WA.say 34 (.int .i64 (k : Int)) (by rw [← hki]; rfl) ?_
  refine jN 1 ?_
  refine WL.bin rfl rfl rfl (fun w => run_shr (by omega) _ _ _ w) ?_
  refine jN 1 ?_
  refine WL.bin rfl rfl rfl (fun w => run_and (b := 1) (Nat.lt_of_le_of_lt (by rw [Nat.shiftRight_eq_div_pow]; exact Nat.div_le_self _ _) hoff1) (by decide) _ _ _ w) ?_
  refine jN 6 ?_
  refine WC.cond rfl (fun h32 => ?_) (fun h32 => ?_)
  ·rw [Fm.testBit_shift] at h32
   have hb2 : (off &&& 16777215).testBit k = true := h32
   refine jN 5 ?_
   refine WA.say 39 (.int .i64 (k : Int)) (by rw [← hki]; rfl) ?_
   refine jN 3 ?_
   refine WL.callC (β := { z : List Nat × List Dec × Nat // MadeN l z.2.1 z.2.2 (mkN k (trs l r) (trs l 0)) ∧ z.2.1.length ≤ l.length + 1 }) (res := fun z => .int .i64 (z.1.2.2 : Int)) (cs := fun z => [mkr z.1.1 bm z.1.2.1]) (Cs := [mkr G bm l]) (C1 := [pt b4 [.slice none 0 0,.int .i64 0] 35]) (O' := G) F.fun149 (fun d h => by cases h; rfl) rfl (List.Perm.refl _) bun_O1 bun_O2 (fun w hS hS2 => mnode_c G bm l k r 0 w (by omega) hm hr (by omega) (by omega) hS2) (fun ⟨⟨G2,l2,r2⟩,hm2,hl2⟩ => ?_)
   dsimp only at hm2 hl2
   refine jN 9 ?_
   refine WA.say 20 (.int .i64 (k : Int)) (by rw [← hki]; rfl) ?_
   refine jN 5 ?_
   refine WQ.chunks (C' := [mkr G2 bm l2,pt b4 [.slice none 0 0,.int .i64 0] 35]) (fun w hS => (jK hS)) ?_
   refine WQ.back (⟨k,G2,l2,r2⟩) ?_ ?_ ?_ ?_
   ·exact ⟨by show k ≤ 24; omega,hm2.ismk,by dsimp only; omega,hm2.lt,by show (trs l2 r2).ok k; rw [hm2.tree]; exact mkN_ok (Nat.le_refl _) (by omega) hok (by rw [(trs_zero l).1]; trivial),fun c => by (show (trs l2 r2).ev c = cubeB _ _ k c; rw [cubeB_step (m := k) (by omega) c,hm2.tree,mkN_ev,(trs_zero l).1,hev,hb1,hb2]; cases c k <;> simp [BT.ev])⟩
   ·(show k < k + 1; omega)
   ·exact ⟨rfl,rfl,rfl,rfl,rfl,rfl,trivial⟩
   rfl
  rw [Fm.testBit_shift] at h32
  have hb2 : (off &&& 16777215).testBit k = false := h32
  refine jN 7 ?_
  refine WA.say 20 (.int .i64 (k : Int)) (by rw [← hki]; rfl) ?_
  refine jN 5 ?_
  refine WQ.chunks (C' := [mkr G bm l,pt b4 [.slice none 0 0,.int .i64 0] 35]) (fun w hS => (jK hS)) ?_
  refine WQ.back (⟨k,G,l,r⟩) ?_ ?_ ?_ ?_
  ·exact ⟨by show k ≤ 24; omega,hm,by dsimp only; omega,hr,BT.ok_mono (n := k + 1) hok (Nat.le_succ _),fun c => by (show (trs l r).ev c = cubeB _ _ k c; rw [cubeB_step (m := k) (by omega) c,hev,hb1,hb2]; simp)⟩
  ·(show k < k + 1; omega)
  ·exact ⟨rfl,rfl,rfl,rfl,rfl,rfl,trivial⟩
  rfl
 have hm0 : m = 0 := by (simp at h19; omega)
 subst hm0
 refine jN 12 ?_
 refine WL.callC (β := Option Addr × Nat) (res := fun z => dval (trs l r) z.1 z.2) (cs := fun z => [dC z.1 z.2 (trs l r)]) (Cs := [mkr G bm l]) (C1 := [pt b4 [.slice none 0 0,.int .i64 0] 35]) (O' := G) F.fun148 (fun d h => by cases h; rfl) rfl (List.Perm.refl _) bun_O1 bun_O2 (fun w hS hS2 => done_c G bm l r w hm hr hok (by omega) hS2) (fun z3 => ?_)
 refine jN 5 ?_
 refine WQ.ret (rs := [.cell 4 35]) rfl (.cellN F.agg35 rfl jM rfl .nil) (fun w hS => ⟨⟨(trs l r,z3),hok,fun c => by rw [hev,cubeB_mask]⟩,rfl,(jK hS)⟩)
theorem run_remI {a m : Nat} (ha : a < 4294967296) (hm : 0 < m) (hm2 : m < 4294967296) (t : TypeId) (x y : Operand) (w : World) :
  (do eqGuard .rem t x y (.int .i64 (a : Int)) (.int .i64 (m : Int)); binOp .rem t (.int .i64 (a : Int)) (.int .i64 (m : Int)) : Sem Value).run Tryz.prog w = .ok (.int .i64 ((a % m : Nat) : Int)) w := by
 have h1 : (a : Int).tmod (m : Int) = ((a % m : Nat) : Int) := by
  rw [Int.tmod_eq_emod_of_nonneg (Int.natCast_nonneg _)]; simp
 have h4 : a % m < 4294967296 := Nat.lt_trans (Nat.mod_lt _ hm) hm2
 have h2 : IntKind.i64.wrap ((a % m : Nat) : Int) = ((a % m : Nat) : Int) := wrap_in (by omega) (by omega)
 have h3 : ¬ m = 0 := by omega
 simp only [Int.natCast_emod] at h1 h2
 simp [eqGuard,binOp,Op.intDiv,h1,h2,h3]
theorem RdDL.pos {w : World} {s : List DV} {a : Option Addr} (h : RdDL w s a) (hs : 0 < s.length) : ∃ b off,a = some ⟨b,off,none⟩ ∧ ∀ (i : Nat) (x : DV),s[i]? = some x → ∀ j v,(dvl x)[j]? = some v → w.cell? ⟨b,off + i * 2 + j,none⟩ = some v := by
 obtain ⟨b,off,h1,_⟩ := h.at (List.getElem?_eq_getElem hs)
 refine ⟨b,off,h1,fun i x hx j v hv => ?_⟩
 obtain ⟨b2,off2,h2,h3,_⟩ := h.at hx
 rw [h1] at h2
 simp only [Option.some.injEq,Addr.mk.injEq,and_true] at h2
 obtain ⟨rfl,rfl⟩ := h2
 exact h3 j v hv
theorem evAt_get {s : List DV} {k : Nat} {x : DV} (h : s[k % s.length]? = some x) : evAt (s.map (fun y => y.1.ev)) k = x.1.ev := by
 unfold evAt
 rw [List.length_map,List.getD_eq_getElem?_getD,List.getElem?_map,h]
 rfl
theorem OneP.weak {s : List DV} {f g : Cf → Bool} {w w' : World} {e : Ending} (h : OneP s f w e w') (hf : ∀ cf,f cf = g cf) : OneP s g w e w' := by
 obtain ⟨y,k,h1,h2,h3,h4,h5⟩ := h
 exact ⟨y,k,h1,h2,fun cf => by rw [h3,hf],h4,h5⟩
set_option maxRecDepth 100000 in
theorem opOne_c (x : OpV) (hw : x.wf) (hl40 : x.l.length ≤ 40) (s : List DV) (a : Option Addr) (c : Nat) (hsp : 0 < s.length) (hsl : s.length ≤ 1000) (w : World) (hr : RdDL w s a) (hrl : RdC w x.l x.la) :
  Calls Tryz.prog 51 [x.val,.slice a s.length c].toArray w (OneP s (opD x (s.map (fun y => y.1.ev))) w) := by
 obtain ⟨bs,os,ha,hsc⟩ := hr.pos hsp
 subst ha
 obtain ⟨xa,hxa⟩ : ∃ y,s[x.a % s.length]? = some y := ⟨_,List.getElem?_eq_getElem (Nat.mod_lt _ hsp)⟩
 obtain ⟨xb,hxb⟩ : ∃ y,s[x.b % s.length]? = some y := ⟨_,List.getElem?_eq_getElem (Nat.mod_lt _ hsp)⟩
 obtain ⟨xc,hxc⟩ : ∃ y,s[x.c % s.length]? = some y := ⟨_,List.getElem?_eq_getElem (Nat.mod_lt _ hsp)⟩
 have hea : evAt (s.map (fun y => y.1.ev)) x.a = xa.1.ev := evAt_get hxa
 have heb : evAt (s.map (fun y => y.1.ev)) x.b = xb.1.ev := evAt_get hxb
 have hec : evAt (s.map (fun y => y.1.ev)) x.c = xc.1.ev := evAt_get hxc
 refine enter Tryz.func51 rfl Tryz.ntmps51 rfl (St.init _) ?_
 refine jN 3 ?_
 refine WL.boxN rfl rfl (fun b2 => ?_)
 refine jN 1 ?_
 refine WL.alloc F.zero35 rfl (fun b4 => ?_)
 refine jN 5 ?_
 refine WC.cutPE (α := Nat × Nat × Nat) (fun z => [(2,pp b2),(1,.slice (some ⟨bs,os,none⟩) s.length c),(4,pp b4),(6,pp z.1),(7,pp z.2.1),(8,pp z.2.2)]) (fun z => [pt z.1 (dvl xa) 35,pt z.2.1 (dvl xb) 35,pt z.2.2 (dvl xc) 35,pt b2 x.cells 92,pt b4 [.slice none 0 0,.int .i64 0] 35]) (fun c a d v w h => by cases d <;> exact h) (fun Q' hP hQ => ?_) (fun xE => ?_)
 ·refine WC.drawsL (by kernel_rfl) (FactsOk.cons (ds := [30,31,32]) (LoadOk.one (t := 2) (off := 2) rfl jM rfl) (FactsOk.cons (ds := [30,31,32]) (LoadOk.by (Y := fun w => ∀ j v,(dvl xa)[j]? = some v → w.cell? ⟨bs,os + (x.a % s.length) * 2 + j,none⟩ = some v) (fun w hS => fun j v hv => hS.oldc (hsc _ _ hxa j v hv) (by simp))) (FactsOk.cons (ds := [31,32]) (LoadOk.one (t := 2) (off := 3) rfl jM rfl) (FactsOk.cons (ds := [31,32]) (LoadOk.by (Y := fun w => ∀ j v,(dvl xb)[j]? = some v → w.cell? ⟨bs,os + (x.b % s.length) * 2 + j,none⟩ = some v) (fun w hS => fun j v hv => hS.oldc (hsc _ _ hxb j v hv) (by simp))) (FactsOk.cons (ds := [32]) (LoadOk.one (t := 2) (off := 4) rfl jM rfl) (FactsOk.cons (ds := [32]) (LoadOk.by (Y := fun w => ∀ j v,(dvl xc)[j]? = some v → w.cell? ⟨bs,os + (x.c % s.length) * 2 + j,none⟩ = some v) (fun w hS => fun j v hv => hS.oldc (hsc _ _ hxc j v hv) (by simp))) (FactsOk.nil))))))) ?_
  refine jT 0 rfl (Yl.move rfl) ?_
  refine jT 1 rfl (Yl.fieldAddr0 F.fld92_2 rfl) ?_
  refine jF 2 0 rfl rfl (Yl.load1 F.one5 rfl) ?_
  refine jT 3 rfl (Yl.convert rfl (v := .int .i64 (x.a : Int)) (fun w => conv8 hw.a w)) ?_
  refine jT 4 rfl (Yl.move rfl) ?_
  refine jT 5 rfl (Yl.lenSl F.und48 rfl) ?_
  refine jT 6 rfl (Yl.bin rfl rfl (fun w => run_remI (a := x.a) (m := s.length) (by have := hw.a; omega) hsp (by omega) _ _ _ w)) ?_
  refine jT 7 rfl (Yl.indexAddr (i := x.a % s.length) F.sl48 rfl rfl (Nat.mod_lt _ hsp)) ?_
  refine jF 8 1 rfl rfl (Yl.loadN F.agg35 rfl rfl) ?_
  refine jT 9 rfl (Yl.move rfl) ?_
  refine jT 10 rfl (Yl.fieldAddr0 F.fld92_3 rfl) ?_
  refine jF 11 2 rfl rfl (Yl.load1 F.one5 rfl) ?_
  refine jT 12 rfl (Yl.convert rfl (v := .int .i64 (x.b : Int)) (fun w => conv8 hw.b w)) ?_
  refine jT 13 rfl (Yl.move rfl) ?_
  refine jT 14 rfl (Yl.lenSl F.und48 rfl) ?_
  refine jT 15 rfl (Yl.bin rfl rfl (fun w => run_remI (a := x.b) (m := s.length) (by have := hw.b; omega) hsp (by omega) _ _ _ w)) ?_
  refine jT 16 rfl (Yl.indexAddr (i := x.b % s.length) F.sl48 rfl rfl (Nat.mod_lt _ hsp)) ?_
  refine jF 17 3 rfl rfl (Yl.loadN F.agg35 rfl rfl) ?_
  refine jT 18 rfl (Yl.move rfl) ?_
  refine jT 19 rfl (Yl.fieldAddr0 F.fld92_4 rfl) ?_
  refine jF 20 4 rfl rfl (Yl.load1 F.one5 rfl) ?_
  refine jT 21 rfl (Yl.convert rfl (v := .int .i64 (x.c : Int)) (fun w => conv8 hw.c w)) ?_
  refine jT 22 rfl (Yl.move rfl) ?_
  refine jT 23 rfl (Yl.lenSl F.und48 rfl) ?_
  refine jT 24 rfl (Yl.bin rfl rfl (fun w => run_remI (a := x.c) (m := s.length) (by have := hw.c; omega) hsp (by omega) _ _ _ w)) ?_
  refine jT 25 rfl (Yl.indexAddr (i := x.c % s.length) F.sl48 rfl rfl (Nat.mod_lt _ hsp)) ?_
  refine jF 26 5 rfl rfl (Yl.loadN F.agg35 rfl rfl) ?_
  refine WD.three (i := 27) (j := 28) (l := 29) (by decide +kernel) rfl rfl rfl ?_ ?_ ?_
  refine WL.alloc F.zero35 rfl (fun b6 => ?_)
  refine WD.on (closed_of (by decide +kernel)) (fun w hS => Sx.keep (hS.cell jM rfl) (Sx.keep (fun j v hv => hS.oldc (hsc _ _ hxa j v hv) (by simp)) (Sx.keep (hS.cell jM rfl) (Sx.keep (fun j v hv => hS.oldc (hsc _ _ hxb j v hv) (by simp)) (Sx.keep (hS.cell jM rfl) (Sx.keep (fun j v hv => hS.oldc (hsc _ _ hxc j v hv) (by simp)) (Sx.none))))))) ?_
  refine WD.two (i := 28) (j := 29) (by decide +kernel) rfl rfl ?_ ?_
  refine WL.alloc F.zero35 rfl (fun b7 => ?_)
  refine WD.on (closed_of (by decide +kernel)) (fun w hS => Sx.keep (hS.cell jM rfl) (Sx.keep (fun j v hv => hS.oldc (hsc _ _ hxa j v hv) (by simp)) (Sx.keep (hS.cell jM rfl) (Sx.keep (fun j v hv => hS.oldc (hsc _ _ hxb j v hv) (by simp)) (Sx.keep (hS.cell jM rfl) (Sx.keep (fun j v hv => hS.oldc (hsc _ _ hxc j v hv) (by simp)) (Sx.none))))))) ?_
  refine jA 29 rfl ?_
  refine WL.alloc F.zero35 rfl (fun b8 => ?_)
  rotate_left
  refine WL.alloc F.zero35 rfl (fun b8 => ?_)
  refine WD.on (closed_of (by decide +kernel)) (fun w hS => Sx.keep (hS.cell jM rfl) (Sx.keep (fun j v hv => hS.oldc (hsc _ _ hxa j v hv) (by simp)) (Sx.keep (hS.cell jM rfl) (Sx.keep (fun j v hv => hS.oldc (hsc _ _ hxb j v hv) (by simp)) (Sx.keep (hS.cell jM rfl) (Sx.keep (fun j v hv => hS.oldc (hsc _ _ hxc j v hv) (by simp)) (Sx.none))))))) ?_
  refine jA 28 rfl ?_
  refine WL.alloc F.zero35 rfl (fun b7 => ?_)
  rotate_left
  refine WL.alloc F.zero35 rfl (fun b7 => ?_)
  refine WD.on (closed_of (by decide +kernel)) (fun w hS => Sx.keep (hS.cell jM rfl) (Sx.keep (fun j v hv => hS.oldc (hsc _ _ hxa j v hv) (by simp)) (Sx.keep (hS.cell jM rfl) (Sx.keep (fun j v hv => hS.oldc (hsc _ _ hxb j v hv) (by simp)) (Sx.keep (hS.cell jM rfl) (Sx.keep (fun j v hv => hS.oldc (hsc _ _ hxc j v hv) (by simp)) (Sx.none))))))) ?_
  refine WD.two (i := 27) (j := 29) (by decide +kernel) rfl rfl ?_ ?_
  refine WL.alloc F.zero35 rfl (fun b6 => ?_)
  refine WD.on (closed_of (by decide +kernel)) (fun w hS => Sx.keep (hS.cell jM rfl) (Sx.keep (fun j v hv => hS.oldc (hsc _ _ hxa j v hv) (by simp)) (Sx.keep (hS.cell jM rfl) (Sx.keep (fun j v hv => hS.oldc (hsc _ _ hxb j v hv) (by simp)) (Sx.keep (hS.cell jM rfl) (Sx.keep (fun j v hv => hS.oldc (hsc _ _ hxc j v hv) (by simp)) (Sx.none))))))) ?_
  refine jA 29 rfl ?_
  refine WL.alloc F.zero35 rfl (fun b8 => ?_)
  rotate_left
  refine WL.alloc F.zero35 rfl (fun b8 => ?_)
  refine WD.on (closed_of (by decide +kernel)) (fun w hS => Sx.keep (hS.cell jM rfl) (Sx.keep (fun j v hv => hS.oldc (hsc _ _ hxa j v hv) (by simp)) (Sx.keep (hS.cell jM rfl) (Sx.keep (fun j v hv => hS.oldc (hsc _ _ hxb j v hv) (by simp)) (Sx.keep (hS.cell jM rfl) (Sx.keep (fun j v hv => hS.oldc (hsc _ _ hxc j v hv) (by simp)) (Sx.none))))))) ?_
  refine jA 27 rfl ?_
  refine WL.alloc F.zero35 rfl (fun b6 => ?_)
  rotate_left
  refine WL.alloc F.zero35 rfl (fun b8 => ?_)
  refine WD.on (closed_of (by decide +kernel)) (fun w hS => Sx.keep (hS.cell jM rfl) (Sx.keep (fun j v hv => hS.oldc (hsc _ _ hxa j v hv) (by simp)) (Sx.keep (hS.cell jM rfl) (Sx.keep (fun j v hv => hS.oldc (hsc _ _ hxb j v hv) (by simp)) (Sx.keep (hS.cell jM rfl) (Sx.keep (fun j v hv => hS.oldc (hsc _ _ hxc j v hv) (by simp)) (Sx.none))))))) ?_
  refine WD.two (i := 27) (j := 28) (by decide +kernel) rfl rfl ?_ ?_
  refine WL.alloc F.zero35 rfl (fun b6 => ?_)
  refine WD.on (closed_of (by decide +kernel)) (fun w hS => Sx.keep (hS.cell jM rfl) (Sx.keep (fun j v hv => hS.oldc (hsc _ _ hxa j v hv) (by simp)) (Sx.keep (hS.cell jM rfl) (Sx.keep (fun j v hv => hS.oldc (hsc _ _ hxb j v hv) (by simp)) (Sx.keep (hS.cell jM rfl) (Sx.keep (fun j v hv => hS.oldc (hsc _ _ hxc j v hv) (by simp)) (Sx.none))))))) ?_
  refine jA 28 rfl ?_
  refine WL.alloc F.zero35 rfl (fun b7 => ?_)
  rotate_left
  refine WL.alloc F.zero35 rfl (fun b7 => ?_)
  refine WD.on (closed_of (by decide +kernel)) (fun w hS => Sx.keep (hS.cell jM rfl) (Sx.keep (fun j v hv => hS.oldc (hsc _ _ hxa j v hv) (by simp)) (Sx.keep (hS.cell jM rfl) (Sx.keep (fun j v hv => hS.oldc (hsc _ _ hxb j v hv) (by simp)) (Sx.keep (hS.cell jM rfl) (Sx.keep (fun j v hv => hS.oldc (hsc _ _ hxc j v hv) (by simp)) (Sx.none))))))) ?_
  refine jA 27 rfl ?_
  refine WL.alloc F.zero35 rfl (fun b6 => ?_)
  rotate_left
  all_goals
   rotate_left
   all_goals
    refine WD.on (closed_of (by decide +kernel)) (fun w hS => Sx.keep (hS.cell jM rfl) (Sx.keep (fun j v hv => hS.oldc (hsc _ _ hxa j v hv) (by simp)) (Sx.keep (hS.cell jM rfl) (Sx.keep (fun j v hv => hS.oldc (hsc _ _ hxb j v hv) (by simp)) (Sx.keep (hS.cell jM rfl) (Sx.keep (fun j v hv => hS.oldc (hsc _ _ hxc j v hv) (by simp)) (Sx.none))))))) ?_
    refine jA 30 rfl ?_
    refine WL.storeN F.agg35 rfl rfl rfl jO jU jS ?_
    refine WD.on (closed_of (by decide +kernel)) (fun w hS => Sx.gone rfl (Sx.gone rfl (Sx.keep (hS.cell jM rfl) (Sx.keep (fun j v hv => hS.oldc (hsc _ _ hxb j v hv) (by simp)) (Sx.keep (hS.cell jM rfl) (Sx.keep (fun j v hv => hS.oldc (hsc _ _ hxc j v hv) (by simp)) (Sx.none))))))) ?_
    refine jA 31 rfl ?_
    refine WL.storeN F.agg35 rfl rfl rfl jO jU jS ?_
    refine WD.on (closed_of (by decide +kernel)) (fun w hS => Sx.gone rfl (Sx.gone rfl (Sx.gone rfl (Sx.gone rfl (Sx.keep (hS.cell jM rfl) (Sx.keep (fun j v hv => hS.oldc (hsc _ _ hxc j v hv) (by simp)) (Sx.none))))))) ?_
    refine jA 32 rfl ?_
    refine WL.storeN F.agg35 rfl rfl rfl jO jU jS ?_
    refine jG ?_
    refine jD ?_
    refine WQ.chunks (C' := [pt (b6,b7,b8).1 (dvl xa) 35,pt (b6,b7,b8).2.1 (dvl xb) 35,pt (b6,b7,b8).2.2 (dvl xc) 35,pt b2 x.cells 92,pt b4 [.slice none 0 0,.int .i64 0] 35]) (fun w hS => (jK hS)) ?_
    exact WQ.byCut (hQ (b6,b7,b8)) ⟨rfl,rfl,rfl,rfl,rfl,rfl,trivial⟩
 obtain ⟨b6,b7,b8⟩ := xE
 show WQ _ _ _ _ _ _ [(2,pp b2),(1,.slice (some ⟨bs,os,none⟩) s.length c),(4,pp b4),(6,pp b6),(7,pp b7),(8,pp b8)] [pt b6 (dvl xa) 35,pt b7 (dvl xb) 35,pt b8 (dvl xc) 35,pt b2 x.cells 92,pt b4 [.slice none 0 0,.int .i64 0] 35]
 refine jN 19 ?_
 refine WC.cond rfl (fun h38 => ?_) (fun h38 => ?_)
 ·have hd : x.doo = 1 := by (simp at h38; omega)
  refine jN 3 ?_
  refine jC (β := DRes (fun _ => true)) (res := fun z => z.v) (cs := fun z => [z.ch]) F.fun74 rfl (fun w hS _ => True_c w) (fun z => ?_)
  refine jN 9 ?_
  refine WQ.ret (rs := [.cell 4 35,.tmp 5]) rfl (.cellN F.agg35 rfl jM rfl (.tmp rfl .nil)) (fun w hS => ?_)
  exact (OneP.of z _ (jK hS)).weak fun cf => by simp [opD,hd]
 have hn1 : ¬ x.doo = 1 := by (simp at h38; omega)
 refine jN 8 ?_
 refine WC.cond rfl (fun h41 => ?_) (fun h41 => ?_)
 ·have hd : x.doo = 2 := by (simp at h41; omega)
  refine jN 1 ?_
  rcases (show (0 ≤ x.i ∧ x.i < 24) ∨ (x.i < 0 ∨ 24 ≤ x.i) by omega) with hki | hko
  ·obtain ⟨k,hk⟩ := Int.eq_ofNat_of_zero_le hki.1
   have hk24 : k < 24 := by omega
   refine jN 5 ?_
   refine WA.say 44 (.int .i64 (k : Int)) (by rw [show (k : Int) = x.i from hk.symm]; rfl) ?_
   refine jN 1 ?_
   refine jC (β := DRes (fun c => c k)) (res := fun z => .tuple #[z.v,.int .i64 0]) (cs := fun z => [z.ch]) F.fun99 rfl (fun w hS _ => Var_in k hk24 w) (fun z => ?_)
   refine jN 13 ?_
   refine WQ.ret (rs := [.cell 4 35,.tmp 5]) rfl (.cellN F.agg35 rfl jM rfl (.tmp rfl .nil)) (fun w hS => ?_)
   refine (OneP.of z _ (jK hS)).weak fun cf => ?_
   have e9 : x.i.toNat = k := by rw [hk]; rfl
   have e8 : decide (0 ≤ x.i ∧ x.i < 24) = true := decide_eq_true hki
   simp only [opD,hd]
   simp [e9,hki.1,hki.2]
  refine jN 6 ?_
  refine jC (β := DRes (fun _ => false)) (res := fun z => .tuple #[z.v,.int .i64 3]) (cs := fun z => [z.ch]) F.fun99 rfl (fun w hS _ => Var_out x.i hko w) (fun z => ?_)
  refine jN 13 ?_
  refine WQ.ret (rs := [.cell 4 35,.tmp 5]) rfl (.cellN F.agg35 rfl jM rfl (.tmp rfl .nil)) (fun w hS => ?_)
  refine (OneP.of z _ (jK hS)).weak fun cf => ?_
  have e8 : decide (0 ≤ x.i ∧ x.i < 24) = false := decide_eq_false (by omega)
  simp only [opD,hd,e8,Bool.false_and]
  rfl
 have hn2 : ¬ x.doo = 2 := by (simp at h41; omega)
 refine jN 8 ?_
 refine WC.cond rfl (fun h48 => ?_) (fun h48 => ?_)
 ·have hd : x.doo = 3 := by (simp at h48; omega)
  refine jN 11 ?_
  refine jC (β := DRes (fun c => cubeB x.f x.g 0 c)) (res := fun z => z.v) (cs := fun z => [z.ch]) F.fun107 rfl (fun w hS _ => Cube_c x.f x.g hw.f hw.g w) (fun z => ?_)
  refine jN 9 ?_
  refine WQ.ret (rs := [.cell 4 35,.tmp 5]) rfl (.cellN F.agg35 rfl jM rfl (.tmp rfl .nil)) (fun w hS => ?_)
  exact (OneP.of z _ (jK hS)).weak fun cf => by simp [opD,hd]
 have hn3 : ¬ x.doo = 3 := by (simp at h48; omega)
 refine jN 8 ?_
 refine WC.cond rfl (fun h55 => ?_) (fun h55 => ?_)
 ·have hd : x.doo = 4 := by (simp at h55; omega)
  refine jN 5 ?_
  refine jC (β := DRes (fun c => !xa.1.ev c)) (res := fun z => z.v) (cs := fun z => [z.ch]) F.fun100 rfl (fun w hS _ => Not_c xa.1 xa.2.1 xa.2.2 w ((hr.rd _ (List.mem_of_getElem? hxa)).next0 hS)) (fun z => ?_)
  refine jN 9 ?_
  refine WQ.ret (rs := [.cell 4 35,.tmp 5]) rfl (.cellN F.agg35 rfl jM rfl (.tmp rfl .nil)) (fun w hS => ?_)
  exact (OneP.of z _ (jK hS)).weak fun cf => by simp [opD,hd,hea]
 have hn4 : ¬ x.doo = 4 := by (simp at h55; omega)
 refine jN 8 ?_
 refine WC.cond rfl (fun h59 => ?_) (fun h59 => ?_)
 ·have hd : x.doo = 5 := by (simp at h59; omega)
  refine jN 7 ?_
  refine jC (β := DRes (fun c => xa.1.ev c && xb.1.ev c)) (res := fun z => z.v) (cs := fun z => [z.ch]) F.fun75 rfl (fun w hS _ => And_c xa.1 xb.1 xa.2.1 xb.2.1 xa.2.2 xb.2.2 w ((hr.rd _ (List.mem_of_getElem? hxa)).next0 hS) ((hr.rd _ (List.mem_of_getElem? hxb)).next0 hS)) (fun z => ?_)
  refine jN 9 ?_
  refine WQ.ret (rs := [.cell 4 35,.tmp 5]) rfl (.cellN F.agg35 rfl jM rfl (.tmp rfl .nil)) (fun w hS => ?_)
  exact (OneP.of z _ (jK hS)).weak fun cf => by simp [opD,hd,hea,heb]
 have hn5 : ¬ x.doo = 5 := by (simp at h59; omega)
 refine jN 8 ?_
 refine WC.cond rfl (fun h64 => ?_) (fun h64 => ?_)
 ·have hd : x.doo = 6 := by (simp at h64; omega)
  refine jN 7 ?_
  refine jC (β := DRes (fun c => xa.1.ev c || xb.1.ev c)) (res := fun z => z.v) (cs := fun z => [z.ch]) F.fun105 rfl (fun w hS _ => Or_c xa.1 xb.1 xa.2.1 xb.2.1 xa.2.2 xb.2.2 w ((hr.rd _ (List.mem_of_getElem? hxa)).next0 hS) ((hr.rd _ (List.mem_of_getElem? hxb)).next0 hS)) (fun z => ?_)
  refine jN 9 ?_
  refine WQ.ret (rs := [.cell 4 35,.tmp 5]) rfl (.cellN F.agg35 rfl jM rfl (.tmp rfl .nil)) (fun w hS => ?_)
  exact (OneP.of z _ (jK hS)).weak fun cf => by simp [opD,hd,hea,heb]
 have hn6 : ¬ x.doo = 6 := by (simp at h64; omega)
 refine jN 8 ?_
 refine WC.cond rfl (fun h69 => ?_) (fun h69 => ?_)
 ·have hd : x.doo = 7 := by (simp at h69; omega)
  refine jN 7 ?_
  refine jC (β := DRes (fun c => xa.1.ev c != xb.1.ev c)) (res := fun z => z.v) (cs := fun z => [z.ch]) F.fun104 rfl (fun w hS _ => Xor_c xa.1 xb.1 xa.2.1 xb.2.1 xa.2.2 xb.2.2 w ((hr.rd _ (List.mem_of_getElem? hxa)).next0 hS) ((hr.rd _ (List.mem_of_getElem? hxb)).next0 hS)) (fun z => ?_)
  refine jN 9 ?_
  refine WQ.ret (rs := [.cell 4 35,.tmp 5]) rfl (.cellN F.agg35 rfl jM rfl (.tmp rfl .nil)) (fun w hS => ?_)
  refine (OneP.of z _ (jK hS)).weak fun cf => ?_
  simp only [opD,hd,hea,heb]
  simp
 have hn7 : ¬ x.doo = 7 := by (simp at h69; omega)
 refine jN 8 ?_
 refine WC.cond rfl (fun h74 => ?_) (fun h74 => ?_)
 ·have hd : x.doo = 8 := by (simp at h74; omega)
  refine jN 9 ?_
  refine jC (β := DRes (fun cf => bif xa.1.ev cf then xb.1.ev cf else xc.1.ev cf)) (res := fun z => z.v) (cs := fun z => [z.ch]) F.fun106 rfl (fun w hS _ => Ite_c xa.1 xb.1 xc.1 xa.2.1 xb.2.1 xc.2.1 xa.2.2 xb.2.2 xc.2.2 w ((hr.rd _ (List.mem_of_getElem? hxa)).next0 hS) ((hr.rd _ (List.mem_of_getElem? hxb)).next0 hS) ((hr.rd _ (List.mem_of_getElem? hxc)).next0 hS)) (fun z => ?_)
  refine jN 9 ?_
  refine WQ.ret (rs := [.cell 4 35,.tmp 5]) rfl (.cellN F.agg35 rfl jM rfl (.tmp rfl .nil)) (fun w hS => ?_)
  refine (OneP.of z _ (jK hS)).weak fun cf => ?_
  simp only [opD,hd,hea,heb,hec]
  cases xa.1.ev cf <;> simp
 have hn8 : ¬ x.doo = 8 := by (simp at h74; omega)
 refine jN 8 ?_
 refine WC.cond rfl (fun h80 => ?_) (fun h80 => ?_)
 ·have hd : x.doo = 9 := by (simp at h80; omega)
  refine jN 13 ?_
  refine jC (β := DRes (fun c => xa.1.ev (updI c x.i x.on))) (res := fun z => z.v) (cs := fun z => [z.ch]) F.fun108 rfl (fun w hS _ => With_c xa.1 xa.2.1 xa.2.2 x.i x.on w ((hr.rd _ (List.mem_of_getElem? hxa)).next0 hS)) (fun z => ?_)
  refine jN 9 ?_
  refine WQ.ret (rs := [.cell 4 35,.tmp 5]) rfl (.cellN F.agg35 rfl jM rfl (.tmp rfl .nil)) (fun w hS => ?_)
  exact (OneP.of z _ (jK hS)).weak fun cf => by simp [opD,hd,hea]
 have hn9 : ¬ x.doo = 9 := by (simp at h80; omega)
 refine jN 8 ?_
 refine WC.cond rfl (fun h88 => ?_) (fun h88 => ?_)
 ·have hd : x.doo = 10 := by (simp at h88; omega)
  refine jN 9 ?_
  refine jC (β := EachX xa (eachF (fun p q => p || q) (featL (x.f &&& supT (canon xa.1).1)) xa.1.ev)) (res := fun y => dval y.1.x.1 y.1.x.2.1 y.1.x.2.2) (cs := fun y => [dsC y.1.F y.1.Bs]) F.fun109 rfl (fun w hS _ => (Exists_c xa.1 xa.2.1 xa.2.2 x.f hw.f w ((hr.rd _ (List.mem_of_getElem? hxa)).next0 hS)).mono (fun e w2 ⟨y,h1,h2,h3,h4,h5⟩ => ⟨⟨y,h1,h2,h3⟩,h4,h5⟩)) (fun ⟨y,hy1,hy2,hy3⟩ => ?_)
  refine jN 9 ?_
  refine WQ.ret (rs := [.cell 4 35,.tmp 5]) rfl (.cellN F.agg35 rfl jM rfl (.tmp rfl .nil)) (fun w hS => ?_)
  refine ⟨y,0,hy1.imp_left (fun e => by rw [e]; exact List.mem_of_getElem? hxa),hy2,fun cf => ?_,rfl,(jK hS)⟩
  rw [hy3,each_sup (by simp) (hr.rd _ (List.mem_of_getElem? hxa)).1]
  simp only [opD,hd,hea]
  rfl
 have hn10 : ¬ x.doo = 10 := by (simp at h88; omega)
 refine jN 8 ?_
 refine WC.cond rfl (fun h94 => ?_) (fun h94 => ?_)
 ·have hd : x.doo = 11 := by (simp at h94; omega)
  refine jN 9 ?_
  refine jC (β := EachX xa (eachF (fun p q => p && q) (featL (x.f &&& supT (canon xa.1).1)) xa.1.ev)) (res := fun y => dval y.1.x.1 y.1.x.2.1 y.1.x.2.2) (cs := fun y => [dsC y.1.F y.1.Bs]) F.fun110 rfl (fun w hS _ => (Forall_c xa.1 xa.2.1 xa.2.2 x.f hw.f w ((hr.rd _ (List.mem_of_getElem? hxa)).next0 hS)).mono (fun e w2 ⟨y,h1,h2,h3,h4,h5⟩ => ⟨⟨y,h1,h2,h3⟩,h4,h5⟩)) (fun ⟨y,hy1,hy2,hy3⟩ => ?_)
  refine jN 9 ?_
  refine WQ.ret (rs := [.cell 4 35,.tmp 5]) rfl (.cellN F.agg35 rfl jM rfl (.tmp rfl .nil)) (fun w hS => ?_)
  refine ⟨y,0,hy1.imp_left (fun e => by rw [e]; exact List.mem_of_getElem? hxa),hy2,fun cf => ?_,rfl,(jK hS)⟩
  rw [hy3,each_sup (by simp) (hr.rd _ (List.mem_of_getElem? hxa)).1]
  simp only [opD,hd,hea]
  rfl
 have hn11 : ¬ x.doo = 11 := by (simp at h94; omega)
 refine jN 8 ?_
 refine WC.cond rfl (fun h100 => ?_) (fun h100 => ?_)
 ·have hd : x.doo = 12 := by (simp at h100; omega)
  refine jN 15 ?_
  refine jC (β := DRes (fun cf => inB x.i x.j (selN x.f cf 24))) (res := fun z => z.v) (cs := fun z => [z.ch]) F.fun111 rfl (fun w hS _ => Between_c x.f x.i x.j hw.f w) (fun z => ?_)
  refine jN 9 ?_
  refine WQ.ret (rs := [.cell 4 35,.tmp 5]) rfl (.cellN F.agg35 rfl jM rfl (.tmp rfl .nil)) (fun w hS => ?_)
  exact (OneP.of z _ (jK hS)).weak fun cf => by simp [opD,hd]
 have hn12 : ¬ x.doo = 12 := by (simp at h100; omega)
 refine jN 8 ?_
 refine WC.cond rfl (fun h109 => ?_) (fun h109 => ?_)
 ·have hd : x.doo = 13 := by (simp at h109; omega)
  refine jN 1 ?_
  refine WC.chunks (fun w hS => hS.rowNil 2 1) ?_
  refine WC.drawsL (by kernel_rfl) (FactsOk.cons (ds := [2,7,10]) (LoadOk.one (t := 2) (off := 10) rfl jM rfl) (FactsOk.cons (ds := [7,10]) (LoadOk.one (t := 2) (off := 1) rfl jM rfl) (FactsOk.cons (ds := [7,10]) (LoadOk.one (t := 2) (off := 11) rfl jM rfl) (FactsOk.nil)))) ?_
  refine jT 0 rfl (Yl.fieldAddr0 F.fld92_10 rfl) ?_
  refine jF 1 0 rfl rfl (Yl.load1 F.one90 rfl) ?_
  refine jT 3 rfl (Yl.fieldAddr0 F.fld92_1 rfl) ?_
  refine jF 4 1 rfl rfl (Yl.load1 F.one5 rfl) ?_
  refine jT 5 rfl (Yl.fieldAddr0 F.fld92_11 rfl) ?_
  refine jF 6 2 rfl rfl (Yl.load1 F.one2 rfl) ?_
  refine jA 2 rfl ?_
  refine WL.appendC (n := 0) (v := .slice none 0 0) (xs := []) (news := x.l.map (Value.int .i64)) F.el90 rfl rfl rfl jR (fun w hS hm => (RdC.nextO hrl hS).news hm) (by simp) (ints_one _) (Nat.le_trans (m := 1099511627776) (by omega) (by decide)) (by omega) (fun ad ac => ?_)
  rw [Nat.zero_add,List.nil_append]
  refine WD.on (closed_of (by decide +kernel)) (fun w hS => Sx.gone rfl (Sx.keep (hS.cell jM rfl) (Sx.keep (hS.cell jM rfl) (Sx.none)))) ?_
  refine jA 7 rfl ?_
  refine jC (β := DRes (fun cf => costsB x.l && (decide (1 ≤ x.rel ∧ x.rel ≤ 3) && relB x.rel (tailN x.l cf 24) x.bound))) (res := fun z => .tuple #[z.v,.int .i64 (if linB x.l x.rel then 0 else 2)]) (cs := fun z => [z.ch]) F.fun112 rfl (fun w hS _ => Linear_c x.l x.rel x.bound (by omega) hw.bound ad ac w (RdC.of_row rfl (hS.ok (rowc (.slice ad x.l.length ac) x.l.length 2 1 (x.l.map (Value.int .i64))) jM))) (fun z => ?_)
  refine jG ?_
  refine jT 8 rfl (Yl.extract rfl rfl) ?_
  refine jT 9 rfl (Yl.extract rfl rfl) ?_
  refine jA 10 rfl ?_
  refine WL.storeN F.agg35 rfl rfl rfl jO jU jS ?_
  refine jG ?_
  refine jT 11 rfl (Yl.assign rfl) ?_
  refine jD ?_
  refine jN 4 ?_
  refine WQ.ret (rs := [.cell 4 35,.tmp 5]) rfl (.cellN F.agg35 rfl jM rfl (.tmp rfl .nil)) (fun w hS => ?_)
  refine (OneP.of z _ (jK hS)).weak fun cf => ?_
  simp only [opD,hd,linD]
  rfl
 have hn13 : ¬ x.doo = 13 := by (simp at h109; omega)
 refine jN 8 ?_
 refine WC.cond rfl (fun h121 => ?_) (fun h121 => ?_)
 ·have hd : x.doo = 14 := by (simp at h121; omega)
  refine jN 5 ?_
  refine jC (β := DRes (fun cf => s.all (fun x => x.1.ev cf))) (res := fun z => z.v) (cs := fun z => [z.ch]) F.fun101 rfl (fun w hS _ => AndAll_c s (some ⟨bs,os,none⟩) c (by omega) w (hr.next hS)) (fun z => ?_)
  refine jN 9 ?_
  refine WQ.ret (rs := [.cell 4 35,.tmp 5]) rfl (.cellN F.agg35 rfl jM rfl (.tmp rfl .nil)) (fun w hS => ?_)
  refine (OneP.of z _ (jK hS)).weak fun cf => ?_
  simp only [opD,hd]
  simp [Function.comp_def]
 have hn14 : ¬ x.doo = 14 := by (simp at h121; omega)
 refine jN 8 ?_
 refine WC.cond rfl (fun h125 => ?_) (fun h125 => ?_)
 ·have hd : x.doo = 15 := by (simp at h125; omega)
  refine jN 5 ?_
  refine jC (β := DRes (fun cf => s.any (fun x => x.1.ev cf))) (res := fun z => z.v) (cs := fun z => [z.ch]) F.fun102 rfl (fun w hS _ => OrAll_c s (some ⟨bs,os,none⟩) c (by omega) w (hr.next hS)) (fun z => ?_)
  refine jN 9 ?_
  refine WQ.ret (rs := [.cell 4 35,.tmp 5]) rfl (.cellN F.agg35 rfl jM rfl (.tmp rfl .nil)) (fun w hS => ?_)
  refine (OneP.of z _ (jK hS)).weak fun cf => ?_
  simp only [opD,hd]
  simp [Function.comp_def]
 have hn15 : ¬ x.doo = 15 := by (simp at h125; omega)
 refine jN 6 ?_
 refine jC (β := DRes (fun _ => false)) (res := fun z => z.v) (cs := fun z => [z.ch]) F.fun103 rfl (fun w hS _ => False_c w) (fun z => ?_)
 refine jN 7 ?_
 refine WQ.ret (rs := [.cell 4 35,.tmp 5]) rfl (.cellN F.agg35 rfl jM rfl (.tmp rfl .nil)) (fun w hS => ?_)
 exact (OneP.of z 0 (jK hS)).weak fun cf => by simp only [opD,hn1,hn2,hn3,hn4,hn5,hn6,hn7,hn8,hn9,hn10,hn11,hn12,hn13,hn14,hn15]; simp
theorem St.dsZero {w0 w : World} {O : List Nat} {C : List Chunk} (h : St w0 O C w) : St w0 O (dsC [] [(.lf false,none,0)] :: C) w :=
 (St.dsNil h).swap (fun _ x hx => by
  rw [List.mem_singleton.1 hx]
  exact ⟨trivial,fun j u hu => by cases hu⟩) (fun k hk => hk)
abbrev evs' (ds : List DV) : List (Cf → Bool) := ds.map (fun y => y.1.ev)
theorem mk_step {l : List OpV} {i : Nat} {x : OpV} (hx : l[i]? = some x) {ds : List DV} (h : evs' ds = mkD (l.take i)) {y : DV} (hy : ∀ cf,y.1.ev cf = opD x (evs' ds) cf) : evs' (ds ++ [y]) = mkD (l.take (i + 1)) := by
 rw [mkD_take hx,← h]
 unfold evs'
 rw [List.map_append]
 congr 1
 show [y.1.ev] = _
 congr 1
 funext cf
 exact hy cf
theorem snoc_len {α : Type} (l : List α) (x : α) : (l ++ [x]).length = l.length + 1 := by simp
end Go.Proofs.YtkgllhkhdjodeaaGreat
