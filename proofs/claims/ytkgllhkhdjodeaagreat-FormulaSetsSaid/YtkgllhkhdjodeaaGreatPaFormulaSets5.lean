/- Parts of the walk, put together by a program. By an AI agent. -/
import Derived.Test.YtkgllhkhdjodeaaGreatPaFormulaSets4
set_option linter.unusedSimpArgs false
set_option linter.unusedVariables false
namespace Go.Proofs.YtkgllhkhdjodeaaGreat
open Go Go.Eng Go.Proofs Dg
def padN (n : Nat) (S : List Nat) : List Nat := S ++ List.replicate (n - S.length) 0
theorem padN_len {n : Nat} {S : List Nat} (h : S.length ≤ n) : (padN n S).length = n := by
 unfold padN; rw [List.length_append,List.length_replicate]; omega
theorem padN_full {n : Nat} {S : List Nat} (h : S.length = n) : padN n S = S := by
 unfold padN; rw [h,Nat.sub_self]; simp
theorem padN_set {n : Nat} {S : List Nat} (h : S.length < n) (p : Nat) : (padN n S).set S.length p = padN n (S ++ [p]) := by
 unfold padN
 rw [List.set_append_right _ _ (Nat.le_refl _),Nat.sub_self,show n - S.length = (n - (S ++ [p]).length) + 1 by (rw [List.length_append,List.length_singleton]; omega),List.replicate_succ,List.set_cons_zero,List.append_assoc]
 rfl
theorem padN_zero {n : Nat} {S : List Nat} (h : S.length < n) : padN n S = padN n (S ++ [0]) := by
 unfold padN
 rw [show n - S.length = (n - (S ++ [0]).length) + 1 by (rw [List.length_append,List.length_singleton]; omega),List.replicate_succ,List.append_assoc]
 rfl
theorem padN_nums (n : Nat) : List.replicate n (Value.int .i64 0) = nums (padN n []) := by
 unfold padN nums
 simp
theorem nums_setN {n k p : Nat} {S : List Nat} (hk : k = S.length) (h : S.length < n) : SetN (nums (padN n S)) k [.int .i64 (p : Int)] (nums (padN n (S ++ [p]))) := by
 subst hk
 have h7 := setN_set (nums (padN n S)) S.length (.int .i64 (p : Int)) (by unfold nums; rw [List.length_map,padN_len (by omega)]; exact h)
 have e : (nums (padN n S)).set S.length (.int .i64 (p : Int)) = nums (padN n (S ++ [p])) := by
  rw [← padN_set h]; unfold nums; rw [List.map_set]
 rwa [e] at h7
def startL (low high : Int) (k : Nat) : List Nat := (List.range k).map fun j => bif inB low high j then 1 else 0
theorem startL_len (low high : Int) (k : Nat) : (startL low high k).length = k := by simp [startL]
theorem startL_succ (low high : Int) (k : Nat) : startL low high (k + 1) = startL low high k ++ [bif inB low high k then 1 else 0] := by
 unfold startL; rw [List.range_succ,List.map_append]; rfl
theorem start_bet (low high : Int) (F : Nat) : BetI low high F 0 [] (startL low high (popN 24 F + 1)) := by
 refine ⟨by omega,Mk.nil,startL_len _ _ _,fun k r hk => ?_⟩
 unfold startL at hk
 rw [List.getElem?_map] at hk
 have hlt : k < popN 24 F + 1 := by
  rcases Nat.lt_or_ge k (popN 24 F + 1) with h | h
  ·exact h
  ·rw [List.getElem?_eq_none (by simpa using h)] at hk; cases hk
 rw [List.getElem?_range hlt] at hk
 simp only [Option.map_some,Option.some.injEq] at hk
 subst hk
 cases hb : inB low high k with
 | true => exact ⟨by simp,by simp only [cond_true]; rw [(trs_zero []).2]; trivial,fun cf => by simp only [cond_true]; rw [(trs_zero []).2]; simp [BT.ev,selN,hb]⟩
 | false => exact ⟨by simp,by simp only [cond_false]; rw [(trs_zero []).1]; trivial,fun cf => by simp only [cond_false]; rw [(trs_zero []).1]; simp [BT.ev,selN,hb]⟩
theorem popN_all (F : Nat) : popN 32 (F &&& 16777215) = popN 24 F := by
 have h : F &&& 16777215 < 2 ^ 24 := Nat.lt_of_le_of_lt Nat.and_le_right (by decide)
 rw [popN_24 h]
 refine popN_congr 24 _ _ fun j hj => ?_
 rw [Nat.testBit_and,show (16777215 : Nat) = 2 ^ 24 - 1 from rfl,Nat.testBit_two_pow_sub_one,decide_eq_true hj,Bool.and_true]
structure BetG where
 m : Nat
 G : List Nat
 l : List Dec
 b : Nat
 R : List Nat
structure NxtG where
 G : List Nat
 l : List Dec
 S : List Nat
set_option maxRecDepth 100000 in
theorem Between_c (M : Nat) (low high : Int) (hF : M < 4294967296) (w : World) : Calls Tryz.prog 111 [.int .u32 (M : Int),.int .i64 low,.int .i64 high].toArray w (DPost (fun cf => inB low high (selN M cf 24)) w) := by
 have hF1 : M &&& 16777215 < 4294967296 := Nat.lt_of_le_of_lt Nat.and_le_left hF
 have hpp : popN 24 M ≤ 24 := popN_le 24 M
 refine enter Tryz.func111 rfl Tryz.ntmps111 rfl (St.init _) ?_
 refine jN 3 ?_
 refine WL.alloc F.zero35 rfl (fun b6 => ?_)
 refine jN 5 ?_
 refine jC (β := List Nat × Nat) (res := fun x => pp x.2) (cs := fun x => [mkr x.1 x.2 []]) F.fun147 rfl (fun w hS _ => newMaker_c w) (fun ⟨G0,bm⟩ => ?_)
 refine jN 9 ?_
 refine WL.bin rfl rfl rfl (fun w => run_and (b := 16777215) hF (by decide) _ _ _ w) ?_
 refine jN 1 ?_
 refine WL.callV F.fun154 rfl rfl (fun w hS => Ones_c _ hF1 w) ?_
 rw [popN_all]
 refine jN 10 ?_
 refine WA.say 19 (.int .i64 (((popN 24 M + 1) : Nat) : Int)) rfl ?_
 refine jN 1 ?_
 refine WL.makeSlice (n := (popN 24 M + 1)) (e := 3) (z := .int .i64 0) (bytes := 8) F.und41 (by kernel_rfl) rfl rfl rfl rfl (by omega) (by omega) (fun b20 => ?_)
 refine jN 16 ?_
 refine WC.chunks (C' := [rowc (.slice (some ⟨b20,0,none⟩) (popN 24 M + 1) (popN 24 M + 1)) (popN 24 M + 1) 3 1 (nums (padN (popN 24 M + 1) (startL low high 0))),mkr G0 bm [],pt b6 [.slice none 0 0,.int .i64 0] 35]) (fun w hS => ?_) ?_
 ·have hS1 := St.rowOf (n := (popN 24 M + 1)) (sz := 1) ((St.pick hS (c := pt b20 (List.replicate (popN 24 M + 1) (Value.int .i64 0)) 3) jR)) (by rw [List.length_replicate,Nat.mul_one]) (Nat.le_trans (m := 1000) (by omega) (by decide))
  rw [padN_nums] at hS1
  exact (jK hS1)
 refine WC.loop (α := Nat) (fun k => k ≤ (popN 24 M + 1)) (fun k => [(0,.int .u32 (M : Int)),(1,.int .i64 low),(2,.int .i64 high),(6,pp b6),(7,pp bm),(9,.slice (some ⟨b20,0,none⟩) (popN 24 M + 1) (popN 24 M + 1)),(22,.int .i64 (((popN 24 M + 1) : Nat) : Int)),(23,.int .i64 (k : Int))]) (fun k => [rowc (.slice (some ⟨b20,0,none⟩) (popN 24 M + 1) (popN 24 M + 1)) (popN 24 M + 1) 3 1 (nums (padN (popN 24 M + 1) (startL low high k))),mkr G0 bm [],pt b6 [.slice none 0 0,.int .i64 0] 35]) (fun k => (popN 24 M + 1) - k) (0) ?_ ?_ ?_ ?_
 ·exact Nat.zero_le _
 ·exact ⟨rfl,rfl,rfl,rfl,rfl,rfl,rfl,rfl,trivial⟩
 ·rfl
 rintro k hk
 show WC _ _ _ _ _ _ _ [(0,.int .u32 (M : Int)),(1,.int .i64 low),(2,.int .i64 high),(6,pp b6),(7,pp bm),(9,.slice (some ⟨b20,0,none⟩) (popN 24 M + 1) (popN 24 M + 1)),(22,.int .i64 (((popN 24 M + 1) : Nat) : Int)),(23,.int .i64 (k : Int))] [rowc (.slice (some ⟨b20,0,none⟩) (popN 24 M + 1) (popN 24 M + 1)) (popN 24 M + 1) 3 1 (nums (padN (popN 24 M + 1) (startL low high k))),mkr G0 bm [],pt b6 [.slice none 0 0,.int .i64 0] 35]
 have hsl := startL_len low high k
 have hss := startL_succ low high k
 refine jN 7 ?_
 refine WC.cond rfl (fun h24 => ?_) (fun h24 => ?_)
 ·have hlt : k < (popN 24 M + 1) := by (simp at h24; omega)
  refine jN 22 ?_
  refine WA.splitB (i := 29) rfl (fun g29 => ?_) (fun g29 => ?_)
  ·have hlo : low ≤ (k : Int) := by simpa using g29
   refine jN 13 ?_
   refine WC.cond rfl (fun h33 => ?_) (fun h33 => ?_)
   have hhi : (k : Int) ≤ high := by simpa using h33
   have hib : inB low high k = true := by (unfold inB; rw [decide_eq_true hlo,decide_eq_true hhi]; rfl)
   rw [hib,cond_true] at hss
   refine jN 6 ?_
   refine WL.indexAddr F.sl41 rfl rfl rfl hlt ?_
   refine jN 1 ?_
   refine WL.storeRow1 (xs := nums (padN (popN 24 M + 1) (startL low high k))) (xs' := nums (padN (popN 24 M + 1) (startL low high (k + 1)))) F.one3 rfl rfl rfl jU (by rw [Nat.zero_add,Nat.mul_one,hss]; exact nums_setN (p := 1) hsl.symm (by omega)) ?_
   refine jN 9 ?_
   rotate_left
   have hhi : ¬ (k : Int) ≤ high := by simpa using h33
   have hib : inB low high k = false := by (unfold inB; rw [decide_eq_true hlo,decide_eq_false hhi]; rfl)
   rw [hib,cond_false] at hss
   refine jN 9 ?_
   have hz := padN_zero (n := (popN 24 M + 1)) (S := startL low high k) (by omega)
   rw [hz,← hss]
   rotate_left
   all_goals
    refine WQ.chunks (C' := [rowc (.slice (some ⟨b20,0,none⟩) (popN 24 M + 1) (popN 24 M + 1)) (popN 24 M + 1) 3 1 (nums (padN (popN 24 M + 1) (startL low high (k + 1)))),mkr G0 bm [],pt b6 [.slice none 0 0,.int .i64 0] 35]) (fun w hS => (jK hS)) ?_
    refine WQ.back (k + 1) ?_ ?_ ?_ ?_
    ·exact by (show k + 1 ≤ (popN 24 M + 1)); omega
    ·(show (popN 24 M + 1) - (k + 1) < (popN 24 M + 1) - k; omega)
    ·exact ⟨rfl,rfl,rfl,rfl,rfl,rfl,rfl,rfl,trivial⟩
    rfl
  have hlo : ¬ low ≤ (k : Int) := by simpa using g29
  have hib : inB low high k = false := by (unfold inB; rw [decide_eq_false hlo]; rfl)
  rw [hib,cond_false] at hss
  refine jN 20 ?_
  have hz := padN_zero (n := (popN 24 M + 1)) (S := startL low high k) (by omega)
  rw [hz,← hss]
  refine WQ.chunks (C' := [rowc (.slice (some ⟨b20,0,none⟩) (popN 24 M + 1) (popN 24 M + 1)) (popN 24 M + 1) 3 1 (nums (padN (popN 24 M + 1) (startL low high (k + 1)))),mkr G0 bm [],pt b6 [.slice none 0 0,.int .i64 0] 35]) (fun w hS => (jK hS)) ?_
  refine WQ.back (k + 1) ?_ ?_ ?_ ?_
  ·exact by (show k + 1 ≤ (popN 24 M + 1)); omega
  ·(show (popN 24 M + 1) - (k + 1) < (popN 24 M + 1) - k; omega)
  ·exact ⟨rfl,rfl,rfl,rfl,rfl,rfl,rfl,rfl,trivial⟩
  rfl
 have hke : k = (popN 24 M + 1) := by (simp at h24; omega)
 subst hke
 rw [padN_full hsl]
 refine jN 13 ?_
 refine WC.chunks (C' := [rowc (.slice (some ⟨b20,0,none⟩) (startL low high (popN 24 M + 1)).length (startL low high (popN 24 M + 1)).length) (startL low high (popN 24 M + 1)).length 3 1 (nums (startL low high (popN 24 M + 1))),mkr G0 bm [],pt b6 [.slice none 0 0,.int .i64 0] 35]) (fun w hS => ?_) ?_
 ·rw [hsl]; exact (jK hS)
 refine WC.facts (M := [(0,.int .u32 (M : Int)),(6,pp b6),(7,pp bm),(9,.slice (some ⟨(⟨24,G0,[],b20,startL low high (popN 24 M + 1)⟩ : BetG).b,0,none⟩) (⟨24,G0,[],b20,startL low high (popN 24 M + 1)⟩ : BetG).R.length (⟨24,G0,[],b20,startL low high (popN 24 M + 1)⟩ : BetG).R.length),(11,.int .i64 (((⟨24,G0,[],b20,startL low high (popN 24 M + 1)⟩ : BetG).m : Int) - 1))]) (by rw [hsl]; exact ⟨rfl,rfl,rfl,rfl,rfl,trivial⟩) ?_
 refine WC.loop (α := BetG) (fun g => g.m ≤ 24 ∧ BetI low high M (24 - g.m) g.l g.R ∧ g.l.length ≤ 24 * (24 - g.m) ∧ g.R.length ≤ 25) (fun g => [(0,.int .u32 (M : Int)),(6,pp b6),(7,pp bm),(9,.slice (some ⟨g.b,0,none⟩) g.R.length g.R.length),(11,.int .i64 ((g.m : Int) - 1))]) (fun g => [rowc (.slice (some ⟨g.b,0,none⟩) g.R.length g.R.length) g.R.length 3 1 (nums g.R),mkr g.G bm g.l,pt b6 [.slice none 0 0,.int .i64 0] 35]) (fun g => g.m) (⟨24,G0,[],b20,startL low high (popN 24 M + 1)⟩) ?_ ?_ ?_ ?_
 ·exact ⟨Nat.le_refl _,start_bet low high M,Nat.zero_le _,(by show (startL low high (popN 24 M + 1)).length ≤ 25; omega)⟩
 ·exact ⟨rfl,rfl,rfl,rfl,rfl,trivial⟩
 ·rfl
 rintro ⟨m,G,l,b,R⟩ ⟨hm24,hI,hll,hR25⟩
 dsimp only at hm24 hI hll hR25
 show WC _ _ _ _ _ _ _ [(0,.int .u32 (M : Int)),(6,pp b6),(7,pp bm),(9,.slice (some ⟨b,0,none⟩) R.length R.length),(11,.int .i64 ((m : Int) - 1))] [rowc (.slice (some ⟨b,0,none⟩) R.length R.length) R.length 3 1 (nums R),mkr G bm l,pt b6 [.slice none 0 0,.int .i64 0] 35]
 refine jN 9 ?_
 refine WC.cond rfl (fun h39 => ?_) (fun h39 => ?_)
 ·obtain ⟨k,rfl⟩ : ∃ k,m = k + 1 := ⟨m - 1,by (simp at h39; omega)⟩
  have hki : (((k + 1 : Nat) : Int) - 1) = (k : Int) := by omega
  have hd : 24 - (k + 1) < 24 := by omega
  have hk23 : 23 - (24 - (k + 1)) = k := by omega
  have hdk : 24 - (k + 1) + 1 = 24 - k := by omega
  refine jN 11 ?_
  refine WA.say 43 (.int .i64 (k : Int)) (by rw [← hki]; rfl) ?_
  refine jN 1 ?_
  refine WL.bin rfl rfl rfl (fun w => run_shr (by omega) _ _ _ w) ?_
  refine jN 1 ?_
  refine WL.bin rfl rfl rfl (fun w => run_and (b := 1) (Nat.lt_of_le_of_lt (by rw [Nat.shiftRight_eq_div_pow]; exact Nat.div_le_self _ _) hF) (by decide) _ _ _ w) ?_
  refine jN 4 ?_
  refine WC.cond rfl (fun h46 => ?_) (fun h46 => ?_)
  ·have hbf : M.testBit k = false := by
    cases hz : M.testBit k with
    | false => rfl
    | true => exfalso; rw [(bit_odd M k).2 hz] at h46; simp at h46
   have hI2 := hI.skip hd (by rw [hk23]; exact hbf)
   rw [hdk] at hI2
   refine jN 9 ?_
   refine WA.say 41 (.int .i64 ((k : Int) - 1)) (by rw [← hki]; rfl) ?_
   refine jN 3 ?_
   refine WQ.chunks (C' := [rowc (.slice (some ⟨b,0,none⟩) R.length R.length) R.length 3 1 (nums R),mkr G bm l,pt b6 [.slice none 0 0,.int .i64 0] 35]) (fun w hS => (jK hS)) ?_
   refine WQ.back (⟨k,G,l,b,R⟩) ?_ ?_ ?_ ?_
   ·exact ⟨by show k ≤ 24; omega,hI2,by dsimp only; omega,by dsimp only; omega⟩
   ·(show k < k + 1; omega)
   ·exact ⟨rfl,rfl,rfl,rfl,rfl,trivial⟩
   rfl
  have hbt : M.testBit k = true := by
   refine (bit_odd M k).1 ?_
   have h9 : (M >>> k) &&& 1 ≠ 0 := fun e => by (rw [e] at h46; simp at h46)
   have h8 : (M >>> k) &&& 1 < 2 := Nat.lt_of_le_of_lt Nat.and_le_right (by decide)
   omega
  have hbt2 : M.testBit (23 - (24 - (k + 1))) = true := by rw [hk23]; exact hbt
  have hR2 : 2 ≤ R.length := by
   have h9 := hI.len
   rw [show 24 - (24 - (k + 1)) = k + 1 by omega,popN_succ,hbt,if_pos rfl] at h9
   omega
  refine jN 10 ?_
  refine WA.say 49 (.int .i64 (((R.length - 1) : Nat) : Int)) (by rw [show (((R.length - 1) : Nat) : Int) = (R.length : Int) - 1 by omega]; rfl) ?_
  refine jN 1 ?_
  refine WL.makeSlice (n := (R.length - 1)) (e := 3) (z := .int .i64 0) (bytes := 8) F.und41 (by kernel_rfl) rfl rfl rfl rfl (by omega) (by omega) (fun b50 => ?_)
  refine jN 16 ?_
  refine WC.chunks (C' := [rowc (.slice (some ⟨b50,0,none⟩) (R.length - 1) (R.length - 1)) (R.length - 1) 3 1 (nums (padN (R.length - 1) (⟨G,l,[]⟩ : NxtG).S)),mkr (⟨G,l,[]⟩ : NxtG).G bm (⟨G,l,[]⟩ : NxtG).l,rowc (.slice (some ⟨b,0,none⟩) R.length R.length) R.length 3 1 (nums R),pt b6 [.slice none 0 0,.int .i64 0] 35]) (fun w hS => ?_) ?_
  ·have hS1 := St.rowOf (n := (R.length - 1)) (sz := 1) ((St.pick hS (c := pt b50 (List.replicate (R.length - 1) (Value.int .i64 0)) 3) jR)) (by rw [List.length_replicate,Nat.mul_one]) (Nat.le_trans (m := 1000) (by omega) (by decide))
   rw [padN_nums] at hS1
   exact (jK hS1)
  refine WC.facts (M := [(0,.int .u32 (M : Int)),(6,pp b6),(7,pp bm),(9,.slice (some ⟨b,0,none⟩) R.length R.length),(11,.int .i64 (k : Int)),(12,.slice (some ⟨b50,0,none⟩) (R.length - 1) (R.length - 1)),(52,.int .i64 (((R.length - 1) : Nat) : Int)),(53,.int .i64 ((⟨G,l,[]⟩ : NxtG).S.length : Int))]) (by rw [← hki]; exact ⟨rfl,rfl,rfl,rfl,rfl,rfl,rfl,rfl,trivial⟩) ?_
  refine WC.loop (α := NxtG) (fun g => BetN low high M (24 - (k + 1)) g.l R g.S ∧ g.S.length ≤ (R.length - 1) ∧ g.l.length ≤ 24 * (24 - (k + 1)) + g.S.length) (fun g => [(0,.int .u32 (M : Int)),(6,pp b6),(7,pp bm),(9,.slice (some ⟨b,0,none⟩) R.length R.length),(11,.int .i64 (k : Int)),(12,.slice (some ⟨b50,0,none⟩) (R.length - 1) (R.length - 1)),(52,.int .i64 (((R.length - 1) : Nat) : Int)),(53,.int .i64 (g.S.length : Int))]) (fun g => [rowc (.slice (some ⟨b50,0,none⟩) (R.length - 1) (R.length - 1)) (R.length - 1) 3 1 (nums (padN (R.length - 1) g.S)),mkr g.G bm g.l,rowc (.slice (some ⟨b,0,none⟩) R.length R.length) R.length 3 1 (nums R),pt b6 [.slice none 0 0,.int .i64 0] 35]) (fun g => (R.length - 1) - g.S.length) (⟨G,l,[]⟩) ?_ ?_ ?_ ?_
  ·exact ⟨⟨hI,fun j r hj => by simp at hj⟩,Nat.zero_le _,hll⟩
  ·exact ⟨rfl,rfl,rfl,rfl,rfl,rfl,rfl,rfl,trivial⟩
  ·rfl
  rintro ⟨G1,l1,S⟩ ⟨hN,hSl,hl1⟩
  dsimp only at hN hSl hl1
  show WC _ _ _ _ _ _ _ [(0,.int .u32 (M : Int)),(6,pp b6),(7,pp bm),(9,.slice (some ⟨b,0,none⟩) R.length R.length),(11,.int .i64 (k : Int)),(12,.slice (some ⟨b50,0,none⟩) (R.length - 1) (R.length - 1)),(52,.int .i64 (((R.length - 1) : Nat) : Int)),(53,.int .i64 (S.length : Int))] [rowc (.slice (some ⟨b50,0,none⟩) (R.length - 1) (R.length - 1)) (R.length - 1) 3 1 (nums (padN (R.length - 1) S)),mkr G1 bm l1,rowc (.slice (some ⟨b,0,none⟩) R.length R.length) R.length 3 1 (nums R),pt b6 [.slice none 0 0,.int .i64 0] 35]
  refine jN 7 ?_
  refine WC.cond rfl (fun h54 => ?_) (fun h54 => ?_)
  ·have hlt : S.length < (R.length - 1) := by (simp at h54; omega)
   obtain ⟨lo,hlo⟩ : ∃ x,R[S.length]? = some x := ⟨_,List.getElem?_eq_getElem (by omega)⟩
   obtain ⟨hi,hhi⟩ : ∃ x,R[S.length + 1]? = some x := ⟨_,List.getElem?_eq_getElem (by omega)⟩
   have hlo2 := hN.cur.at' _ _ hlo
   have hhi2 := hN.cur.at' _ _ hhi
   refine jN 12 ?_
   refine WC.draws [([13,15],fun w => w.cell? ⟨b,0 + S.length * 1,none⟩ = some (.int .i64 (lo : Int))),([13,15],fun w => w.cell? ⟨b,0 + (S.length + 1) * 1,none⟩ = some (.int .i64 (hi : Int)))] (by kernel_rfl) (fun w hS => facts_cons (by rw [Nat.zero_add,Nat.mul_one]; exact rowc_cell (hS.ok (rowc (.slice (some ⟨b,0,none⟩) R.length R.length) R.length 3 1 (nums R)) jM) (nums_at hlo)) (facts_cons (by rw [Nat.zero_add,Nat.mul_one]; exact rowc_cell (hS.ok (rowc (.slice (some ⟨b,0,none⟩) R.length R.length) R.length 3 1 (nums R)) jM) (nums_at hhi)) (facts_nil))) ?_
   refine jT 0 rfl (Yl.move rfl) ?_
   refine jT 1 rfl (Yl.move rfl) ?_
   refine jT 2 rfl (Yl.move rfl) ?_
   refine jT 3 rfl (Yl.move rfl) ?_
   refine jT 4 rfl (Yl.move rfl) ?_
   refine jT 5 rfl (Yl.move rfl) ?_
   refine jT 6 rfl (Yl.indexAddr (i := S.length) F.sl41 rfl rfl (by omega)) ?_
   refine jF 7 0 rfl rfl (Yl.load1 F.one3 rfl) ?_
   refine jT 8 rfl (Yl.move rfl) ?_
   refine jT 9 rfl (Yl.move rfl) ?_
   refine jT 10 rfl (Yl.add rfl rfl ⟨by omega,by omega⟩) ?_
   refine jT 11 rfl (Yl.indexAddr (i := S.length + 1) F.sl41 rfl rfl (by omega)) ?_
   refine jF 12 1 rfl rfl (Yl.load1 F.one3 rfl) ?_
   refine jA 13 rfl ?_
   refine WL.callC (β := { z : List Nat × List Dec × Nat // MadeN l1 z.2.1 z.2.2 (mkN k (trs l1 lo) (trs l1 hi)) ∧ z.2.1.length ≤ l1.length + 1 }) (res := fun z => .int .i64 (z.1.2.2 : Int)) (cs := fun z => [mkr z.1.1 bm z.1.2.1]) (Cs := [mkr G1 bm l1]) (C1 := [rowc (.slice (some ⟨b50,0,none⟩) (R.length - 1) (R.length - 1)) (R.length - 1) 3 1 (nums (padN (R.length - 1) S)),rowc (.slice (some ⟨b,0,none⟩) R.length R.length) R.length 3 1 (nums R),pt b6 [.slice none 0 0,.int .i64 0] 35]) (O' := G1) F.fun149 (fun d h => by cases h; rfl) rfl (List.Perm.swap _ _ _) bun_O1 bun_O2 (fun w hS hS2 => mnode_c G1 bm l1 k lo hi w (by omega) hN.cur.mkl hlo2.1 hhi2.1 (by omega) hS2) (fun ⟨⟨G2,l2,r2⟩,hm2,hl2⟩ => ?_)
   refine jG ?_
   dsimp only at hm2 hl2 ⊢
   have hN2 := hN.next hd hbt2 hlo hhi (by rw [hk23]; exact hm2)
   refine jT 14 rfl (Yl.indexAddr (i := S.length) F.sl41 rfl rfl hlt) ?_
   refine jA 15 rfl ?_
   refine WL.storeRow1 (xs := nums (padN (R.length - 1) S)) (xs' := nums (padN (R.length - 1) (S ++ [r2]))) F.one3 rfl rfl rfl jU (by rw [Nat.zero_add,Nat.mul_one]; exact nums_setN rfl hlt) ?_
   refine jG ?_
   refine jD ?_
   refine jN 8 ?_
   refine WQ.chunks (C' := [rowc (.slice (some ⟨b50,0,none⟩) (R.length - 1) (R.length - 1)) (R.length - 1) 3 1 (nums (padN (R.length - 1) (⟨G2,l2,S ++ [r2]⟩ : NxtG).S)),mkr (⟨G2,l2,S ++ [r2]⟩ : NxtG).G bm (⟨G2,l2,S ++ [r2]⟩ : NxtG).l,rowc (.slice (some ⟨b,0,none⟩) R.length R.length) R.length 3 1 (nums R),pt b6 [.slice none 0 0,.int .i64 0] 35]) (fun w hS => (jK hS)) ?_
   refine WQ.say 53 (.int .i64 ((S ++ [r2]).length : Int)) (by rw [List.length_append,List.length_singleton]; rfl) ?_
   refine WQ.back (⟨G2,l2,S ++ [r2]⟩) ?_ ?_ ?_ ?_
   ·exact ⟨hN2,by simp only [List.length_append,List.length_singleton]; omega,by simp only [List.length_append,List.length_singleton]; omega⟩
   ·(show (R.length - 1) - (S ++ [r2]).length < (R.length - 1) - S.length; simp only [List.length_append,List.length_singleton]; omega)
   ·exact ⟨rfl,rfl,rfl,rfl,rfl,rfl,rfl,rfl,trivial⟩
   rfl
  have hSe : S.length = (R.length - 1) := by (simp at h54; omega)
  rw [padN_full hSe]
  have hI2 := hN.done hd hbt2 (by omega)
  rw [hdk] at hI2
  rw [← hSe]
  refine jN 18 ?_
  refine WA.say 41 (.int .i64 ((k : Int) - 1)) (by rw [← hki]; rfl) ?_
  refine jN 3 ?_
  refine WQ.chunks (C' := [rowc (.slice (some ⟨b50,0,none⟩) S.length S.length) S.length 3 1 (nums S),mkr G1 bm l1,pt b6 [.slice none 0 0,.int .i64 0] 35]) (fun w hS => (jK hS)) ?_
  refine WQ.back (⟨k,G1,l1,b50,S⟩) ?_ ?_ ?_ ?_
  ·exact ⟨by show k ≤ 24; omega,hI2,by dsimp only; omega,by dsimp only; omega⟩
  ·(show k < k + 1; omega)
  ·exact ⟨rfl,rfl,rfl,rfl,rfl,trivial⟩
  rfl
 have hm0 : m = 0 := by (simp at h39; omega)
 subst hm0
 refine jN 7 ?_
 have hR1 : R.length = 1 := by (have h9 := hI.len; rw [h9]; rfl)
 obtain ⟨r,hr0⟩ : ∃ r,R[0]? = some r := ⟨_,List.getElem?_eq_getElem (by omega)⟩
 obtain ⟨hr1,hr2,hr3⟩ := hI.at' _ _ hr0
 refine jN 5 ?_
 refine WL.indexAddr (i := 0) F.sl41 rfl rfl rfl (by omega) ?_
 refine jN 1 ?_
 refine WL.load1 F.one3 rfl rfl (v := .int .i64 (r : Int)) (fun w hS => by rw [Nat.zero_add,Nat.mul_one]; exact rowc_cell (hS.ok (rowc (.slice (some ⟨b,0,none⟩) R.length R.length) R.length 3 1 (nums R)) jM) (nums_at hr0)) ?_
 refine jN 1 ?_
 refine WL.callC (β := Option Addr × Nat) (res := fun z => dval (trs l r) z.1 z.2) (cs := fun z => [dC z.1 z.2 (trs l r)]) (Cs := [mkr G bm l]) (C1 := [rowc (.slice (some ⟨b,0,none⟩) R.length R.length) R.length 3 1 (nums R),pt b6 [.slice none 0 0,.int .i64 0] 35]) (O' := G) F.fun148 (fun d h => by cases h; rfl) rfl (List.Perm.swap _ _ _) bun_O1 bun_O2 (fun w hS hS2 => done_c G bm l r w hI.mkl hr1 hr2 (by omega) hS2) (fun z3 => ?_)
 refine jN 5 ?_
 refine WQ.ret (rs := [.cell 6 35]) rfl (.cellN F.agg35 rfl jM rfl .nil) (fun w hS => ⟨⟨(trs l r,z3),hr2,fun c => by rw [hr3,Nat.zero_add]⟩,rfl,(jK hS)⟩)
def spans (l : List SpanV) : List Value := l.flatMap fun s => [.int .i64 s.1,.int .i64 s.2.1,.int .i64 (s.2.2 : Int)]
theorem spans_append (l m : List SpanV) : spans (l ++ m) = spans l ++ spans m := by simp [spans]
theorem spans_one (x : SpanV) : spans [x] = [.int .i64 x.1,.int .i64 x.2.1,.int .i64 (x.2.2 : Int)] := by simp [spans]
theorem spans_at : ∀ {l : List SpanV} {k : Nat} {x : SpanV},l[k]? = some x → ∀ j u,[Value.int .i64 x.1,.int .i64 x.2.1,.int .i64 (x.2.2 : Int)][j]? = some u → (spans l)[k * 3 + j]? = some u
 | [],k,x,h,_,_,_ => by simp at h
 | y :: l,0,x,h,j,u,hj => by
  simp only [List.getElem?_cons_zero,Option.some.injEq] at h
  subst h
  have hjl := (List.getElem?_eq_some_iff.1 hj).1
  show ([Value.int .i64 y.1,.int .i64 y.2.1,.int .i64 (y.2.2 : Int)] ++ spans l)[0 * 3 + j]? = _
  rw [Nat.zero_mul,Nat.zero_add,List.getElem?_append_left hjl]
  exact hj
 | y :: l,k + 1,x,h,j,u,hj => by
  simp only [List.getElem?_cons_succ] at h
  have ih := spans_at h j u hj
  show ([Value.int .i64 y.1,.int .i64 y.2.1,.int .i64 (y.2.2 : Int)] ++ spans l)[(k + 1) * 3 + j]? = _
  rw [List.getElem?_append_right (by simp; omega)]
  simp only [List.length_cons,List.length_nil]
  rw [show (k + 1) * 3 + j - (0 + 1 + 1 + 1) = k * 3 + j by omega]
  exact ih
abbrev KRow := Value × List SpanV
def rowOf (x : KRow) : Chunk := rowc x.1 x.2.length 214 3 (spans x.2)
def kRows (KV : List KRow) : Chunk := bun (KV.flatMap fun x => ob x.1) (fun _ : Unit => KV.map rowOf) (fun _ => True)
theorem fpl_rows : ∀ KV : List KRow,FpL (KV.map rowOf) (KV.flatMap fun x => ob x.1)
 | [] => FpL.nil
 | x :: KV => by
  simp only [List.map_cons,List.flatMap_cons]
  exact FpL.cons FpIs.rowc (fpl_rows KV)
theorem erase_perm {α : Type} : ∀ {l : List α} {i : Nat} (h : i < l.length),(l[i] :: l.eraseIdx i).Perm l
 | _ :: _,0,_ => List.Perm.refl _
 | x :: l,i + 1,h => (List.Perm.swap _ _ _).trans ((erase_perm (l := l) (i := i) (Nat.lt_of_succ_lt_succ h)).cons x)
section
variable {w0 : World} {O : List Nat} {C : List Chunk}
theorem St.kOpen {w : World} {KV : List KRow} {i : Nat} {x : KRow} (hx : KV[i]? = some x) (h : St w0 O (kRows KV :: C) w) : St w0 O (rowOf x :: kRows (KV.eraseIdx i) :: C) w := by
 obtain ⟨_,_,_,_,h⟩ := St.bunOpen h
 obtain ⟨hi,rfl⟩ := List.getElem?_eq_some_iff.1 hx
 have hp : (KV.map rowOf).Perm (rowOf KV[i] :: (KV.eraseIdx i).map rowOf) := ((erase_perm hi).map rowOf).symm
 have h2 : St w0 O (rowOf KV[i] :: ((KV.eraseIdx i).map rowOf ++ C)) w := h.perm (hp.append_right C)
 have h3 := St.bunClose' (φ := fun _ => True) (Cs := fun _ : Unit => (KV.eraseIdx i).map rowOf) () trivial (fpl_rows _) (h2.perm List.perm_middle.symm)
 exact h3.perm (List.Perm.swap _ _ _)
theorem St.kClose {w : World} {KV : List KRow} {i : Nat} {y : KRow} (hi : i < KV.length) (h : St w0 O (rowOf y :: kRows (KV.eraseIdx i) :: C) w) : St w0 O (kRows (KV.set i y) :: C) w := by
 obtain ⟨_,_,_,_,h⟩ := St.bunOpen (h.perm (List.Perm.swap _ _ _))
 have hi2 : i < (KV.set i y).length := by rw [List.length_set]; exact hi
 have hp : ((KV.set i y).map rowOf).Perm (rowOf y :: (KV.eraseIdx i).map rowOf) := by
  have := ((erase_perm hi2).map rowOf).symm
  rw [List.eraseIdx_set_eq,List.getElem_set_self] at this
  exact this
 have h2 : St w0 O (rowOf y :: ((KV.eraseIdx i).map rowOf ++ C)) w := h.perm List.perm_middle
 exact St.bunClose' (φ := fun _ => True) (Cs := fun _ : Unit => (KV.set i y).map rowOf) () trivial (fpl_rows _) (h2.perm (hp.append_right C).symm)
end
def linCells (bm : Nat) (Cc : List Int) (ve : Value) (KV : List KRow) : List Value := pp bm :: (Cc.map (Value.int .i64) ++ (ve :: KV.map (fun x => x.1)))
def linCs (bx bm : Nat) (Cc : List Int) (ve : Value) (E : List SpanV) (l : List Dec) (KV : List KRow) (G : List Nat) : List Chunk :=
 [pt bx (linCells bm Cc ve KV) 212,mkr G bm l,rowc ve 3 214 3 (spans E),kRows KV]
def linC (F : List Nat) (bx bm : Nat) (Cc : List Int) (ve : Value) (E : List SpanV) (l : List Dec) (KV : List KRow) : Chunk :=
 bun F (linCs bx bm Cc ve E l KV) (fun _ => True)
abbrev linF (bx : Nat) (ve : Value) (KV : List KRow) (G : List Nat) : List Nat := [bx] ++ (G ++ (ob ve ++ ((KV.flatMap fun x => ob x.1) ++ [])))
theorem St.linClose {w0 w : World} {O : List Nat} {C : List Chunk} {bx bm : Nat} {Cc : List Int} {ve : Value} {E : List SpanV} {l : List Dec} {KV : List KRow} {G : List Nat}
  (h : St w0 O (pt bx (linCells bm Cc ve KV) 212 :: mkr G bm l :: rowc ve 3 214 3 (spans E) :: kRows KV :: C) w) : St w0 O (linC (linF bx ve KV G) bx bm Cc ve E l KV :: C) w :=
 St.bunClose' (φ := fun _ => True) (Cs := linCs bx bm Cc ve E l KV) G trivial (FpL.cons FpIs.pt (FpL.cons FpIs.bun (FpL.cons FpIs.rowc (FpL.cons FpIs.bun FpL.nil)))) h
theorem linCells_cost {bm : Nat} {Cc : List Int} {ve : Value} {KV : List KRow} {i : Nat} {x : Int} (h : Cc[i]? = some x) : (linCells bm Cc ve KV)[1 + i]? = some (.int .i64 x) := by
 have hi := (List.getElem?_eq_some_iff.1 h).1
 unfold linCells
 rw [Nat.add_comm,List.getElem?_cons_succ,List.getElem?_append_left (by simpa using hi),List.getElem?_map,h]
 rfl
theorem linCells_ends {bm : Nat} {Cc : List Int} {ve : Value} {KV : List KRow} (h : Cc.length = 24) : (linCells bm Cc ve KV)[25]? = some ve := by
 unfold linCells
 rw [List.getElem?_cons_succ,List.getElem?_append_right (by simp [h]),List.length_map,h]
 rfl
theorem linCells_known {bm : Nat} {Cc : List Int} {ve : Value} {KV : List KRow} {i : Nat} {x : KRow} (hc : Cc.length = 24) (h : KV[i]? = some x) : (linCells bm Cc ve KV)[26 + i]? = some x.1 := by
 unfold linCells
 rw [show 26 + i = (25 + i) + 1 by omega,List.getElem?_cons_succ,List.getElem?_append_right (by simp [hc]; omega),List.length_map,hc,show 25 + i - 24 = i + 1 by omega,List.getElem?_cons_succ,List.getElem?_map,h]
 rfl
theorem linCells_set {bm : Nat} {Cc : List Int} {ve : Value} {KV : List KRow} {i : Nat} {y : KRow} (hc : Cc.length = 24) : (linCells bm Cc ve KV).set (26 + i) y.1 = linCells bm Cc ve (KV.set i y) := by
 unfold linCells
 rw [show 26 + i = (25 + i) + 1 by omega,List.set_cons_succ,List.set_append_right _ _ (by simp [hc]; omega),List.length_map,hc,show 25 + i - 24 = i + 1 by omega,List.set_cons_succ,List.map_set]
open Go Go.Eng Go.Proofs Dg
theorem arCost : ArT Tryz.prog 208 2 24 1 [.int .i64 0,.int .i64 0,.int .i64 0,.int .i64 0,.int .i64 0,.int .i64 0,.int .i64 0,.int .i64 0,.int .i64 0,.int .i64 0,.int .i64 0,.int .i64 0,.int .i64 0,.int .i64 0,.int .i64 0,.int .i64 0,.int .i64 0,.int .i64 0,.int .i64 0,.int .i64 0,.int .i64 0,.int .i64 0,.int .i64 0,.int .i64 0] := ⟨by kernel_rfl,by kernel_rfl,by kernel_rfl⟩
theorem arKnown : ArT Tryz.prog 210 209 24 1 [.slice none 0 0,.slice none 0 0,.slice none 0 0,.slice none 0 0,.slice none 0 0,.slice none 0 0,.slice none 0 0,.slice none 0 0,.slice none 0 0,.slice none 0 0,.slice none 0 0,.slice none 0 0,.slice none 0 0,.slice none 0 0,.slice none 0 0,.slice none 0 0,.slice none 0 0,.slice none 0 0,.slice none 0 0,.slice none 0 0,.slice none 0 0,.slice none 0 0,.slice none 0 0,.slice none 0 0] := ⟨by kernel_rfl,by kernel_rfl,by kernel_rfl⟩
theorem set_self {α : Type} : ∀ {l : List α} {i : Nat} {x : α},l[i]? = some x → l.set i x = l
 | [],_,_,h => by cases h
 | y :: l,0,x,h => by simp only [List.getElem?_cons_zero,Option.some.injEq] at h; rw [h]; rfl
 | y :: l,i + 1,x,h => by
  simp only [List.getElem?_cons_succ] at h
  rw [List.set_cons_succ,set_self h]
section
variable {w0 : World} {O : List Nat} {C : List Chunk}
theorem St.kBack {w : World} {KV : List KRow} {i : Nat} {x : KRow} (hx : KV[i]? = some x) (h : St w0 O (rowOf x :: kRows (KV.eraseIdx i) :: C) w) : St w0 O (kRows KV :: C) w := by
 have h2 := St.kClose (y := x) (List.getElem?_eq_some_iff.1 hx).1 h
 rwa [set_self hx] at h2
theorem St.kPut {w : World} {KV : List KRow} {i n c : Nat} {a : Option Addr} {ks : List SpanV} {s : SpanV} (hi : i < KV.length) (hn : n = ks.length + 1)
  (h : St w0 O (rowc (.slice a n c) n 214 3 (spans ks ++ [Value.int .i64 s.1,.int .i64 s.2.1,.int .i64 (s.2.2 : Int)]) :: kRows (KV.eraseIdx i) :: C) w) : St w0 O (kRows (KV.set i (.slice a n c,ks ++ [s])) :: C) w := by
 refine St.kClose (y := (.slice a n c,ks ++ [s])) hi ?_
 have e : rowOf (Value.slice a n c,ks ++ [s]) = rowc (.slice a n c) n 214 3 (spans ks ++ [Value.int .i64 s.1,.int .i64 s.2.1,.int .i64 (s.2.2 : Int)]) := by
  unfold rowOf
  rw [spans_append,spans_one,List.length_append,List.length_singleton,← hn]
 rw [e]
 exact h
end
abbrev LinZ := List Nat × List Dec × List KRow × SpanV
structure LinP (C : List Int) (rel : Nat) (b : Int) (m : Nat) (l : List Dec) (i : Nat) (sum : Int) (z : LinZ) : Prop where
 lin : LinOk C rel b (m + (2 ^ (24 - i) - 1)) z.2.1 z.2.2.1
 ext : ExtL l z.2.1
 sp : SpanOk C rel b z.2.1 (24 - i) z.2.2.2
 lo : z.2.2.2.1 ≤ sum
 hi : sum ≤ z.2.2.2.2.1
set_option maxRecDepth 100000 in
theorem from_c (bx bm : Nat) (Cc : List Int) (hCl : Cc.length = 24) (hCo : Cc.all costOk = true) (rel : Nat) (b : Int) (hrel : 1 ≤ rel ∧ rel ≤ 3) (hb : -17592186044416 ≤ b ∧ b ≤ 17592186044416) (ea : Option Addr) (ec : Nat) : ∀ (n i : Nat),i ≤ 24 → 24 - i < n →
  ∀ (Fp : List Nat) (l : List Dec) (KV : List KRow) (m : Nat) (sum : Int) (w : World),LinOk Cc rel b m l KV → m + 2 ^ (24 - i) ≤ 16777216 → (-(2147483648 * (i : Int)) ≤ sum ∧ sum ≤ 2147483648 * (i : Int)) → St w Fp [linC Fp bx bm Cc (.slice ea 3 ec) (endL rel b) l KV] w →
  Calls Tryz.prog 156 [pp bx,.int .i64 (i : Int),.int .i64 sum].toArray w fun e w' => ∃ z : { z : LinZ // LinP Cc rel b m l i sum z },e = .returned (.agg ([Value.int .i64 z.1.2.2.2.1,.int .i64 z.1.2.2.2.2.1,.int .i64 (z.1.2.2.2.2.2 : Int)]).toArray) ∧ St w Fp [linC z.1.1 bx bm Cc (.slice ea 3 ec) (endL rel b) z.1.2.1 z.1.2.2.1] w' := by
 intro n
 induction n with
 | zero => intro i; omega
 | succ n hrec =>
 intro i hi24 hin Fp l KV m sum w hL hm hsum hS0
 obtain ⟨G,_,h1,h2,hS0⟩ := hS0.bunOpen
 simp only [linCs,List.cons_append,List.nil_append] at hS0
 refine enter Tryz.func156 rfl Tryz.ntmps156 rfl (C := [pt bx (linCells bm Cc (.slice ea 3 ec) KV) 212,mkr G bm l,rowc (.slice ea 3 ec) 3 214 3 (spans (endL rel b)),kRows KV]) hS0 ?_
 refine jN 3 ?_
 refine WL.alloc F.zero214 rfl (fun b6 => ?_)
 refine jN 11 ?_
 refine WL.load1 F.one209 rfl rfl (v := (.slice ea 3 ec)) (fun w hS => hS.cell (cs := linCells bm Cc (.slice ea 3 ec) KV) jM (linCells_ends hCl)) ?_
 refine jN 13 ?_
 refine WC.cond rfl (fun h18 => ?_) (fun h18 => ?_)
 ·have hlt : i < 24 := by simp at h18; omega
  obtain ⟨⟨v,ks⟩,hx⟩ : ∃ x,KV[i]? = some x := ⟨_,List.getElem?_eq_getElem (by have := hL.kl; omega)⟩
  obtain ⟨ka,kc,hv⟩ := hL.shape _ (List.mem_of_getElem? hx)
  dsimp only at hv
  subst hv
  have hkm : ks.length ≤ m := hL.km _ (List.mem_of_getElem? hx)
  have hp2 : 2 ^ (24 - i) = 2 ^ (24 - (i + 1)) + 2 ^ (24 - (i + 1)) := by (rw [show 24 - i = (24 - (i + 1)) + 1 by omega,Nat.pow_succ]; omega)
  have hp1 : 0 < 2 ^ (24 - (i + 1)) := Nat.pow_pos (by decide)
  obtain ⟨c,hc⟩ : ∃ c,Cc[i]? = some c := ⟨_,List.getElem?_eq_getElem (by omega)⟩
  have hcg : Cc.getD i 0 = c := by rw [List.getD_eq_getElem?_getD,hc]; rfl
  have hcb : -2147483648 ≤ c ∧ c ≤ 2147483648 := by rw [← hcg]; exact costOk_bd hCo i
  refine jN 10 ?_
  refine WL.indexAddrA (i := i) arKnown rfl rfl rfl hlt ?_
  refine jN 1 ?_
  refine WL.load1 F.one209 rfl rfl (v := .slice ka ks.length kc) (fun w hS => by rw [Nat.mul_one]; exact hS.cell (cs := linCells bm Cc (.slice ea 3 ec) KV) jM (linCells_known hCl hx)) ?_
  refine jN 16 ?_
  refine WC.chunks (C' := [rowc (.slice ka ks.length kc) ks.length 214 3 (spans ks),kRows (KV.eraseIdx i),pt b6 [.int .i64 0,.int .i64 0,.int .i64 0] 214,pt bx (linCells bm Cc (.slice ea 3 ec) KV) 212,mkr G bm l,rowc (.slice ea 3 ec) 3 214 3 (spans (endL rel b))]) (fun w hS => (St.kOpen hx (St.pick (St.pick (St.pick (St.pick (St.pick hS (c := rowc (.slice ea 3 ec) 3 214 3 (spans (endL rel b))) jR) (c := mkr G bm l) jR) (c := pt bx (linCells bm Cc (.slice ea 3 ec) KV) 212) jR) (c := pt b6 [.int .i64 0,.int .i64 0,.int .i64 0] 214) jR) (c := kRows KV) jR)).sublist (List.Sublist.refl _)) ?_
  refine WC.loop (α := Nat) (fun k => k ≤ ks.length) (fun k => [(0,pp bx),(1,.int .i64 (i : Int)),(2,.int .i64 sum),(6,pp b6),(25,.slice ka ks.length kc),(26,.int .i64 (ks.length : Int)),(27,.int .i64 (k : Int))]) (fun _ => [rowc (.slice ka ks.length kc) ks.length 214 3 (spans ks),kRows (KV.eraseIdx i),pt b6 [.int .i64 0,.int .i64 0,.int .i64 0] 214,pt bx (linCells bm Cc (.slice ea 3 ec) KV) 212,mkr G bm l,rowc (.slice ea 3 ec) 3 214 3 (spans (endL rel b))]) (fun k => ks.length - k) (0) ?_ ?_ ?_ ?_
  ·exact Nat.zero_le _
  ·exact ⟨rfl,rfl,rfl,rfl,rfl,rfl,rfl,trivial⟩
  ·rfl
  rintro k hk
  show WC _ _ _ _ _ _ _ [(0,pp bx),(1,.int .i64 (i : Int)),(2,.int .i64 sum),(6,pp b6),(25,.slice ka ks.length kc),(26,.int .i64 (ks.length : Int)),(27,.int .i64 (k : Int))] [rowc (.slice ka ks.length kc) ks.length 214 3 (spans ks),kRows (KV.eraseIdx i),pt b6 [.int .i64 0,.int .i64 0,.int .i64 0] 214,pt bx (linCells bm Cc (.slice ea 3 ec) KV) 212,mkr G bm l,rowc (.slice ea 3 ec) 3 214 3 (spans (endL rel b))]
  refine jN 7 ?_
  refine WC.cond rfl (fun h28 => ?_) (fun h28 => ?_)
  ·have hlt2 : k < ks.length := by simpa using h28
   obtain ⟨s,hs⟩ : ∃ s,ks[k]? = some s := ⟨_,List.getElem?_eq_getElem hlt2⟩
   refine WC.know (φ := ∃ g,ka = some ⟨g,0,none⟩ ∧ ks.length = ks.length ∧ ks.length ≤ kc) (fun w hS => rowc_addr (hS.ok (rowc (.slice ka ks.length kc) ks.length 214 3 (spans ks)) jM) (by omega)) (fun ⟨g,hg,_,_⟩ => ?_)
   subst hg
   have hsk := hL.sp _ _ hx s (List.mem_of_getElem? hs)
   refine jN 7 ?_
   refine WL.indexAddr F.sl209 rfl rfl rfl hlt2 ?_
   refine jN 1 ?_
   refine WL.loadN F.agg214 rfl rfl (vs := [Value.int .i64 s.1,.int .i64 s.2.1,.int .i64 (s.2.2 : Int)]) rfl (fun w hS j u hu => by rw [Nat.zero_add]; exact rowc_cells (hS.ok (rowc (.slice (some ⟨g,0,none⟩) ks.length kc) ks.length 214 3 (spans ks)) jM) (spans_at hs j u hu)) ?_
   refine jN 1 ?_
   refine WL.alloc F.zero214 rfl (fun b9 => ?_)
   refine jN 16 ?_
   refine WA.splitB (i := 35) rfl (fun g35 => ?_) (fun g35 => ?_)
   ·have hs1 : s.1 ≤ sum := by simpa using g35
    refine jN 16 ?_
    refine WC.cond rfl (fun h40 => ?_) (fun h40 => ?_)
    ·have hs2 : sum ≤ s.2.1 := by simpa using h40
     refine jN 14 ?_
     refine WQ.ret (rs := [.cell 6 214]) rfl (.cellN F.agg214 rfl jM rfl .nil) (fun w hS => ?_)
     have hS1 := St.kBack hx (St.pick (St.pick hS (c := kRows (KV.eraseIdx i)) jR) (c := rowc (.slice (some ⟨g,0,none⟩) ks.length kc) ks.length 214 3 (spans ks)) jR)
     exact ⟨⟨(_,l,KV,s),⟨hL.mono (Nat.le_add_right _ _),ExtL.refl _,hsk,hs1,hs2⟩⟩,rfl,St.linClose (jK hS1)⟩
    have hs2 : ¬ sum ≤ s.2.1 := by simpa using h40
    refine jN 9 ?_
    refine WQ.chunks (C' := [rowc (.slice (some ⟨g,0,none⟩) ks.length kc) ks.length 214 3 (spans ks),kRows (KV.eraseIdx i),pt b6 [.int .i64 0,.int .i64 0,.int .i64 0] 214,pt bx (linCells bm Cc (.slice ea 3 ec) KV) 212,mkr G bm l,rowc (.slice ea 3 ec) 3 214 3 (spans (endL rel b))]) (fun w hS => (jK hS)) ?_
    refine WQ.back (k + 1) ?_ ?_ ?_ ?_
    ·exact by (show k + 1 ≤ ks.length; omega)
    ·(show ks.length - (k + 1) < ks.length - k; omega)
    ·exact ⟨rfl,rfl,rfl,rfl,rfl,rfl,rfl,trivial⟩
    rfl
   have hs1 : ¬ s.1 ≤ sum := by simpa using g35
   refine jN 22 ?_
   refine WQ.chunks (C' := [rowc (.slice (some ⟨g,0,none⟩) ks.length kc) ks.length 214 3 (spans ks),kRows (KV.eraseIdx i),pt b6 [.int .i64 0,.int .i64 0,.int .i64 0] 214,pt bx (linCells bm Cc (.slice ea 3 ec) KV) 212,mkr G bm l,rowc (.slice ea 3 ec) 3 214 3 (spans (endL rel b))]) (fun w hS => (jK hS)) ?_
   refine WQ.back (k + 1) ?_ ?_ ?_ ?_
   ·exact by (show k + 1 ≤ ks.length; omega)
   ·(show ks.length - (k + 1) < ks.length - k; omega)
   ·exact ⟨rfl,rfl,rfl,rfl,rfl,rfl,rfl,trivial⟩
   rfl
  refine jN 7 ?_
  refine WA.chunksE (C' := fun F1 => [linC F1 bx bm Cc (.slice ea 3 ec) (endL rel b) l KV,pt b6 [.int .i64 0,.int .i64 0,.int .i64 0] 214]) (fun w hS => ?_) (fun F1 => ?_)
  ·have hS1 := St.kBack hx (St.pick (St.pick hS (c := kRows (KV.eraseIdx i)) jR) (c := rowc (.slice ka ks.length kc) ks.length 214 3 (spans ks)) jR)
   exact ⟨_,St.linClose (jK hS1)⟩
  refine jN 6 ?_
  refine WA.say 45 (.int .i64 ((i + 1 : Nat) : Int)) rfl ?_
  refine jN 3 ?_
  refine WL.callC (β := { z : LinZ // LinP Cc rel b (m) l (i + 1) (sum) z }) (res := fun z => .agg ([Value.int .i64 z.1.2.2.2.1,.int .i64 z.1.2.2.2.2.1,.int .i64 (z.1.2.2.2.2.2 : Int)]).toArray) (cs := fun z => [linC z.1.1 bx bm Cc (.slice ea 3 ec) (endL rel b) z.1.2.1 z.1.2.2.1]) (Cs := [linC F1 bx bm Cc (.slice ea 3 ec) (endL rel b) l KV]) (C1 := [pt b6 [.int .i64 0,.int .i64 0,.int .i64 0] 214]) (O' := F1) F.fun156 (fun d h => by cases h; rfl) rfl (List.Perm.refl _) bun_O1 bun_O2 (fun w hS hS2 => hrec (i + 1) (by omega) (by omega) F1 l KV (m) (sum) w hL (by omega) ⟨by omega,by omega⟩ hS2) (fun ⟨z1,hz1⟩ => ?_)
  obtain ⟨F2,l2,KV2,s1⟩ := z1
  obtain ⟨j1,j2,j3,j4,j5⟩ := hz1
  dsimp only at j1 j2 j3 j4 j5 ⊢
  refine jN 1 ?_
  refine WL.alloc F.zero214 rfl (fun b10 => ?_)
  refine jN 2 ?_
  refine WA.chunks (C' := [linC F2 bx bm Cc (.slice ea 3 ec) (endL rel b) l2 KV2,pt b10 [Value.int .i64 s1.1,.int .i64 s1.2.1,.int .i64 (s1.2.2 : Int)] 214,pt b6 [.int .i64 0,.int .i64 0,.int .i64 0] 214]) (fun w hS => (jK hS)) ?_
  refine jN 4 ?_
  refine WA.openB (fun G2 _ _ _ => ?_)
  simp only [linCs,List.cons_append,List.nil_append]
  refine jN 6 ?_
  refine WA.say 50 (.int .i64 ((i + 1 : Nat) : Int)) rfl ?_
  refine jN 11 ?_
  refine WL.indexAddrA (i := i) arCost rfl rfl rfl hlt ?_
  refine jN 1 ?_
  refine WL.load1 F.one2 rfl rfl (v := .int .i64 c) (fun w hS => by rw [Nat.mul_one]; exact hS.cell (cs := linCells bm Cc (.slice ea 3 ec) KV2) jM (linCells_cost hc)) ?_
  refine jN 2 ?_
  refine WA.chunksE (C' := fun F3 => [linC F3 bx bm Cc (.slice ea 3 ec) (endL rel b) l2 KV2,pt b10 [Value.int .i64 s1.1,.int .i64 s1.2.1,.int .i64 (s1.2.2 : Int)] 214,pt b6 [.int .i64 0,.int .i64 0,.int .i64 0] 214]) (fun w hS => ?_) (fun F3 => ?_)
  ·exact ⟨_,St.linClose (jK hS)⟩
  refine jN 1 ?_
  refine WL.callC (β := { z : LinZ // LinP Cc rel b (m + (2 ^ (24 - (i + 1)) - 1)) l2 (i + 1) (sum + c) z }) (res := fun z => .agg ([Value.int .i64 z.1.2.2.2.1,.int .i64 z.1.2.2.2.2.1,.int .i64 (z.1.2.2.2.2.2 : Int)]).toArray) (cs := fun z => [linC z.1.1 bx bm Cc (.slice ea 3 ec) (endL rel b) z.1.2.1 z.1.2.2.1]) (Cs := [linC F3 bx bm Cc (.slice ea 3 ec) (endL rel b) l2 KV2]) (C1 := [pt b10 [Value.int .i64 s1.1,.int .i64 s1.2.1,.int .i64 (s1.2.2 : Int)] 214,pt b6 [.int .i64 0,.int .i64 0,.int .i64 0] 214]) (O' := F3) F.fun156 (fun d h => by cases h; rfl) rfl (List.Perm.refl _) bun_O1 bun_O2 (fun w hS hS2 => hrec (i + 1) (by omega) (by omega) F3 l2 KV2 (m + (2 ^ (24 - (i + 1)) - 1)) (sum + c) w j1 (by omega) ⟨by omega,by omega⟩ hS2) (fun ⟨z2,hz2⟩ => ?_)
  obtain ⟨F4,l3,KV3,s2⟩ := z2
  obtain ⟨k1,k2,k3,k4,k5⟩ := hz2
  dsimp only at k1 k2 k3 k4 k5 ⊢
  refine jN 1 ?_
  refine WL.alloc F.zero214 rfl (fun b11 => ?_)
  refine jN 2 ?_
  refine WA.chunks (C' := [linC F4 bx bm Cc (.slice ea 3 ec) (endL rel b) l3 KV3,pt b11 [Value.int .i64 s2.1,.int .i64 s2.2.1,.int .i64 (s2.2.2 : Int)] 214,pt b10 [Value.int .i64 s1.1,.int .i64 s1.2.1,.int .i64 (s1.2.2 : Int)] 214,pt b6 [.int .i64 0,.int .i64 0,.int .i64 0] 214]) (fun w hS => (jK hS)) ?_
  refine WA.openB (fun G4 _ _ _ => ?_)
  simp only [linCs,List.cons_append,List.nil_append]
  have j3x := j3.ext k2
  have e1 := j3.lo
  have e2 := j3.hi
  have e3 := k3.lo
  have e4 := k3.hi
  have hll3 := k1.ll
  refine jN 3 ?_
  refine WC.drawsL (by kernel_rfl) (FactsOk.cons (ds := [36]) (LoadOk.one (t := 10) (off := 0) rfl jM rfl) (FactsOk.cons (ds := [36]) (LoadOk.one (t := 11) (off := 0) rfl jM rfl) (FactsOk.cons (ds := [36]) (LoadOk.by (Y := fun w => w.cell? ⟨bx,1 + i * 1,none⟩ = some (.int .i64 c)) (fun w hS => by rw [Nat.mul_one]; exact hS.cell (cs := linCells bm Cc (.slice ea 3 ec) KV3) jM (linCells_cost hc))) (FactsOk.cons (ds := [36]) (LoadOk.one (t := 10) (off := 1) rfl jM rfl) (FactsOk.cons (ds := [36]) (LoadOk.one (t := 11) (off := 1) rfl jM rfl) (FactsOk.cons (ds := [36]) (LoadOk.by (Y := fun w => w.cell? ⟨bx,1 + i * 1,none⟩ = some (.int .i64 c)) (fun w hS => by rw [Nat.mul_one]; exact hS.cell (cs := linCells bm Cc (.slice ea 3 ec) KV3) jM (linCells_cost hc))) (FactsOk.cons (ds := [33,36]) (LoadOk.one (t := 0) (off := 0) rfl jM rfl) (FactsOk.cons (ds := [33,36]) (LoadOk.one (t := 10) (off := 2) rfl jM rfl) (FactsOk.cons (ds := [33,36]) (LoadOk.one (t := 11) (off := 2) rfl jM rfl) (FactsOk.nil)))))))))) ?_
  refine jT 0 rfl (Yl.fieldAddr0 F.fld214_0 rfl) ?_
  refine jF 1 0 rfl rfl (Yl.load1 F.one2 rfl) ?_
  refine jT 2 rfl (Yl.fieldAddr0 F.fld214_0 rfl) ?_
  refine jF 3 1 rfl rfl (Yl.load1 F.one2 rfl) ?_
  refine jT 4 rfl (Yl.move rfl) ?_
  refine jT 5 rfl (Yl.move rfl) ?_
  refine jT 6 rfl (Yl.nilCheck rfl) ?_
  refine jT 7 rfl (Yl.fieldAddr0 F.fld212_1 rfl) ?_
  refine jT 8 rfl (Yl.indexAddrA (i := i) arCost rfl rfl hlt) ?_
  refine jF 9 2 rfl rfl (Yl.load1 F.one2 rfl) ?_
  refine jT 10 rfl (Yl.sub rfl rfl ⟨by omega,by omega⟩) ?_
  refine jT 11 rfl (Yl.maxI rfl rfl) ?_
  refine jT 12 rfl (Yl.fieldAddr0 F.fld214_1 rfl) ?_
  refine jF 13 3 rfl rfl (Yl.load1 F.one2 rfl) ?_
  refine jT 14 rfl (Yl.fieldAddr0 F.fld214_1 rfl) ?_
  refine jF 15 4 rfl rfl (Yl.load1 F.one2 rfl) ?_
  refine jT 16 rfl (Yl.move rfl) ?_
  refine jT 17 rfl (Yl.move rfl) ?_
  refine jT 18 rfl (Yl.nilCheck rfl) ?_
  refine jT 19 rfl (Yl.fieldAddr0 F.fld212_1 rfl) ?_
  refine jT 20 rfl (Yl.indexAddrA (i := i) arCost rfl rfl hlt) ?_
  refine jF 21 5 rfl rfl (Yl.load1 F.one2 rfl) ?_
  refine jT 22 rfl (Yl.sub rfl rfl ⟨by omega,by omega⟩) ?_
  refine jT 23 rfl (Yl.minI rfl rfl rfl) ?_
  refine jT 24 rfl (Yl.move rfl) ?_
  refine jT 25 rfl (Yl.nilCheck rfl) ?_
  refine jT 26 rfl (Yl.fieldAddr0 F.fld212_0 rfl) ?_
  refine jF 27 6 rfl rfl (Yl.load1 F.one200 rfl) ?_
  refine jT 28 rfl (Yl.move rfl) ?_
  refine jT 29 rfl (Yl.fieldAddr0 F.fld214_2 rfl) ?_
  refine jF 30 7 rfl rfl (Yl.load1 F.one3 rfl) ?_
  refine jT 31 rfl (Yl.fieldAddr0 F.fld214_2 rfl) ?_
  refine jF 32 8 rfl rfl (Yl.load1 F.one3 rfl) ?_
  refine WD.two (i := 33) (j := 35) (by decide +kernel) rfl rfl ?_ ?_
  refine WL.callC (β := { z : List Nat × List Dec × Nat // MadeN l3 z.2.1 z.2.2 (mkN i (trs l3 s1.2.2) (trs l3 s2.2.2)) ∧ z.2.1.length ≤ l3.length + 1 }) (res := fun z => .int .i64 (z.1.2.2 : Int)) (cs := fun z => [mkr z.1.1 bm z.1.2.1]) (Cs := [mkr G4 bm l3]) (C1 := [pt bx (linCells bm Cc (.slice ea 3 ec) KV3) 212,rowc (.slice ea 3 ec) 3 214 3 (spans (endL rel b)),kRows KV3,pt b11 [Value.int .i64 s2.1,.int .i64 s2.2.1,.int .i64 (s2.2.2 : Int)] 214,pt b10 [Value.int .i64 s1.1,.int .i64 s1.2.1,.int .i64 (s1.2.2 : Int)] 214,pt b6 [.int .i64 0,.int .i64 0,.int .i64 0] 214]) (O' := G4) F.fun149 (fun d h => by cases h; rfl) rfl (List.Perm.swap _ _ _) bun_O1 bun_O2 (fun w hS hS2 => mnode_c G4 bm l3 i s1.2.2 s2.2.2 w hlt k1.mks j3x.lt k3.lt (by omega) hS2) (fun ⟨⟨G5,l4,p4⟩,hm4,hl4⟩ => ?_)
  refine WD.on (closed_of (by decide +kernel)) (fun w hS => Sx.keep (hS.cell jM rfl) (Sx.keep (hS.cell jM rfl) (Sx.keep (by rw [Nat.mul_one]; exact hS.cell (cs := linCells bm Cc (.slice ea 3 ec) KV3) jM (linCells_cost hc)) (Sx.keep (hS.cell jM rfl) (Sx.keep (hS.cell jM rfl) (Sx.keep (by rw [Nat.mul_one]; exact hS.cell (cs := linCells bm Cc (.slice ea 3 ec) KV3) jM (linCells_cost hc)) (Sx.gone rfl (Sx.gone rfl (Sx.gone rfl (Sx.none)))))))))) ?_
  dsimp only at hm4 hl4 ⊢
  have hq := SpanOk.new (x := c) (sum := sum) (p := p4) j3x k3 (by omega) (by rw [show 23 - (24 - (i + 1)) = i by omega]; exact hcg) ⟨j4,j5⟩ ⟨k4,k5⟩ (by rw [show 23 - (24 - (i + 1)) = i by omega]; exact hm4) (lo := ((if s2.1 - c > s1.1 then s2.1 - c else s1.1),(if s2.2.1 - c < s1.2.1 then s2.2.1 - c else s1.2.1),p4).1) (hi := ((if s2.1 - c > s1.1 then s2.1 - c else s1.1),(if s2.2.1 - c < s1.2.1 then s2.2.1 - c else s1.2.1),p4).2.1) (by dsimp only; split <;> omega) (by dsimp only; split <;> omega)
  rw [show 24 - (i + 1) + 1 = 24 - i by omega] at hq
  refine jT 34 rfl (Yl.build F.stT214 rfl jB) ?_
  refine jA 35 rfl ?_
  refine WL.alloc F.zero214 rfl (fun b12 => ?_)
  refine WD.on (closed_of (by decide +kernel)) (fun w hS => Sx.keep (hS.cell jM rfl) (Sx.keep (hS.cell jM rfl) (Sx.keep (by rw [Nat.mul_one]; exact hS.cell (cs := linCells bm Cc (.slice ea 3 ec) KV3) jM (linCells_cost hc)) (Sx.keep (hS.cell jM rfl) (Sx.keep (hS.cell jM rfl) (Sx.keep (by rw [Nat.mul_one]; exact hS.cell (cs := linCells bm Cc (.slice ea 3 ec) KV3) jM (linCells_cost hc)) (Sx.gone rfl (Sx.gone rfl (Sx.gone rfl (Sx.none)))))))))) ?_
  rotate_left
  refine WL.alloc F.zero214 rfl (fun b12 => ?_)
  refine WD.on (closed_of (by decide +kernel)) (fun w hS => Sx.keep (hS.cell jM rfl) (Sx.keep (hS.cell jM rfl) (Sx.keep (by rw [Nat.mul_one]; exact hS.cell (cs := linCells bm Cc (.slice ea 3 ec) KV3) jM (linCells_cost hc)) (Sx.keep (hS.cell jM rfl) (Sx.keep (hS.cell jM rfl) (Sx.keep (by rw [Nat.mul_one]; exact hS.cell (cs := linCells bm Cc (.slice ea 3 ec) KV3) jM (linCells_cost hc)) (Sx.keep (hS.cell jM rfl) (Sx.keep (hS.cell jM rfl) (Sx.keep (hS.cell jM rfl) (Sx.none)))))))))) ?_
  refine jA 33 rfl ?_
  refine WL.callC (β := { z : List Nat × List Dec × Nat // MadeN l3 z.2.1 z.2.2 (mkN i (trs l3 s1.2.2) (trs l3 s2.2.2)) ∧ z.2.1.length ≤ l3.length + 1 }) (res := fun z => .int .i64 (z.1.2.2 : Int)) (cs := fun z => [mkr z.1.1 bm z.1.2.1]) (Cs := [mkr G4 bm l3]) (C1 := [pt b12 [.int .i64 0,.int .i64 0,.int .i64 0] 214,pt bx (linCells bm Cc (.slice ea 3 ec) KV3) 212,rowc (.slice ea 3 ec) 3 214 3 (spans (endL rel b)),kRows KV3,pt b11 [Value.int .i64 s2.1,.int .i64 s2.2.1,.int .i64 (s2.2.2 : Int)] 214,pt b10 [Value.int .i64 s1.1,.int .i64 s1.2.1,.int .i64 (s1.2.2 : Int)] 214,pt b6 [.int .i64 0,.int .i64 0,.int .i64 0] 214]) (O' := G4) F.fun149 (fun d h => by cases h; rfl) rfl (((List.Perm.swap _ _ _).cons _).trans (List.Perm.swap _ _ _)) bun_O1 bun_O2 (fun w hS hS2 => mnode_c G4 bm l3 i s1.2.2 s2.2.2 w hlt k1.mks j3x.lt k3.lt (by omega) hS2) (fun ⟨⟨G5,l4,p4⟩,hm4,hl4⟩ => ?_)
  refine WD.on (closed_of (by decide +kernel)) (fun w hS => Sx.keep (hS.cell jM rfl) (Sx.keep (hS.cell jM rfl) (Sx.keep (by rw [Nat.mul_one]; exact hS.cell (cs := linCells bm Cc (.slice ea 3 ec) KV3) jM (linCells_cost hc)) (Sx.keep (hS.cell jM rfl) (Sx.keep (hS.cell jM rfl) (Sx.keep (by rw [Nat.mul_one]; exact hS.cell (cs := linCells bm Cc (.slice ea 3 ec) KV3) jM (linCells_cost hc)) (Sx.gone rfl (Sx.gone rfl (Sx.gone rfl (Sx.none)))))))))) ?_
  dsimp only at hm4 hl4 ⊢
  have hq := SpanOk.new (x := c) (sum := sum) (p := p4) j3x k3 (by omega) (by rw [show 23 - (24 - (i + 1)) = i by omega]; exact hcg) ⟨j4,j5⟩ ⟨k4,k5⟩ (by rw [show 23 - (24 - (i + 1)) = i by omega]; exact hm4) (lo := ((if s2.1 - c > s1.1 then s2.1 - c else s1.1),(if s2.2.1 - c < s1.2.1 then s2.2.1 - c else s1.2.1),p4).1) (hi := ((if s2.1 - c > s1.1 then s2.1 - c else s1.1),(if s2.2.1 - c < s1.2.1 then s2.2.1 - c else s1.2.1),p4).2.1) (by dsimp only; split <;> omega) (by dsimp only; split <;> omega)
  rw [show 24 - (i + 1) + 1 = 24 - i by omega] at hq
  refine jT 34 rfl (Yl.build F.stT214 rfl jB) ?_
  rotate_left
  all_goals
   refine jA 36 rfl ?_
   refine WL.storeN F.agg214 rfl rfl rfl jO jU jS ?_
   refine jG ?_
   refine jD ?_
   refine jN 2 ?_
   obtain ⟨sn,hsn⟩ : ∃ s : SpanV,s = ((if s2.1 - c > s1.1 then s2.1 - c else s1.1),(if s2.2.1 - c < s1.2.1 then s2.2.1 - c else s1.2.1),p4) := ⟨_,rfl⟩
   rw [← hsn] at hq
   obtain ⟨hq1,hq2,hq3⟩ := hq
   have q1 : ((if s2.1 - c > s1.1 then s2.1 - c else s1.1),(if s2.2.1 - c < s1.2.1 then s2.2.1 - c else s1.2.1),p4).1 = sn.1 := by rw [hsn]
   have q2 : ((if s2.1 - c > s1.1 then s2.1 - c else s1.1),(if s2.2.1 - c < s1.2.1 then s2.2.1 - c else s1.2.1),p4).2.1 = sn.2.1 := by rw [hsn]
   have q3 : p4 = sn.2.2 := by rw [hsn]
   dsimp only at q1 q2
   rw [q1,q2,q3]
   obtain ⟨⟨v3,ks3⟩,hx3⟩ : ∃ x,KV3[i]? = some x := ⟨_,List.getElem?_eq_getElem (by have := k1.kl; omega)⟩
   obtain ⟨ka3,kc3,hv3⟩ := k1.shape _ (List.mem_of_getElem? hx3)
   dsimp only at hv3
   subst hv3
   have hkm3 : ks3.length ≤ _ := k1.km _ (List.mem_of_getElem? hx3)
   refine WC.chunks (C' := [rowc (.slice ka3 ks3.length kc3) ks3.length 214 3 (spans ks3),kRows (KV3.eraseIdx i),pt b12 [Value.int .i64 sn.1,.int .i64 sn.2.1,.int .i64 (sn.2.2 : Int)] 214,pt bx (linCells bm Cc (.slice ea 3 ec) KV3) 212,mkr G5 bm l4,rowc (.slice ea 3 ec) 3 214 3 (spans (endL rel b)),pt b6 [.int .i64 0,.int .i64 0,.int .i64 0] 214]) (fun w hS => St.kOpen hx3 (jK hS)) ?_
   refine WC.drawsL (by kernel_rfl) (FactsOk.cons (ds := [10,14]) (LoadOk.by (Y := fun w => w.cell? ⟨bx,26 + i * 1,none⟩ = some (.slice ka3 ks3.length kc3)) (fun w hS => by rw [Nat.mul_one]; exact hS.cell (cs := linCells bm Cc (.slice ea 3 ec) KV3) jM (linCells_known hCl hx3))) (FactsOk.cons (ds := [9,10,14]) (LoadOk.whole (t := 12) rfl jM) (FactsOk.nil))) ?_
   refine jT 0 rfl (Yl.move rfl) ?_
   refine jT 1 rfl (Yl.move rfl) ?_
   refine jT 2 rfl (Yl.move rfl) ?_
   refine jT 3 rfl (Yl.move rfl) ?_
   refine jT 4 rfl (Yl.nilCheck rfl) ?_
   refine jT 5 rfl (Yl.fieldAddr0 F.fld212_3 rfl) ?_
   refine jT 6 rfl (Yl.indexAddrA (i := i) arKnown rfl rfl hlt) ?_
   refine jF 7 0 rfl rfl (Yl.load1 F.one209 rfl) ?_
   refine jF 8 1 rfl rfl (Yl.loadN F.agg214 rfl rfl) ?_
   refine jT 11 rfl (Yl.nilCheck rfl) ?_
   refine jT 12 rfl (Yl.fieldAddr0 F.fld212_3 rfl) ?_
   refine jA 9 rfl ?_
   refine WL.buildSlice F.sl209 F.ez209 rfl rfl rfl rfl jB rfl (fun b104 => ?_)
   refine WD.on (closed_of (by decide +kernel)) (fun w hS => Sx.keep (by rw [Nat.mul_one]; exact hS.cell (cs := linCells bm Cc (.slice ea 3 ec) KV3) jM (linCells_known hCl hx3)) (Sx.gone rfl (Sx.none))) ?_
   refine jA 10 rfl ?_
   refine WL.appendE (news := [Value.int .i64 sn.1,.int .i64 sn.2.1,.int .i64 (sn.2.2 : Int)]) F.el209 rfl rfl rfl jR (fun w hS jj u hu => by rw [Nat.zero_add]; exact hS.cell (cs := [Value.int .i64 sn.1,.int .i64 sn.2.1,.int .i64 (sn.2.2 : Int)]) jM hu) rfl jO (Nat.le_trans (m := 67108864) (by omega) (by decide)) (by omega) (fun a4 c4 => ?_)
   refine jG ?_
   refine jT 13 rfl (Yl.indexAddrA (i := i) arKnown rfl rfl hlt) ?_
   refine jA 14 rfl ?_
   have linset : SetN (linCells bm Cc (.slice ea 3 ec) KV3) (26 + i * 1) [.slice a4 (ks3.length + 1) c4] (linCells bm Cc (.slice ea 3 ec) (KV3.set i (.slice a4 (ks3.length + 1) c4,ks3 ++ [sn]))) := by
    have h7 := setN_set (linCells bm Cc (.slice ea 3 ec) KV3) (26 + i) (.slice a4 (ks3.length + 1) c4) (List.getElem?_eq_some_iff.1 (linCells_known hCl hx3)).1
    rw [linCells_set (y := (.slice a4 (ks3.length + 1) c4,ks3 ++ [sn])) hCl] at h7
    rw [Nat.mul_one]; exact h7
   refine WL.store1 (cs := linCells bm Cc (.slice ea 3 ec) KV3) (cs' := linCells bm Cc (.slice ea 3 ec) (KV3.set i (.slice a4 (ks3.length + 1) c4,ks3 ++ [sn]))) F.one209 rfl rfl rfl jU linset ?_
   refine jG ?_
   refine jD ?_
   refine jN 10 ?_
   refine WQ.ret (rs := [.cell 6 214]) rfl (.cellN F.agg214 rfl jM rfl .nil) (fun w hS => ?_)
   have hS1 := St.kPut (KV := KV3) (i := i) (ks := ks3) (a := a4) (c := c4) (s := sn) (n := ks3.length + 1) (by have := k1.kl; omega) rfl (St.pick (St.pick hS (c := kRows (KV3.eraseIdx i)) jR) (c := rowc (.slice a4 (ks3.length + 1) c4) (ks3.length + 1) 214 3 (spans ks3 ++ [Value.int .i64 sn.1,.int .i64 sn.2.1,.int .i64 (sn.2.2 : Int)])) jR)
   have hlk := (k1.node hm4 hl4).snoc (d := 24 - (i + 1)) (v2 := .slice a4 (ks3.length + 1) c4) (by omega) (by rw [show 23 - (24 - (i + 1)) = i by omega]; exact hx3) hkm3 (by rw [show 24 - (i + 1) + 1 = 24 - i by omega]; exact hq1) ⟨_,_,rfl⟩
   rw [show 23 - (24 - (i + 1)) = i by omega] at hlk
   exact ⟨⟨(_,l4,_,sn),⟨hlk.mono (by omega),(j2.trans k2).trans (ExtL.made hm4),hq1,hq2,hq3⟩⟩,rfl,St.linClose (jK hS1)⟩
 have hie : i = 24 := by simp at h18; omega
 subst hie
 refine jN 14 ?_
 refine WC.chunks (C' := [pt b6 [.int .i64 0,.int .i64 0,.int .i64 0] 214,pt bx (linCells bm Cc (.slice ea 3 ec) KV) 212,mkr G bm l,rowc (.slice ea 3 ec) 3 214 3 (spans (endL rel b)),kRows KV]) (fun w hS => (jK hS)) ?_
 refine WC.loop (α := Nat) (fun k => k ≤ 3 ∧ ∀ j s,j < k → (endL rel b)[j]? = some s → ¬ (s.1 ≤ sum ∧ sum ≤ s.2.1)) (fun k => [(0,pp bx),(2,.int .i64 sum),(6,pp b6),(25,(.slice ea 3 ec)),(26,.int .i64 3),(27,.int .i64 (k : Int))]) (fun _ => [pt b6 [.int .i64 0,.int .i64 0,.int .i64 0] 214,pt bx (linCells bm Cc (.slice ea 3 ec) KV) 212,mkr G bm l,rowc (.slice ea 3 ec) 3 214 3 (spans (endL rel b)),kRows KV]) (fun k => 3 - k) (0) ?_ ?_ ?_ ?_
 ·exact ⟨Nat.zero_le _,fun j s hj => by omega⟩
 ·exact ⟨rfl,rfl,rfl,rfl,rfl,rfl,trivial⟩
 ·rfl
 rintro k ⟨hk,hno⟩
 show WC _ _ _ _ _ _ _ [(0,pp bx),(2,.int .i64 sum),(6,pp b6),(25,(.slice ea 3 ec)),(26,.int .i64 3),(27,.int .i64 (k : Int))] [pt b6 [.int .i64 0,.int .i64 0,.int .i64 0] 214,pt bx (linCells bm Cc (.slice ea 3 ec) KV) 212,mkr G bm l,rowc (.slice ea 3 ec) 3 214 3 (spans (endL rel b)),kRows KV]
 refine jN 7 ?_
 refine WC.cond rfl (fun h28 => ?_) (fun h28 => ?_)
 ·have hlt2 : k < 3 := by (simp at h28; omega)
  obtain ⟨s,hs⟩ : ∃ s,(endL rel b)[k]? = some s := ⟨_,List.getElem?_eq_getElem hlt2⟩
  refine WC.know (φ := ∃ g,ea = some ⟨g,0,none⟩ ∧ 3 = 3 ∧ 3 ≤ ec) (fun w hS => rowc_addr (hS.ok (rowc (.slice ea 3 ec) 3 214 3 (spans (endL rel b))) jM) (by omega)) (fun ⟨g,hg,_,_⟩ => ?_)
  subst hg
  refine jN 7 ?_
  refine WL.indexAddr F.sl209 rfl rfl rfl hlt2 ?_
  refine jN 1 ?_
  refine WL.loadN F.agg214 rfl rfl (vs := [Value.int .i64 s.1,.int .i64 s.2.1,.int .i64 (s.2.2 : Int)]) rfl (fun w hS j u hu => by rw [Nat.zero_add]; exact rowc_cells (hS.ok (rowc (.slice (some ⟨g,0,none⟩) 3 ec) 3 214 3 (spans (endL rel b))) jM) (spans_at hs j u hu)) ?_
  refine jN 1 ?_
  refine WL.alloc F.zero214 rfl (fun b9 => ?_)
  refine jN 16 ?_
  refine WA.splitB (i := 35) rfl (fun g35 => ?_) (fun g35 => ?_)
  ·have hs1 : s.1 ≤ sum := by simpa using g35
   refine jN 16 ?_
   refine WC.cond rfl (fun h40 => ?_) (fun h40 => ?_)
   ·have hs2 : sum ≤ s.2.1 := by simpa using h40
    refine jN 14 ?_
    refine WQ.ret (rs := [.cell 6 214]) rfl (.cellN F.agg214 rfl jM rfl .nil) (fun w hS => ?_)
    exact ⟨⟨(_,l,KV,s),⟨hL.mono (Nat.le_add_right _ _),ExtL.refl _,endL_ok hrel hb s (List.mem_of_getElem? hs),hs1,hs2⟩⟩,rfl,St.linClose (jK hS)⟩
   have hs2 : ¬ sum ≤ s.2.1 := by simpa using h40
   refine jN 9 ?_
   refine WQ.chunks (C' := [pt b6 [.int .i64 0,.int .i64 0,.int .i64 0] 214,pt bx (linCells bm Cc (.slice (some ⟨g,0,none⟩) 3 ec) KV) 212,mkr G bm l,rowc (.slice (some ⟨g,0,none⟩) 3 ec) 3 214 3 (spans (endL rel b)),kRows KV]) (fun w hS => (jK hS)) ?_
   have hno2 : ∀ j s,j < k + 1 → (endL rel b)[j]? = some s → ¬ (s.1 ≤ sum ∧ sum ≤ s.2.1) := fun j s2 hj hj2 => by
    rcases Nat.lt_or_ge j k with h | h
    ·exact hno j s2 h hj2
    ·have e : j = k := by omega
     subst e
     rw [hs] at hj2
     cases hj2
     exact fun h => hs2 h.2
   refine WQ.back (k + 1) ?_ ?_ ?_ ?_
   ·exact ⟨by omega,hno2⟩
   ·(show 3 - (k + 1) < 3 - k; omega)
   ·exact ⟨rfl,rfl,rfl,rfl,rfl,rfl,trivial⟩
   rfl
  have hs1 : ¬ s.1 ≤ sum := by simpa using g35
  refine jN 22 ?_
  refine WQ.chunks (C' := [pt b6 [.int .i64 0,.int .i64 0,.int .i64 0] 214,pt bx (linCells bm Cc (.slice (some ⟨g,0,none⟩) 3 ec) KV) 212,mkr G bm l,rowc (.slice (some ⟨g,0,none⟩) 3 ec) 3 214 3 (spans (endL rel b)),kRows KV]) (fun w hS => (jK hS)) ?_
  have hno2 : ∀ j s,j < k + 1 → (endL rel b)[j]? = some s → ¬ (s.1 ≤ sum ∧ sum ≤ s.2.1) := fun j s2 hj hj2 => by
   rcases Nat.lt_or_ge j k with h | h
   ·exact hno j s2 h hj2
   ·have e : j = k := by omega
    subst e
    rw [hs] at hj2
    cases hj2
    exact fun h => hs1 h.1
  refine WQ.back (k + 1) ?_ ?_ ?_ ?_
  ·exact ⟨by omega,hno2⟩
  ·(show 3 - (k + 1) < 3 - k; omega)
  ·exact ⟨rfl,rfl,rfl,rfl,rfl,rfl,trivial⟩
  rfl
 exfalso
 have hke : k = 3 := by (simp at h28; omega)
 subst hke
 obtain ⟨s,hs,hs2⟩ := endL_hit (rel := rel) (b := b) (sum := sum) ⟨by omega,by omega⟩
 obtain ⟨j,hj⟩ := List.getElem?_of_mem hs
 exact hno j s (List.getElem?_eq_some_iff.1 hj).1 hj hs2
open Go Go.Eng Go.Proofs Dg
def padI (l : List Int) : List Int := l ++ List.replicate (24 - l.length) 0
theorem padI_len {l : List Int} (h : l.length ≤ 24) : (padI l).length = 24 := by
 unfold padI; rw [List.length_append,List.length_replicate]; omega
theorem padI_get (l : List Int) (j : Nat) : (padI l).getD j 0 = l.getD j 0 := by
 unfold padI
 rw [List.getD_eq_getElem?_getD,List.getD_eq_getElem?_getD]
 by_cases h : j < l.length
 ·rw [List.getElem?_append_left h]
 rw [List.getElem?_append_right (by omega),List.getElem?_replicate,List.getElem?_eq_none (show l.length ≤ j by omega)]
 split <;> rfl
theorem padI_ok {l : List Int} (h : l.all costOk = true) : (padI l).all costOk = true := by
 unfold padI
 rw [List.all_append,h,Bool.true_and,List.all_eq_true]
 intro x hx
 rw [List.eq_of_mem_replicate hx]
 decide
theorem tailN_pad (l : List Int) (cf : Cf) : ∀ d : Nat,tailN (padI l) cf d = tailN l cf d
 | 0 => rfl
 | d + 1 => by rw [tailN,tailN,tailN_pad l cf d,padI_get]
abbrev KV0 : List KRow := List.replicate 24 (.slice none 0 0,[])
theorem lin_copy {l : List Int} (h : l.length ≤ 24) (bm : Nat) (KV : List KRow) : (linCells bm (List.replicate 24 0) (.slice none 0 0) KV).take 1 ++ l.map (Value.int .i64) ++ (linCells bm (List.replicate 24 0) (.slice none 0 0) KV).drop (1 + l.length) = linCells bm (padI l) (.slice none 0 0) KV := by
 unfold linCells padI
 rw [List.take_succ_cons,List.take_zero,Nat.add_comm,List.drop_succ_cons,List.drop_append_of_le_length (by simpa using h),List.map_append,List.map_replicate,List.map_replicate,List.drop_replicate]
 simp
theorem lin_ends {C : List Int} (h : C.length = 24) (bm : Nat) (v v' : Value) (KV : List KRow) : SetN (linCells bm C v KV) 25 [v'] (linCells bm C v' KV) := by
 have h7 := setN_set (linCells bm C v KV) 25 v' (by unfold linCells; simp [h]; omega)
 have e : (linCells bm C v KV).set 25 v' = linCells bm C v' KV := by
  unfold linCells
  rw [List.set_cons_succ,List.set_append_right _ _ (by simp [h]),List.length_map,h]
  rfl
 rwa [e] at h7
theorem lin_start (C : List Int) (rel : Nat) (b : Int) : LinOk C rel b 0 [] KV0 := by
 refine ⟨Mk.nil,rfl,fun x hx => ?_,fun i x hx s hs => ?_,Nat.le_refl _,fun x hx => ?_⟩
 ·rw [List.eq_of_mem_replicate hx]; exact ⟨_,_,rfl⟩
 ·rw [List.eq_of_mem_replicate (List.mem_of_getElem? hx)] at hs; cases hs
 rw [List.eq_of_mem_replicate hx]; exact Nat.zero_le _
theorem St.kNils {w0 w : World} {O : List Nat} {C : List Chunk} : ∀ n : Nat,St w0 O C w → St w0 O ((List.replicate n ((.slice none 0 0,[]) : KRow)).map rowOf ++ C) w
 | 0,h => h
 | n + 1,h => (St.kNils n h).rowNil 214 3
theorem St.kStart {w0 w : World} {O : List Nat} {C : List Chunk} (h : St w0 O C w) : St w0 O (kRows KV0 :: C) w :=
 St.bunClose' (φ := fun _ => True) (Cs := fun _ : Unit => KV0.map rowOf) () trivial (fpl_rows _) (St.kNils 24 h)
theorem linC_mk {F : List Nat} {bx bm : Nat} {Cc : List Int} {ve : Value} {E : List SpanV} {l : List Dec} {KV : List KRow} {w : World} (h : (linC F bx bm Cc ve E l KV).ok w) : w.cell? ⟨bx,0,none⟩ = some (pp bm) := by
 obtain ⟨G,_,h3,_⟩ := h
 have h5 : w.heap[bx]? = some (.cells (linCells bm Cc ve KV).toArray 212 (0,0)) := h3 (pt bx (linCells bm Cc ve KV) 212) (by simp [linCs])
 simp [World.cell?,h5,linCells]
theorem linear_ev {l : List Int} {rel : Nat} {bound : Int} (hok : l.all costOk = true) (hrel : 1 ≤ rel ∧ rel ≤ 3) (cf : Cf) : relB rel (0 + tailN (padI l) cf 24) (clampB bound) = relB rel (tailN l cf 24) bound := by
 have h1 := tailN_bd hok cf 24
 rw [Int.zero_add,tailN_pad,relB_clamp hrel ⟨by omega,by omega⟩]
set_option maxRecDepth 100000 in
theorem Linear_1 (l : List Int) (bound : Int) (hv : costsB l = true) (hll : l.length ≤ 1099511627776) (hbd : -9223372036854775808 ≤ bound ∧ bound < 9223372036854775808) (a : Option Addr) (c : Nat) (w : World) (hr : RdC w l a) :
  Calls Tryz.prog 112 [.slice a l.length c,.int .u8 1,.int .i64 bound].toArray w fun e w' => ∃ z : DRes (fun cf => relB 1 (tailN l cf 24) bound),e = .returned (.tuple #[z.v,.int .i64 0]) ∧ St w [] [z.ch] w' := by
 have hv9 := hv
 unfold costsB at hv9
 rw [Bool.and_eq_true,decide_eq_true_eq] at hv9
 obtain ⟨hok,hl24⟩ := hv9
 refine enter Tryz.func112 rfl Tryz.ntmps112 rfl (St.init _) ?_
 refine jN 3 ?_
 refine WL.alloc F.zero35 rfl (fun b6 => ?_)
 refine jN 10 ?_
 refine WL.callV F.fun155 rfl rfl (fun w hS => lvalid_c l a c hll w (hr.next hS)) ?_
 rw [hv]
 refine jN 4 ?_
 refine WA.splitB (i := 13) rfl (fun g13 => ?_) (fun g13 => ?_)
 ·cases g13
 refine jN 9 ?_
 refine WA.splitB (i := 16) rfl (fun g16 => ?_) (fun g16 => ?_)
 ·cases g16
 refine jN 29 ?_
 refine WL.maxI (r := max bound (-17592186044416)) rfl rfl rfl (by split <;> omega) ?_
 refine jN 1 ?_
 refine WL.minI (r := clampB bound) rfl rfl rfl (by unfold clampB; split <;> omega) ?_
 refine jN 2 ?_
 have hcb := clampB_bd bound
 refine jN 5 ?_
 refine WL.buildA F.arT206 rfl jB rfl ?_
 refine jN 1 ?_
 refine WL.alloc F.zero206 rfl (fun b8 => ?_)
 refine jN 23 ?_
 refine WL.buildA F.arT206 rfl jB rfl ?_
 refine jN 8 ?_
 refine jC (β := List Nat × Nat) (res := fun x => pp x.2) (cs := fun x => [mkr x.1 x.2 []]) F.fun147 rfl (fun w hS _ => newMaker_c w) (fun ⟨G0,bm⟩ => ?_)
 refine jN 3 ?_
 refine WL.boxN rfl rfl (fun b40 => ?_)
 refine jN 6 ?_
 refine WA.chunks (C' := [pt b40 (linCells bm (List.replicate 24 0) (.slice none 0 0) KV0) 212,mkr G0 bm [],pt b8 [.int .i64 1,.int .i64 1,.int .i64 0] 206,pt b6 [.slice none 0 0,.int .i64 0] 35]) (fun w hS => (jK hS)) ?_
 refine jN 7 ?_
 refine WL.sliceArr arCost rfl rfl ?_
 refine jN 3 ?_
 refine WL.copyPt (o := 1) (cs := linCells bm (List.replicate 24 0) (.slice none 0 0) KV0) (vs := l.map (Value.int .i64)) F.und90 (by kernel_rfl) rfl rfl rfl (by rw [List.length_map]; exact (Nat.min_eq_left hl24).symm) (fun w hS j v hj => ?_) (by rw [List.length_map]; unfold linCells; simp; omega) (fun v hv => ?_) jU ?_
 ·rw [List.getElem?_map] at hj
  cases hq : l[j]? with
  | none => rw [hq] at hj; cases hj
  | some x =>
   rw [hq] at hj
   cases hj
   obtain ⟨b9,off9,e1,e2⟩ := hr j x hq
   exact ⟨b9,off9,e1,hS.oldc e2 (by simp)⟩
 ·obtain ⟨x,_,rfl⟩ := List.mem_map.1 hv
  rfl
 rw [List.length_map,lin_copy hl24]
 refine jN 11 ?_
 refine WL.indexAddrA (i := 0) F.arT206 rfl rfl rfl (by decide) ?_
 refine jN 9 ?_
 refine WL.indexAddrA (i := 1) F.arT206 rfl rfl rfl (by decide) ?_
 refine jN 9 ?_
 refine WL.indexAddrA (i := 2) F.arT206 rfl rfl rfl (by decide) ?_
 refine jN 5 ?_
 refine WL.buildSlice F.sl209 F.ez209 rfl rfl rfl rfl jB rfl (fun b63 => ?_)
 refine jN 5 ?_
 refine WL.store1 (cs := linCells bm (padI l) (.slice none 0 0) KV0) (cs' := linCells bm (padI l) (.slice (some ⟨b63,0,none⟩) 3 3) KV0) F.one209 rfl rfl rfl jU (lin_ends (padI_len hl24) bm _ _ KV0) ?_
 refine jN 3 ?_
 refine WC.chunks (C' := [pt b40 (linCells bm (padI l) (.slice (some ⟨b63,0,none⟩) 3 3) KV0) 212,mkr G0 bm [],rowc (.slice (some ⟨b63,0,none⟩) 3 3) 3 214 3 (spans (endL 1 (clampB bound))),kRows KV0,pt b6 [.slice none 0 0,.int .i64 0] 35]) (fun w hS => ?_) ?_
 ·have hS1 := St.kStart (St.rowOf (n := 3) (sz := 3) ((St.pick hS (c := pt b63 [Value.int .i64 (-35184372088832),.int .i64 (clampB bound - 1),.int .i64 1,.int .i64 (clampB bound),.int .i64 (clampB bound),.int .i64 1,.int .i64 (clampB bound + 1),.int .i64 35184372088832,.int .i64 0] 214) jR)) rfl (by decide))
  exact (jK hS1)
 refine WC.draws [([7,8],fun w => w.cell? ⟨b40,0,none⟩ = some (pp bm))] (by kernel_rfl) (fun w hS => facts_cons (hS.cell (cs := linCells bm (padI l) (.slice (some ⟨b63,0,none⟩) 3 3) KV0) jM rfl) (facts_nil)) ?_
 refine jT 0 rfl (Yl.move rfl) ?_
 refine jT 1 rfl (Yl.nilCheck rfl) ?_
 refine jT 2 rfl (Yl.fieldAddr0 F.fld212_0 rfl) ?_
 refine jF 3 0 rfl rfl (Yl.load1 F.one200 rfl) ?_
 refine jT 4 rfl (Yl.move rfl) ?_
 refine jA 5 rfl ?_
 refine WA.chunksE (C' := fun F1 => [linC F1 b40 bm (padI l) (.slice (some ⟨b63,0,none⟩) 3 3) (endL 1 (clampB bound)) [] KV0,pt b6 [.slice none 0 0,.int .i64 0] 35]) (fun w hS => ?_) (fun F1 => ?_)
 ·exact ⟨_,St.linClose (jK hS)⟩
 refine WL.callC (β := { z : LinZ // LinP (padI l) 1 (clampB bound) 0 [] 0 0 z }) (res := fun z => .agg ([Value.int .i64 z.1.2.2.2.1,.int .i64 z.1.2.2.2.2.1,.int .i64 (z.1.2.2.2.2.2 : Int)]).toArray) (cs := fun z => [linC z.1.1 b40 bm (padI l) (.slice (some ⟨b63,0,none⟩) 3 3) (endL 1 (clampB bound)) z.1.2.1 z.1.2.2.1]) (Cs := [linC F1 b40 bm (padI l) (.slice (some ⟨b63,0,none⟩) 3 3) (endL 1 (clampB bound)) [] KV0]) (C1 := [pt b6 [.slice none 0 0,.int .i64 0] 35]) (O' := F1) F.fun156 (fun d h => by cases h; rfl) rfl (List.Perm.refl _) bun_O1 bun_O2 (fun w hS hS2 => from_c b40 bm (padI l) (padI_len hl24) (padI_ok hok) 1 (clampB bound) ⟨by decide,by decide⟩ hcb (some ⟨b63,0,none⟩) 3 25 0 (by omega) (by omega) F1 [] KV0 0 0 w (lin_start _ _ _) (by decide) ⟨by omega,by omega⟩ hS2) (fun ⟨z1,hz1⟩ => ?_)
 obtain ⟨F2,l2,KV2,s1⟩ := z1
 obtain ⟨j1,j2,j3,j4,j5⟩ := hz1
 dsimp only at j1 j2 j3 j4 j5 ⊢
 rw [show (24 - 0 : Nat) = 24 from rfl] at j3
 refine WD.on (closed_of (by kernel_rfl)) (fun w hS => Sx.keep (linC_mk (hS.ok (linC F2 b40 bm (padI l) (.slice (some ⟨b63,0,none⟩) 3 3) (endL 1 (clampB bound)) l2 KV2) (List.mem_cons_self ..))) (Sx.none)) ?_
 skip
 refine jT 6 rfl (Yl.field1 (ft := 3) (off := 2) (by kernel_rfl) F.one3 rfl rfl) ?_
 refine jA 7 rfl ?_
 refine WA.openB (fun G2 _ _ _ => ?_)
 simp only [linCs,List.cons_append,List.nil_append]
 refine WL.callC (β := Option Addr × Nat) (res := fun z => dval (trs l2 s1.2.2) z.1 z.2) (cs := fun z => [dC z.1 z.2 (trs l2 s1.2.2)]) (Cs := [mkr G2 bm l2]) (C1 := [pt b40 (linCells bm (padI l) (.slice (some ⟨b63,0,none⟩) 3 3) KV2) 212,rowc (.slice (some ⟨b63,0,none⟩) 3 3) 3 214 3 (spans (endL 1 (clampB bound))),kRows KV2,pt b6 [.slice none 0 0,.int .i64 0] 35]) (O' := G2) F.fun148 (fun d h => by cases h; rfl) rfl (List.Perm.swap _ _ _) bun_O1 bun_O2 (fun w hS hS2 => done_c G2 bm l2 s1.2.2 w j1.mks j3.lt j3.ok (by have := j1.ll; omega) hS2) (fun z3 => ?_)
 refine jG ?_
 refine jA 8 rfl ?_
 refine WL.storeN F.agg35 rfl rfl rfl jO jU jS ?_
 refine jG ?_
 refine jT 9 rfl (Yl.assign rfl) ?_
 refine jD ?_
 refine jN 2 ?_
 refine WQ.ret (rs := [.cell 6 35,.tmp 7]) rfl (.cellN F.agg35 rfl jM rfl (.tmp rfl .nil)) (fun w hS => ⟨⟨(trs l2 s1.2.2,z3),j3.ok,fun cf => ?_⟩,rfl,(jK hS)⟩)
 rw [j3.ev 0 j4 j5]
 exact linear_ev hok ⟨by decide,by decide⟩ cf
set_option maxRecDepth 100000 in
theorem Linear_2 (l : List Int) (bound : Int) (hv : costsB l = true) (hll : l.length ≤ 1099511627776) (hbd : -9223372036854775808 ≤ bound ∧ bound < 9223372036854775808) (a : Option Addr) (c : Nat) (w : World) (hr : RdC w l a) :
  Calls Tryz.prog 112 [.slice a l.length c,.int .u8 2,.int .i64 bound].toArray w fun e w' => ∃ z : DRes (fun cf => relB 2 (tailN l cf 24) bound),e = .returned (.tuple #[z.v,.int .i64 0]) ∧ St w [] [z.ch] w' := by
 have hv9 := hv
 unfold costsB at hv9
 rw [Bool.and_eq_true,decide_eq_true_eq] at hv9
 obtain ⟨hok,hl24⟩ := hv9
 refine enter Tryz.func112 rfl Tryz.ntmps112 rfl (St.init _) ?_
 refine jN 3 ?_
 refine WL.alloc F.zero35 rfl (fun b6 => ?_)
 refine jN 10 ?_
 refine WL.callV F.fun155 rfl rfl (fun w hS => lvalid_c l a c hll w (hr.next hS)) ?_
 rw [hv]
 refine jN 4 ?_
 refine WA.splitB (i := 13) rfl (fun g13 => ?_) (fun g13 => ?_)
 ·cases g13
 refine jN 9 ?_
 refine WA.splitB (i := 16) rfl (fun g16 => ?_) (fun g16 => ?_)
 ·refine jN 12 ?_
  refine WA.splitB (i := 20) rfl (fun g20 => ?_) (fun g20 => ?_)
  ·cases g20
  refine jN 19 ?_
  refine WL.maxI (r := max bound (-17592186044416)) rfl rfl rfl (by split <;> omega) ?_
  refine jN 1 ?_
  refine WL.minI (r := clampB bound) rfl rfl rfl (by unfold clampB; split <;> omega) ?_
  refine jN 2 ?_
  have hcb := clampB_bd bound
  refine jN 5 ?_
  refine WL.buildA F.arT206 rfl jB rfl ?_
  refine jN 1 ?_
  refine WL.alloc F.zero206 rfl (fun b8 => ?_)
  refine jN 32 ?_
  refine WL.buildA F.arT206 rfl jB rfl ?_
  refine jN 8 ?_
  refine jC (β := List Nat × Nat) (res := fun x => pp x.2) (cs := fun x => [mkr x.1 x.2 []]) F.fun147 rfl (fun w hS _ => newMaker_c w) (fun ⟨G0,bm⟩ => ?_)
  refine jN 3 ?_
  refine WL.boxN rfl rfl (fun b40 => ?_)
  refine jN 6 ?_
  refine WA.chunks (C' := [pt b40 (linCells bm (List.replicate 24 0) (.slice none 0 0) KV0) 212,mkr G0 bm [],pt b8 [.int .i64 0,.int .i64 1,.int .i64 1] 206,pt b6 [.slice none 0 0,.int .i64 0] 35]) (fun w hS => (jK hS)) ?_
  refine jN 7 ?_
  refine WL.sliceArr arCost rfl rfl ?_
  refine jN 3 ?_
  refine WL.copyPt (o := 1) (cs := linCells bm (List.replicate 24 0) (.slice none 0 0) KV0) (vs := l.map (Value.int .i64)) F.und90 (by kernel_rfl) rfl rfl rfl (by rw [List.length_map]; exact (Nat.min_eq_left hl24).symm) (fun w hS j v hj => ?_) (by rw [List.length_map]; unfold linCells; simp; omega) (fun v hv => ?_) jU ?_
  ·rw [List.getElem?_map] at hj
   cases hq : l[j]? with
   | none => rw [hq] at hj; cases hj
   | some x =>
    rw [hq] at hj
    cases hj
    obtain ⟨b9,off9,e1,e2⟩ := hr j x hq
    exact ⟨b9,off9,e1,hS.oldc e2 (by simp)⟩
  ·obtain ⟨x,_,rfl⟩ := List.mem_map.1 hv
   rfl
  rw [List.length_map,lin_copy hl24]
  refine jN 11 ?_
  refine WL.indexAddrA (i := 0) F.arT206 rfl rfl rfl (by decide) ?_
  refine jN 9 ?_
  refine WL.indexAddrA (i := 1) F.arT206 rfl rfl rfl (by decide) ?_
  refine jN 9 ?_
  refine WL.indexAddrA (i := 2) F.arT206 rfl rfl rfl (by decide) ?_
  refine jN 5 ?_
  refine WL.buildSlice F.sl209 F.ez209 rfl rfl rfl rfl jB rfl (fun b63 => ?_)
  refine jN 5 ?_
  refine WL.store1 (cs := linCells bm (padI l) (.slice none 0 0) KV0) (cs' := linCells bm (padI l) (.slice (some ⟨b63,0,none⟩) 3 3) KV0) F.one209 rfl rfl rfl jU (lin_ends (padI_len hl24) bm _ _ KV0) ?_
  refine jN 3 ?_
  refine WC.chunks (C' := [pt b40 (linCells bm (padI l) (.slice (some ⟨b63,0,none⟩) 3 3) KV0) 212,mkr G0 bm [],rowc (.slice (some ⟨b63,0,none⟩) 3 3) 3 214 3 (spans (endL 2 (clampB bound))),kRows KV0,pt b6 [.slice none 0 0,.int .i64 0] 35]) (fun w hS => ?_) ?_
  ·have hS1 := St.kStart (St.rowOf (n := 3) (sz := 3) ((St.pick hS (c := pt b63 [Value.int .i64 (-35184372088832),.int .i64 (clampB bound - 1),.int .i64 0,.int .i64 (clampB bound),.int .i64 (clampB bound),.int .i64 1,.int .i64 (clampB bound + 1),.int .i64 35184372088832,.int .i64 1] 214) jR)) rfl (by decide))
   exact (jK hS1)
  refine WC.draws [([7,8],fun w => w.cell? ⟨b40,0,none⟩ = some (pp bm))] (by kernel_rfl) (fun w hS => facts_cons (hS.cell (cs := linCells bm (padI l) (.slice (some ⟨b63,0,none⟩) 3 3) KV0) jM rfl) (facts_nil)) ?_
  refine jT 0 rfl (Yl.move rfl) ?_
  refine jT 1 rfl (Yl.nilCheck rfl) ?_
  refine jT 2 rfl (Yl.fieldAddr0 F.fld212_0 rfl) ?_
  refine jF 3 0 rfl rfl (Yl.load1 F.one200 rfl) ?_
  refine jT 4 rfl (Yl.move rfl) ?_
  refine jA 5 rfl ?_
  refine WA.chunksE (C' := fun F1 => [linC F1 b40 bm (padI l) (.slice (some ⟨b63,0,none⟩) 3 3) (endL 2 (clampB bound)) [] KV0,pt b6 [.slice none 0 0,.int .i64 0] 35]) (fun w hS => ?_) (fun F1 => ?_)
  ·exact ⟨_,St.linClose (jK hS)⟩
  refine WL.callC (β := { z : LinZ // LinP (padI l) 2 (clampB bound) 0 [] 0 0 z }) (res := fun z => .agg ([Value.int .i64 z.1.2.2.2.1,.int .i64 z.1.2.2.2.2.1,.int .i64 (z.1.2.2.2.2.2 : Int)]).toArray) (cs := fun z => [linC z.1.1 b40 bm (padI l) (.slice (some ⟨b63,0,none⟩) 3 3) (endL 2 (clampB bound)) z.1.2.1 z.1.2.2.1]) (Cs := [linC F1 b40 bm (padI l) (.slice (some ⟨b63,0,none⟩) 3 3) (endL 2 (clampB bound)) [] KV0]) (C1 := [pt b6 [.slice none 0 0,.int .i64 0] 35]) (O' := F1) F.fun156 (fun d h => by cases h; rfl) rfl (List.Perm.refl _) bun_O1 bun_O2 (fun w hS hS2 => from_c b40 bm (padI l) (padI_len hl24) (padI_ok hok) 2 (clampB bound) ⟨by decide,by decide⟩ hcb (some ⟨b63,0,none⟩) 3 25 0 (by omega) (by omega) F1 [] KV0 0 0 w (lin_start _ _ _) (by decide) ⟨by omega,by omega⟩ hS2) (fun ⟨z1,hz1⟩ => ?_)
  obtain ⟨F2,l2,KV2,s1⟩ := z1
  obtain ⟨j1,j2,j3,j4,j5⟩ := hz1
  dsimp only at j1 j2 j3 j4 j5 ⊢
  rw [show (24 - 0 : Nat) = 24 from rfl] at j3
  refine WD.on (closed_of (by kernel_rfl)) (fun w hS => Sx.keep (linC_mk (hS.ok (linC F2 b40 bm (padI l) (.slice (some ⟨b63,0,none⟩) 3 3) (endL 2 (clampB bound)) l2 KV2) (List.mem_cons_self ..))) (Sx.none)) ?_
  skip
  refine jT 6 rfl (Yl.field1 (ft := 3) (off := 2) (by kernel_rfl) F.one3 rfl rfl) ?_
  refine jA 7 rfl ?_
  refine WA.openB (fun G2 _ _ _ => ?_)
  simp only [linCs,List.cons_append,List.nil_append]
  refine WL.callC (β := Option Addr × Nat) (res := fun z => dval (trs l2 s1.2.2) z.1 z.2) (cs := fun z => [dC z.1 z.2 (trs l2 s1.2.2)]) (Cs := [mkr G2 bm l2]) (C1 := [pt b40 (linCells bm (padI l) (.slice (some ⟨b63,0,none⟩) 3 3) KV2) 212,rowc (.slice (some ⟨b63,0,none⟩) 3 3) 3 214 3 (spans (endL 2 (clampB bound))),kRows KV2,pt b6 [.slice none 0 0,.int .i64 0] 35]) (O' := G2) F.fun148 (fun d h => by cases h; rfl) rfl (List.Perm.swap _ _ _) bun_O1 bun_O2 (fun w hS hS2 => done_c G2 bm l2 s1.2.2 w j1.mks j3.lt j3.ok (by have := j1.ll; omega) hS2) (fun z3 => ?_)
  refine jG ?_
  refine jA 8 rfl ?_
  refine WL.storeN F.agg35 rfl rfl rfl jO jU jS ?_
  refine jG ?_
  refine jT 9 rfl (Yl.assign rfl) ?_
  refine jD ?_
  refine jN 2 ?_
  refine WQ.ret (rs := [.cell 6 35,.tmp 7]) rfl (.cellN F.agg35 rfl jM rfl (.tmp rfl .nil)) (fun w hS => ⟨⟨(trs l2 s1.2.2,z3),j3.ok,fun cf => ?_⟩,rfl,(jK hS)⟩)
  rw [j3.ev 0 j4 j5]
  exact linear_ev hok ⟨by decide,by decide⟩ cf
 cases g16
set_option maxRecDepth 100000 in
theorem Linear_3 (l : List Int) (bound : Int) (hv : costsB l = true) (hll : l.length ≤ 1099511627776) (hbd : -9223372036854775808 ≤ bound ∧ bound < 9223372036854775808) (a : Option Addr) (c : Nat) (w : World) (hr : RdC w l a) :
  Calls Tryz.prog 112 [.slice a l.length c,.int .u8 3,.int .i64 bound].toArray w fun e w' => ∃ z : DRes (fun cf => relB 3 (tailN l cf 24) bound),e = .returned (.tuple #[z.v,.int .i64 0]) ∧ St w [] [z.ch] w' := by
 have hv9 := hv
 unfold costsB at hv9
 rw [Bool.and_eq_true,decide_eq_true_eq] at hv9
 obtain ⟨hok,hl24⟩ := hv9
 refine enter Tryz.func112 rfl Tryz.ntmps112 rfl (St.init _) ?_
 refine jN 3 ?_
 refine WL.alloc F.zero35 rfl (fun b6 => ?_)
 refine jN 10 ?_
 refine WL.callV F.fun155 rfl rfl (fun w hS => lvalid_c l a c hll w (hr.next hS)) ?_
 rw [hv]
 refine jN 4 ?_
 refine WA.splitB (i := 13) rfl (fun g13 => ?_) (fun g13 => ?_)
 ·cases g13
 refine jN 9 ?_
 refine WA.splitB (i := 16) rfl (fun g16 => ?_) (fun g16 => ?_)
 ·refine jN 12 ?_
  refine WA.splitB (i := 20) rfl (fun g20 => ?_) (fun g20 => ?_)
  ·refine jN 13 ?_
   refine WC.cond rfl (fun h24 => ?_) (fun h24 => ?_)
   ·cases h24
   refine jN 7 ?_
   refine WL.maxI (r := max bound (-17592186044416)) rfl rfl rfl (by split <;> omega) ?_
   refine jN 1 ?_
   refine WL.minI (r := clampB bound) rfl rfl rfl (by unfold clampB; split <;> omega) ?_
   refine jN 2 ?_
   have hcb := clampB_bd bound
   refine jN 5 ?_
   refine WL.buildA F.arT206 rfl jB rfl ?_
   refine jN 1 ?_
   refine WL.alloc F.zero206 rfl (fun b8 => ?_)
   refine jN 32 ?_
   refine WL.buildA F.arT206 rfl jB rfl ?_
   refine jN 8 ?_
   refine jC (β := List Nat × Nat) (res := fun x => pp x.2) (cs := fun x => [mkr x.1 x.2 []]) F.fun147 rfl (fun w hS _ => newMaker_c w) (fun ⟨G0,bm⟩ => ?_)
   refine jN 3 ?_
   refine WL.boxN rfl rfl (fun b40 => ?_)
   refine jN 6 ?_
   refine WA.chunks (C' := [pt b40 (linCells bm (List.replicate 24 0) (.slice none 0 0) KV0) 212,mkr G0 bm [],pt b8 [.int .i64 0,.int .i64 1,.int .i64 0] 206,pt b6 [.slice none 0 0,.int .i64 0] 35]) (fun w hS => (jK hS)) ?_
   refine jN 7 ?_
   refine WL.sliceArr arCost rfl rfl ?_
   refine jN 3 ?_
   refine WL.copyPt (o := 1) (cs := linCells bm (List.replicate 24 0) (.slice none 0 0) KV0) (vs := l.map (Value.int .i64)) F.und90 (by kernel_rfl) rfl rfl rfl (by rw [List.length_map]; exact (Nat.min_eq_left hl24).symm) (fun w hS j v hj => ?_) (by rw [List.length_map]; unfold linCells; simp; omega) (fun v hv => ?_) jU ?_
   ·rw [List.getElem?_map] at hj
    cases hq : l[j]? with
    | none => rw [hq] at hj; cases hj
    | some x =>
     rw [hq] at hj
     cases hj
     obtain ⟨b9,off9,e1,e2⟩ := hr j x hq
     exact ⟨b9,off9,e1,hS.oldc e2 (by simp)⟩
   ·obtain ⟨x,_,rfl⟩ := List.mem_map.1 hv
    rfl
   rw [List.length_map,lin_copy hl24]
   refine jN 11 ?_
   refine WL.indexAddrA (i := 0) F.arT206 rfl rfl rfl (by decide) ?_
   refine jN 9 ?_
   refine WL.indexAddrA (i := 1) F.arT206 rfl rfl rfl (by decide) ?_
   refine jN 9 ?_
   refine WL.indexAddrA (i := 2) F.arT206 rfl rfl rfl (by decide) ?_
   refine jN 5 ?_
   refine WL.buildSlice F.sl209 F.ez209 rfl rfl rfl rfl jB rfl (fun b63 => ?_)
   refine jN 5 ?_
   refine WL.store1 (cs := linCells bm (padI l) (.slice none 0 0) KV0) (cs' := linCells bm (padI l) (.slice (some ⟨b63,0,none⟩) 3 3) KV0) F.one209 rfl rfl rfl jU (lin_ends (padI_len hl24) bm _ _ KV0) ?_
   refine jN 3 ?_
   refine WC.chunks (C' := [pt b40 (linCells bm (padI l) (.slice (some ⟨b63,0,none⟩) 3 3) KV0) 212,mkr G0 bm [],rowc (.slice (some ⟨b63,0,none⟩) 3 3) 3 214 3 (spans (endL 3 (clampB bound))),kRows KV0,pt b6 [.slice none 0 0,.int .i64 0] 35]) (fun w hS => ?_) ?_
   ·have hS1 := St.kStart (St.rowOf (n := 3) (sz := 3) ((St.pick hS (c := pt b63 [Value.int .i64 (-35184372088832),.int .i64 (clampB bound - 1),.int .i64 0,.int .i64 (clampB bound),.int .i64 (clampB bound),.int .i64 1,.int .i64 (clampB bound + 1),.int .i64 35184372088832,.int .i64 0] 214) jR)) rfl (by decide))
    exact (jK hS1)
   refine WC.draws [([7,8],fun w => w.cell? ⟨b40,0,none⟩ = some (pp bm))] (by kernel_rfl) (fun w hS => facts_cons (hS.cell (cs := linCells bm (padI l) (.slice (some ⟨b63,0,none⟩) 3 3) KV0) jM rfl) (facts_nil)) ?_
   refine jT 0 rfl (Yl.move rfl) ?_
   refine jT 1 rfl (Yl.nilCheck rfl) ?_
   refine jT 2 rfl (Yl.fieldAddr0 F.fld212_0 rfl) ?_
   refine jF 3 0 rfl rfl (Yl.load1 F.one200 rfl) ?_
   refine jT 4 rfl (Yl.move rfl) ?_
   refine jA 5 rfl ?_
   refine WA.chunksE (C' := fun F1 => [linC F1 b40 bm (padI l) (.slice (some ⟨b63,0,none⟩) 3 3) (endL 3 (clampB bound)) [] KV0,pt b6 [.slice none 0 0,.int .i64 0] 35]) (fun w hS => ?_) (fun F1 => ?_)
   ·exact ⟨_,St.linClose (jK hS)⟩
   refine WL.callC (β := { z : LinZ // LinP (padI l) 3 (clampB bound) 0 [] 0 0 z }) (res := fun z => .agg ([Value.int .i64 z.1.2.2.2.1,.int .i64 z.1.2.2.2.2.1,.int .i64 (z.1.2.2.2.2.2 : Int)]).toArray) (cs := fun z => [linC z.1.1 b40 bm (padI l) (.slice (some ⟨b63,0,none⟩) 3 3) (endL 3 (clampB bound)) z.1.2.1 z.1.2.2.1]) (Cs := [linC F1 b40 bm (padI l) (.slice (some ⟨b63,0,none⟩) 3 3) (endL 3 (clampB bound)) [] KV0]) (C1 := [pt b6 [.slice none 0 0,.int .i64 0] 35]) (O' := F1) F.fun156 (fun d h => by cases h; rfl) rfl (List.Perm.refl _) bun_O1 bun_O2 (fun w hS hS2 => from_c b40 bm (padI l) (padI_len hl24) (padI_ok hok) 3 (clampB bound) ⟨by decide,by decide⟩ hcb (some ⟨b63,0,none⟩) 3 25 0 (by omega) (by omega) F1 [] KV0 0 0 w (lin_start _ _ _) (by decide) ⟨by omega,by omega⟩ hS2) (fun ⟨z1,hz1⟩ => ?_)
   obtain ⟨F2,l2,KV2,s1⟩ := z1
   obtain ⟨j1,j2,j3,j4,j5⟩ := hz1
   dsimp only at j1 j2 j3 j4 j5 ⊢
   rw [show (24 - 0 : Nat) = 24 from rfl] at j3
   refine WD.on (closed_of (by kernel_rfl)) (fun w hS => Sx.keep (linC_mk (hS.ok (linC F2 b40 bm (padI l) (.slice (some ⟨b63,0,none⟩) 3 3) (endL 3 (clampB bound)) l2 KV2) (List.mem_cons_self ..))) (Sx.none)) ?_
   skip
   refine jT 6 rfl (Yl.field1 (ft := 3) (off := 2) (by kernel_rfl) F.one3 rfl rfl) ?_
   refine jA 7 rfl ?_
   refine WA.openB (fun G2 _ _ _ => ?_)
   simp only [linCs,List.cons_append,List.nil_append]
   refine WL.callC (β := Option Addr × Nat) (res := fun z => dval (trs l2 s1.2.2) z.1 z.2) (cs := fun z => [dC z.1 z.2 (trs l2 s1.2.2)]) (Cs := [mkr G2 bm l2]) (C1 := [pt b40 (linCells bm (padI l) (.slice (some ⟨b63,0,none⟩) 3 3) KV2) 212,rowc (.slice (some ⟨b63,0,none⟩) 3 3) 3 214 3 (spans (endL 3 (clampB bound))),kRows KV2,pt b6 [.slice none 0 0,.int .i64 0] 35]) (O' := G2) F.fun148 (fun d h => by cases h; rfl) rfl (List.Perm.swap _ _ _) bun_O1 bun_O2 (fun w hS hS2 => done_c G2 bm l2 s1.2.2 w j1.mks j3.lt j3.ok (by have := j1.ll; omega) hS2) (fun z3 => ?_)
   refine jG ?_
   refine jA 8 rfl ?_
   refine WL.storeN F.agg35 rfl rfl rfl jO jU jS ?_
   refine jG ?_
   refine jT 9 rfl (Yl.assign rfl) ?_
   refine jD ?_
   refine jN 2 ?_
   refine WQ.ret (rs := [.cell 6 35,.tmp 7]) rfl (.cellN F.agg35 rfl jM rfl (.tmp rfl .nil)) (fun w hS => ⟨⟨(trs l2 s1.2.2,z3),j3.ok,fun cf => ?_⟩,rfl,(jK hS)⟩)
   rw [j3.ev 0 j4 j5]
   exact linear_ev hok ⟨by decide,by decide⟩ cf
  cases g20
 cases g16
theorem Linear_bad (l : List Int) (rel : Nat) (bound : Int) (hbad : costsB l = false ∨ rel < 1 ∨ 3 < rel) (hll : l.length ≤ 1099511627776) (a : Option Addr) (c : Nat) (w : World) (hr : RdC w l a) :
  Calls Tryz.prog 112 [.slice a l.length c,.int .u8 (rel : Int),.int .i64 bound].toArray w fun e w' => ∃ z : DRes (fun _ => false),e = .returned (.tuple #[z.v,.int .i64 2]) ∧ St w [] [z.ch] w' := by
 refine enter Tryz.func112 rfl Tryz.ntmps112 rfl (St.init _) ?_
 refine jN 3 ?_
 refine WL.alloc F.zero35 rfl (fun b6 => ?_)
 refine jN 10 ?_
 refine WL.callV F.fun155 rfl rfl (fun w hS => lvalid_c l a c hll w (hr.next hS)) ?_
 refine jN 4 ?_
 refine WA.splitB (i := 13) rfl (fun g13 => ?_) (fun g13 => ?_)
 ·refine jN 37 ?_
  exact WQ.ret (rs := [.cell 6 35,.tmp 7]) rfl (.cellN F.agg35 rfl jM rfl (.tmp rfl .nil)) (fun w hS => ⟨⟨(.lf false,none,0),trivial,fun _ => rfl⟩,rfl,hS.drop.rowNil _ _⟩)
 refine jN 9 ?_
 refine WA.splitB (i := 16) rfl (fun g16 => ?_) (fun g16 => ?_)
 ·refine jN 12 ?_
  refine WA.splitB (i := 20) rfl (fun g20 => ?_) (fun g20 => ?_)
  ·refine jN 13 ?_
   refine WC.cond rfl (fun h24 => ?_) (fun h24 => ?_)
   ·refine jN 12 ?_
    exact WQ.ret (rs := [.cell 6 35,.tmp 7]) rfl (.cellN F.agg35 rfl jM rfl (.tmp rfl .nil)) (fun w hS => ⟨⟨(.lf false,none,0),trivial,fun _ => rfl⟩,rfl,hS.drop.rowNil _ _⟩)
   exfalso; simp at g13 g16 g20 h24; rw [g13] at hbad; simp at hbad; omega
  exfalso; simp at g13 g16 g20; rw [g13] at hbad; simp at hbad; omega
 exfalso; simp at g13 g16; rw [g13] at hbad; simp at hbad; omega
def linB (l : List Int) (rel : Nat) : Bool := costsB l && decide (1 ≤ rel ∧ rel ≤ 3)
theorem Linear_c (l : List Int) (rel : Nat) (bound : Int) (hll : l.length ≤ 1099511627776) (hbd : -9223372036854775808 ≤ bound ∧ bound < 9223372036854775808) (a : Option Addr) (c : Nat) (w : World) (hr : RdC w l a) :
  Calls Tryz.prog 112 [.slice a l.length c,.int .u8 (rel : Int),.int .i64 bound].toArray w fun e w' => ∃ z : DRes (fun cf => costsB l && (decide (1 ≤ rel ∧ rel ≤ 3) && relB rel (tailN l cf 24) bound)),e = .returned (.tuple #[z.v,.int .i64 (if linB l rel then 0 else 2)]) ∧ St w [] [z.ch] w' := by
 by_cases h : costsB l = true ∧ 1 ≤ rel ∧ rel ≤ 3
 ·obtain ⟨h1,h2⟩ := h
  have hb : linB l rel = true := by unfold linB; rw [h1,decide_eq_true h2]; rfl
  rw [hb,h1,decide_eq_true h2]
  have hr3 : rel = 1 ∨ rel = 2 ∨ rel = 3 := by omega
  rcases hr3 with rfl | rfl | rfl
  ·exact Linear_1 l bound h1 hll hbd a c w hr
  ·exact Linear_2 l bound h1 hll hbd a c w hr
  exact Linear_3 l bound h1 hll hbd a c w hr
 have hbad : costsB l = false ∨ rel < 1 ∨ 3 < rel := by
  cases hq : costsB l with
  | false => exact .inl rfl
  | true =>
   rw [hq] at h
   simp at h
   omega
 have hb : linB l rel = false := by
  unfold linB
  rcases hbad with h1 | h1
  ·rw [h1]; rfl
  ·rw [decide_eq_false (by omega),Bool.and_false]
 have hf : (fun cf => costsB l && (decide (1 ≤ rel ∧ rel ≤ 3) && relB rel (tailN l cf 24) bound)) = fun _ => false := by
  funext cf
  rcases hbad with h1 | h1
  ·rw [h1]; rfl
  ·rw [decide_eq_false (by omega),Bool.false_and,Bool.and_false]
 rw [hb,hf]
 exact Linear_bad l rel bound hbad hll a c w hr
def menB (x : OpV) : Bool := decide (x.doo = 2) && (decide (0 ≤ x.i) && decide (x.i < 24))
def men1 (x : OpV) (f : Nat) : Nat := if menB x then f ||| 2 ^ x.i.toNat else f
def men2 (x : OpV) (f : Nat) : Nat := if x.doo = 3 then f ||| x.f ||| x.g else f
def men3 (x : OpV) (f : Nat) : Nat := if x.doo = 12 then f ||| x.f else f
theorem men_up (x : OpV) (f : Nat) {k : Nat} (h : f.testBit k = true) : (men3 x (men2 x (men1 x f))).testBit k = true := by
 have h1 : (men1 x f).testBit k = true := by unfold men1; split <;> simp [h]
 have h2 : (men2 x (men1 x f)).testBit k = true := by unfold men2; split <;> simp [h1]
 unfold men3; split <;> simp [h2]
theorem men_lt {x : OpV} (hx : x.wf) {f : Nat} (h : f < 4294967296) : men3 x (men2 x (men1 x f)) < 4294967296 := by
 have h1 : men1 x f < 4294967296 := by
  unfold men1
  split
  ·rename_i hb
   unfold menB at hb
   simp at hb
   exact Nat.or_lt_two_pow (n := 32) h (Nat.pow_lt_pow_right (by decide) (by omega))
  ·exact h
 have h2 : men2 x (men1 x f) < 4294967296 := by
  unfold men2
  split
  ·exact or_lt32 (or_lt32 h1 hx.f) hx.g
  ·exact h1
 unfold men3
 split
 ·exact or_lt32 h2 hx.f
 exact h2
theorem men_in (x : OpV) (f g : Nat) (hg : ∀ k,(men3 x (men2 x (men1 x f))).testBit k = true → g.testBit k = true) (h13 : x.doo = 13 → ∀ k,k < 24 → x.l.getD k 0 ≠ 0 → g.testBit k = true) : OpIn x g := by
 refine ⟨fun h h0 h24 => hg _ ?_,fun h k _ hk => hg _ ?_,fun h k _ hk => hg _ ?_,h13⟩
 ·have hb : menB x = true := by unfold menB; simp [h,h0,h24]
  unfold men3 men2 men1
  rw [if_neg (by omega),if_neg (by omega),if_pos hb]
  rw [Nat.testBit_or,Nat.testBit_two_pow_self,Bool.or_true]
 ·unfold men3 men2
  rw [if_neg (by omega),if_pos h]
  rw [Nat.testBit_or,Nat.testBit_or]
  rcases hk with hk | hk <;> simp [hk]
 unfold men3
 rw [if_pos h,Nat.testBit_or,hk,Bool.or_true]
def MentP (l : List OpV) : Prop := l.length ≤ 12 ∧ ∃ f,f < 4294967296 ∧ (featL f).length ≤ 7 ∧ ∀ x ∈ l,OpIn x f ∧ x.l.length ≤ 40
set_option maxRecDepth 100000 in
theorem Mentioned_c (l : List OpV) (a : Option Addr) (c : Nat) (hwf : ∀ x ∈ l,x.wf) (w : World) (hr : RdOps w l a) :
  Calls Tryz.prog 18 [.slice a l.length c].toArray w fun e w' => ∃ z : { b : Bool // b = true → MentP l },e = .returned (.bool z.1) ∧ St w [] [] w' := by
 refine enter Tryz.func18 rfl Tryz.ntmps18 rfl (St.init _) ?_
 refine jN 17 ?_
 refine WC.cond rfl (fun h9 => ?_) (fun h9 => ?_)
 ·refine jN 8 ?_
  exact WQ.ret (rs := [.tmp 2]) rfl (.tmp rfl .nil) (fun w hS => ⟨⟨false,fun h => by cases h⟩,rfl,hS.sublist (List.nil_sublist _)⟩)
 have hl12 : l.length ≤ 12 := by simp at h9; omega
 refine jN 16 ?_
 refine WC.loop (α := Nat × Nat) (fun g => g.1 ≤ l.length ∧ g.2 < 4294967296 ∧ ∀ x ∈ l.take g.1,OpIn x g.2 ∧ x.l.length ≤ 40) (fun g => [(0,.slice a l.length c),(3,.int .u32 (g.2 : Int)),(4,.int .i64 (g.1 : Int))]) (fun _ => []) (fun g => l.length - g.1) ((0,0)) ?_ ?_ ?_ ?_
 ·exact ⟨Nat.zero_le _,(by decide),by simp⟩
 ·exact ⟨rfl,rfl,rfl,trivial⟩
 ·rfl
 rintro ⟨i,f⟩ ⟨hi,hf,hin⟩
 dsimp only at hi hf hin
 show WC _ _ _ _ _ _ _ [(0,.slice a l.length c),(3,.int .u32 (f : Int)),(4,.int .i64 (i : Int))] []
 refine jN 13 ?_
 refine WC.cond rfl (fun h13 => ?_) (fun h13 => ?_)
 ·have hlt : i < l.length := by simpa using h13
  obtain ⟨x,hx⟩ : ∃ x,l[i]? = some x := ⟨_,List.getElem?_eq_getElem hlt⟩
  obtain ⟨⟨b,off,ha,hcell⟩,hrc⟩ := hr i x hx
  subst ha
  have hw := hwf x (List.mem_of_getElem? hx)
  have hwd := hw.doo
  refine jN 11 ?_
  refine WL.indexAddr F.sl46 rfl rfl rfl hlt ?_
  refine jN 1 ?_
  refine WL.loadN F.agg92 rfl rfl (vs := x.cells) rfl (fun w hS j u hu => hS.oldc (hcell j u hu) (by simp)) ?_
  refine jN 1 ?_
  refine WL.alloc F.zero92 rfl (fun b5 => ?_)
  refine jN 6 ?_
  refine WC.cutF [(0,.slice (some ⟨b,off,none⟩) l.length c),(3,.int .u32 (f : Int)),(4,.int .i64 (i : Int)),(5,pp b5),(32,.bool (menB x))] (fun Q' hQ => ?_) ?_
  ·refine jN 9 ?_
   refine WA.splitB (i := 23) rfl (fun g23 => ?_) (fun g23 => ?_)
   ·refine jN 13 ?_
    refine WA.splitB (i := 28) rfl (fun g28 => ?_) (fun g28 => ?_)
    have hB : menB x = decide (x.i < 24) := by (unfold menB; rw [decide_eq_true (show x.doo = 2 by simp at g23; omega),decide_eq_true (show 0 ≤ x.i by simpa using g28),Bool.true_and,Bool.true_and])
    refine jN 12 ?_
    rotate_left
    have hB : menB x = false := by (unfold menB; rw [decide_eq_false (show ¬ 0 ≤ x.i by simp at g28; omega),Bool.false_and,Bool.and_false])
    refine jN 9 ?_
    rotate_left
    all_goals
     refine WQ.say 32 (.bool (menB x)) (by rw [hB]; rfl) ?_
     exact WQ.byCut hQ ⟨rfl,rfl,rfl,rfl,rfl,trivial⟩
   have hB : menB x = false := by (unfold menB; rw [decide_eq_false (by simp at g23; omega),Bool.false_and])
   refine jN 19 ?_
   refine WQ.say 32 (.bool (menB x)) (by rw [hB]; rfl) ?_
   exact WQ.byCut hQ ⟨rfl,rfl,rfl,rfl,rfl,trivial⟩
  refine jN 1 ?_
  refine WC.cutF [(0,.slice (some ⟨b,off,none⟩) l.length c),(3,.int .u32 ((men1 x f) : Int)),(4,.int .i64 (i : Int)),(5,pp b5)] (fun Q' hQ => ?_) ?_
  ·refine WC.cond rfl (fun h32 => ?_) (fun h32 => ?_)
   have hb9 := h32
   unfold menB at hb9
   simp at hb9
   obtain ⟨k,hk⟩ := Int.eq_ofNat_of_zero_le hb9.2.1
   have hk24 : k < 24 := by omega
   have e1 : (men1 x f) = f ||| 2 ^ k := by (unfold men1; rw [if_pos h32,hk]; rfl)
   have hp32 : 2 ^ k < 4294967296 := Nat.lt_of_lt_of_le (Nat.pow_lt_pow_right (by decide) (show k < 32 by omega)) (by decide)
   refine jN 7 ?_
   refine WA.say 35 (.int .i64 (k : Int)) (by rw [show (k : Int) = x.i from hk.symm]; rfl) ?_
   refine jN 1 ?_
   refine WL.convert rfl rfl (v := .int .u64 (k : Int)) (fun w hS => conv61 (by omega) w) ?_
   refine jN 1 ?_
   refine WL.bin rfl rfl rfl (fun w => run_shl1U (by omega) _ _ _ w) ?_
   refine jN 1 ?_
   refine WL.bin rfl rfl rfl (fun w => run_or hf hp32 _ _ _ w) ?_
   refine jN 3 ?_
   rotate_left
   have e1 : (men1 x f) = f := by (unfold men1; rw [if_neg (by rw [h32]; decide)])
   refine jN 1 ?_
   rotate_left
   all_goals
    refine WQ.say 3 (.int .u32 ((men1 x f) : Int)) (by rw [e1]; rfl) ?_
    exact WQ.byCut hQ ⟨rfl,rfl,rfl,rfl,trivial⟩
  refine jN 4 ?_
  have hf1 : (men1 x f) < 4294967296 := by (have h9 := men_lt hw hf; refine Nat.lt_of_le_of_lt ?_ h9; unfold men3 men2; split <;> split <;> first | exact Nat.le_refl _ | (exact Nat.left_le_or) | (exact Nat.le_trans Nat.left_le_or Nat.left_le_or) | (exact Nat.le_trans (Nat.le_trans Nat.left_le_or Nat.left_le_or) Nat.left_le_or))
  refine jN 8 ?_
  refine WC.cutF [(0,.slice (some ⟨b,off,none⟩) l.length c),(3,.int .u32 ((men2 x (men1 x f)) : Int)),(4,.int .i64 (i : Int)),(5,pp b5)] (fun Q' hQ => ?_) ?_
  ·refine WC.cond rfl (fun h41 => ?_) (fun h41 => ?_)
   have hd3 : x.doo = 3 := by simp at h41; omega
   have e2 : (men2 x (men1 x f)) = (men1 x f) ||| x.f ||| x.g := by (unfold men2; rw [if_pos hd3])
   refine jN 8 ?_
   refine WL.bin rfl rfl rfl (fun w => run_or hf1 hw.f _ _ _ w) ?_
   refine jN 5 ?_
   refine WL.bin rfl rfl rfl (fun w => run_or (or_lt32 hf1 hw.f) hw.g _ _ _ w) ?_
   refine jN 3 ?_
   rotate_left
   have hd3 : x.doo ≠ 3 := by simp at h41; omega
   have e2 : (men2 x (men1 x f)) = (men1 x f) := by (unfold men2; rw [if_neg hd3])
   refine jN 1 ?_
   rotate_left
   all_goals
    refine WQ.say 3 (.int .u32 ((men2 x (men1 x f)) : Int)) (by rw [e2]; rfl) ?_
    exact WQ.byCut hQ ⟨rfl,rfl,rfl,rfl,trivial⟩
  refine jN 4 ?_
  have hf2 : (men2 x (men1 x f)) < 4294967296 := by (have h9 := men_lt hw hf; refine Nat.lt_of_le_of_lt ?_ h9; unfold men3; split <;> first | exact Nat.le_refl _ | exact Nat.left_le_or)
  refine jN 8 ?_
  refine WC.cutF [(0,.slice (some ⟨b,off,none⟩) l.length c),(3,.int .u32 ((men3 x (men2 x (men1 x f))) : Int)),(4,.int .i64 (i : Int)),(5,pp b5)] (fun Q' hQ => ?_) ?_
  ·refine WC.cond rfl (fun h51 => ?_) (fun h51 => ?_)
   have hd12 : x.doo = 12 := by simp at h51; omega
   have e3 : (men3 x (men2 x (men1 x f))) = (men2 x (men1 x f)) ||| x.f := by (unfold men3; rw [if_pos hd12])
   refine jN 8 ?_
   refine WL.bin rfl rfl rfl (fun w => run_or hf2 hw.f _ _ _ w) ?_
   refine jN 3 ?_
   rotate_left
   have hd12 : x.doo ≠ 12 := by simp at h51; omega
   have e3 : (men3 x (men2 x (men1 x f))) = (men2 x (men1 x f)) := by (unfold men3; rw [if_neg hd12])
   refine jN 1 ?_
   rotate_left
   all_goals
    refine WQ.say 3 (.int .u32 ((men3 x (men2 x (men1 x f))) : Int)) (by rw [e3]; rfl) ?_
    exact WQ.byCut hQ ⟨rfl,rfl,rfl,rfl,trivial⟩
  refine jN 14 ?_
  refine WC.cond rfl (fun h59 => ?_) (fun h59 => ?_)
  ·refine jN 13 ?_
   exact WQ.ret (rs := [.tmp 2]) rfl (.tmp rfl .nil) (fun w hS => ⟨⟨false,fun h => by cases h⟩,rfl,hS.sublist (List.nil_sublist _)⟩)
  have hl40 : x.l.length ≤ 40 := by simp at h59; omega
  have hf3 := men_lt hw hf
  refine jN 9 ?_
  refine WC.chunks (C' := [pt b5 x.cells 92]) (fun w hS => (jK hS)) ?_
  refine WC.loop (α := Nat × Nat) (fun g => g.1 ≤ 24 ∧ g.2 < 4294967296 ∧ (∀ k,(men3 x (men2 x (men1 x f))).testBit k = true → g.2.testBit k = true) ∧ ∀ j,j < g.1 → x.l.getD j 0 ≠ 0 → g.2.testBit j = true) (fun g => [(0,.slice (some ⟨b,off,none⟩) l.length c),(3,.int .u32 (g.2 : Int)),(4,.int .i64 (i : Int)),(5,pp b5),(6,.int .i64 (g.1 : Int))]) (fun _ => [pt b5 x.cells 92]) (fun g => 24 - g.1) ((0,(men3 x (men2 x (men1 x f))))) ?_ ?_ ?_ ?_
  ·exact ⟨Nat.zero_le _,hf3,fun _ h => h,fun j hj => by omega⟩
  ·exact ⟨rfl,rfl,rfl,rfl,rfl,trivial⟩
  ·rfl
  rintro ⟨k,f2⟩ ⟨hk,hf4,hup,hz⟩
  dsimp only at hk hf4 hup hz
  show WC _ _ _ _ _ _ _ [(0,.slice (some ⟨b,off,none⟩) l.length c),(3,.int .u32 (f2 : Int)),(4,.int .i64 (i : Int)),(5,pp b5),(6,.int .i64 (k : Int))] [pt b5 x.cells 92]
  refine jN 15 ?_
  refine WA.splitB (i := 65) rfl (fun g65 => ?_) (fun g65 => ?_)
  ·have hkl : k < x.l.length := by simpa using g65
   refine jN 10 ?_
   refine WA.splitB (i := 69) rfl (fun g69 => ?_) (fun g69 => ?_)
   ·have hk24 : k < 24 := by (simp at g69; omega)
    refine jN 13 ?_
    refine WC.cond rfl (fun h73 => ?_) (fun h73 => ?_)
    ·obtain ⟨y,hy⟩ : ∃ y,x.l[k]? = some y := ⟨_,List.getElem?_eq_getElem hkl⟩
     obtain ⟨b2,off2,hla,hc2⟩ := hrc k y hy
     have hgy : x.l.getD k 0 = y := by rw [List.getD_eq_getElem?_getD,hy]; rfl
     refine jN 10 ?_
     refine WA.say 77 (.slice (some ⟨b2,off2,none⟩) x.l.length x.lc) (by rw [← hla]; rfl) ?_
     refine jN 3 ?_
     refine WL.indexAddr F.sl90 rfl rfl rfl hkl ?_
     refine jN 1 ?_
     refine WL.load1 F.one2 rfl rfl (v := .int .i64 y) (fun w hS => hS.oldc (by rw [Nat.mul_one]; exact hc2) (by simp)) ?_
     refine jN 4 ?_
     refine WC.cond rfl (fun h81 => ?_) (fun h81 => ?_)
     ·have hp32 : 2 ^ k < 4294967296 := Nat.lt_of_lt_of_le (Nat.pow_lt_pow_right (by decide) (show k < 32 by omega)) (by decide)
      refine jN 6 ?_
      refine WL.convert rfl rfl (v := .int .u64 (k : Int)) (fun w hS => conv61 (by omega) w) ?_
      refine jN 1 ?_
      refine WL.bin rfl rfl rfl (fun w => run_shl1U (by omega) _ _ _ w) ?_
      refine jN 1 ?_
      refine WL.bin rfl rfl rfl (fun w => run_or hf4 hp32 _ _ _ w) ?_
      refine jN 13 ?_
      have hz2 : ∀ j,j < k + 1 → x.l.getD j 0 ≠ 0 → (f2 ||| 2 ^ k).testBit j = true := fun j hj hne => by
       rw [Nat.testBit_or]
       rcases Nat.lt_or_ge j k with h | h
       ·rw [hz j h hne,Bool.true_or]
       ·have e : j = k := by omega
        rw [e,Nat.testBit_two_pow_self,Bool.or_true]
      refine WQ.chunks (C' := [pt b5 x.cells 92]) (fun w hS => (jK hS)) ?_
      refine WQ.back ((k + 1,f2 ||| 2 ^ k)) ?_ ?_ ?_ ?_
      ·exact ⟨by (show k + 1 ≤ 24; omega),or_lt32 hf4 hp32,fun j hj => by (rw [Nat.testBit_or,hup j hj,Bool.true_or]),hz2⟩
      ·(show 24 - (k + 1) < 24 - k; omega)
      ·exact ⟨rfl,rfl,rfl,rfl,rfl,trivial⟩
      rfl
     have hy0 : y = 0 := by (simp at h81; exact h81)
     refine jN 11 ?_
     have hz2 : ∀ j,j < k + 1 → x.l.getD j 0 ≠ 0 → f2.testBit j = true := fun j hj hne => by
      rcases Nat.lt_or_ge j k with h | h
      ·exact hz j h hne
      ·have e : j = k := by omega
       rw [e,hgy] at hne
       exact absurd hy0 hne
     refine WQ.chunks (C' := [pt b5 x.cells 92]) (fun w hS => (jK hS)) ?_
     refine WQ.back ((k + 1,f2)) ?_ ?_ ?_ ?_
     ·exact ⟨by (show k + 1 ≤ 24; omega),hf4,hup,hz2⟩
     ·(show 24 - (k + 1) < 24 - k; omega)
     ·exact ⟨rfl,rfl,rfl,rfl,rfl,trivial⟩
     rfl
    have hdn : x.doo = 13 → x.l.length ≤ k ∨ 24 ≤ k := fun h => by (rw [h] at h73; simp at h73)
    refine jN 14 ?_
    have hop : OpIn x f2 := men_in x f f2 hup fun h13 j hj hne => by
     rcases hdn h13 with h | h
     ·rcases Nat.lt_or_ge j k with h2 | h2
      ·exact hz j h2 hne
      ·exact absurd (by rw [List.getD_eq_getElem?_getD,List.getElem?_eq_none (by omega)]; rfl) hne
     ·exact hz j (by omega) hne
    have hin2 : ∀ y ∈ l.take (i + 1),OpIn y f2 ∧ y.l.length ≤ 40 := fun y hy => by
     rw [List.take_add_one,hx] at hy
     rcases List.mem_append.1 hy with hy | hy
     ·exact ⟨(hin y hy).1.mono fun k hk => hup k (men_up x f hk),(hin y hy).2⟩
     ·simp at hy
      subst hy
      exact ⟨hop,hl40⟩
    refine WQ.chunks (C' := []) (fun w hS => hS.sublist (List.nil_sublist _)) ?_
    refine WQ.back ((i + 1,f2)) ?_ ?_ ?_ ?_
    ·exact ⟨by (show i + 1 ≤ l.length; omega),hf4,hin2⟩
    ·(show l.length - (i + 1) < l.length - i; omega)
    ·exact ⟨rfl,rfl,rfl,trivial⟩
    rfl
   have hdn : x.doo = 13 → x.l.length ≤ k ∨ 24 ≤ k := fun _ => .inr (by simp at g69; omega)
   refine jN 25 ?_
   have hop : OpIn x f2 := men_in x f f2 hup fun h13 j hj hne => by
    rcases hdn h13 with h | h
    ·rcases Nat.lt_or_ge j k with h2 | h2
     ·exact hz j h2 hne
     ·exact absurd (by rw [List.getD_eq_getElem?_getD,List.getElem?_eq_none (by omega)]; rfl) hne
    ·exact hz j (by omega) hne
   have hin2 : ∀ y ∈ l.take (i + 1),OpIn y f2 ∧ y.l.length ≤ 40 := fun y hy => by
    rw [List.take_add_one,hx] at hy
    rcases List.mem_append.1 hy with hy | hy
    ·exact ⟨(hin y hy).1.mono fun k hk => hup k (men_up x f hk),(hin y hy).2⟩
    ·simp at hy
     subst hy
     exact ⟨hop,hl40⟩
   refine WQ.chunks (C' := []) (fun w hS => hS.sublist (List.nil_sublist _)) ?_
   refine WQ.back ((i + 1,f2)) ?_ ?_ ?_ ?_
   ·exact ⟨by (show i + 1 ≤ l.length; omega),hf4,hin2⟩
   ·(show l.length - (i + 1) < l.length - i; omega)
   ·exact ⟨rfl,rfl,rfl,trivial⟩
   rfl
  have hdn : x.doo = 13 → x.l.length ≤ k ∨ 24 ≤ k := fun _ => .inl (by simp at g65; omega)
  refine jN 33 ?_
  have hop : OpIn x f2 := men_in x f f2 hup fun h13 j hj hne => by
   rcases hdn h13 with h | h
   ·rcases Nat.lt_or_ge j k with h2 | h2
    ·exact hz j h2 hne
    ·exact absurd (by rw [List.getD_eq_getElem?_getD,List.getElem?_eq_none (by omega)]; rfl) hne
   ·exact hz j (by omega) hne
  have hin2 : ∀ y ∈ l.take (i + 1),OpIn y f2 ∧ y.l.length ≤ 40 := fun y hy => by
   rw [List.take_add_one,hx] at hy
   rcases List.mem_append.1 hy with hy | hy
   ·exact ⟨(hin y hy).1.mono fun k hk => hup k (men_up x f hk),(hin y hy).2⟩
   ·simp at hy
    subst hy
    exact ⟨hop,hl40⟩
  refine WQ.chunks (C' := []) (fun w hS => hS.sublist (List.nil_sublist _)) ?_
  refine WQ.back ((i + 1,f2)) ?_ ?_ ?_ ?_
  ·exact ⟨by (show i + 1 ≤ l.length; omega),hf4,hin2⟩
  ·(show l.length - (i + 1) < l.length - i; omega)
  ·exact ⟨rfl,rfl,rfl,trivial⟩
  rfl
 have hie : i = l.length := by simp at h13; omega
 subst hie
 rw [List.take_length] at hin
 refine jN 10 ?_
 refine jC (β := Option Addr × Nat) (res := fun y => .slice y.1 (featL f).length y.2) (cs := fun y => [rowc (.slice y.1 (featL f).length y.2) (featL f).length 3 1 (nums (featL f))]) F.fun34 rfl (fun w hS _ => Features_c f hf w) (fun ⟨va,vc⟩ => ?_)
 refine jN 9 ?_
 refine WQ.ret (rs := [.tmp 2]) rfl (.tmp rfl .nil) (fun w hS => ⟨⟨_,fun h => ⟨hl12,f,hf,?_,hin⟩⟩,rfl,hS.sublist (List.nil_sublist _)⟩)
 have h9 : ((featL f).length : Int) ≤ 7 := of_decide_eq_true h
 omega
structure CubeG where
 m : Nat
 G : List Nat
 l : List Dec
 r : Nat
theorem Cube_c (on off : Nat) (hon : on < 4294967296) (hoff : off < 4294967296) (w : World) : Calls Tryz.prog 107 [.int .u32 (on : Int),.int .u32 (off : Int)].toArray w (DPost (fun c => cubeB on off 0 c) w) := by
 have hon1 : (on &&& 16777215) < 4294967296 := Nat.lt_of_le_of_lt Nat.and_le_left hon
 have hoff1 : (off &&& 16777215) < 4294967296 := Nat.lt_of_le_of_lt Nat.and_le_left hoff
 refine enter Tryz.func107 rfl Tryz.ntmps107 rfl (St.init _) ?_
 refine jN 3 ?_
 refine WL.alloc F.zero35 rfl (fun b4 => ?_)
 refine jN 7 ?_
 refine WL.bin rfl rfl rfl (fun w => run_and (b := 16777215) hon (by decide) _ _ _ w) ?_
 refine jN 3 ?_
 refine WL.bin rfl rfl rfl (fun w => run_and (b := 16777215) hoff (by decide) _ _ _ w) ?_
 refine jN 14 ?_
 refine WL.bin rfl rfl rfl (fun w => run_and hon1 hoff1 _ _ _ w) ?_
 refine jN 4 ?_
 refine WC.cond rfl (fun h15 => ?_) (fun h15 => ?_)
 ·have hcl : (on &&& 16777215) &&& (off &&& 16777215) ≠ 0 := by (intro e; rw [e] at h15; simp at h15)
  refine jN 10 ?_
  refine WQ.ret (rs := [.cell 4 35]) rfl (.cellN F.agg35 rfl jM rfl .nil) (fun w hS => ⟨⟨(.lf false,none,0),trivial,fun c => (cubeB_clash hcl c).symm⟩,rfl,hS.drop.rowNil _ _⟩)
 have hcl : (on &&& 16777215) &&& (off &&& 16777215) = 0 := by (simp at h15; omega)
 refine jN 5 ?_
 refine WL.call0 (β := List Nat × Nat) (res := fun x => .returned (pp x.2)) (cs := fun x => [mkr x.1 x.2 []]) (ψ := fun _ => True) F.fun147 (fun d h => by cases h; rfl) rfl (fun w hS => (newMaker_c w).mono (fun e w2 ⟨x,h1,h2⟩ => ⟨x,trivial,h1,h2⟩)) (fun ⟨G0,bm⟩ _ => ?_)
 refine WL.step ?_
 refine WL.assign rfl rfl ?_
 refine WL.nil ?_
 refine WQ.then_normal ?_
 refine WC.seq ?_
 refine WC.region ?_
 refine WL.step ?_
 refine WL.assign rfl rfl ?_
 refine WL.nil ?_
 refine WQ.then_normal ?_
 refine WC.seq ?_
 refine WC.seq ?_
 refine WC.region ?_
 refine WL.step ?_
 refine WL.assign rfl rfl ?_
 refine WL.nil ?_
 refine WQ.then_normal ?_
 refine WC.block ?_
 refine WC.loop (α := CubeG) (fun g => g.m ≤ 24 ∧ Mk g.l ∧ g.l.length + g.m ≤ 24 ∧ g.r < g.l.length + 2 ∧ (trs g.l g.r).ok g.m ∧ ∀ c,(trs g.l g.r).ev c = cubeB (on &&& 16777215) (off &&& 16777215) g.m c) (fun g => [(0,.int .u32 (((on &&& 16777215) : Nat) : Int)),(1,.int .u32 (((off &&& 16777215) : Nat) : Int)),(4,pp b4),(5,pp bm),(6,.int .i64 (g.r : Int)),(7,.int .i64 ((g.m : Int) - 1))]) (fun g => [mkr g.G bm g.l,pt b4 [.slice none 0 0,.int .i64 0] 35]) (fun g => g.m) (⟨24,G0,[],1⟩) ?_ ?_ ?_ ?_
 ·exact ⟨Nat.le_refl _,Mk.nil,(by show 0 + 24 ≤ 24; decide),(by show 1 < 0 + 2; decide),trivial,fun c => (cubeB_end _ _ c).symm⟩
 ·exact ⟨rfl,rfl,rfl,rfl,rfl,rfl,trivial⟩
 ·rfl
 rintro ⟨m,G,l,r⟩ ⟨hm24,hm,hlm,hr,hok,hev⟩
 dsimp only at hm24 hm hlm hr hok hev
 show WC _ _ _ _ _ _ _ [(0,.int .u32 (((on &&& 16777215) : Nat) : Int)),(1,.int .u32 (((off &&& 16777215) : Nat) : Int)),(4,pp b4),(5,pp bm),(6,.int .i64 (r : Int)),(7,.int .i64 ((m : Int) - 1))] [mkr G bm l,pt b4 [.slice none 0 0,.int .i64 0] 35]
 refine jN 9 ?_
 refine WC.cond rfl (fun h19 => ?_) (fun h19 => ?_)
 ·obtain ⟨k,rfl⟩ : ∃ k,m = k + 1 := ⟨m - 1,by (simp at h19; omega)⟩
  have hki : (((k + 1 : Nat) : Int) - 1) = (k : Int) := by omega
  refine jN 11 ?_
  refine WA.say 24 (.int .i64 (k : Int)) (by rw [← hki]; rfl) ?_
  refine jN 1 ?_
  refine WL.bin rfl rfl rfl (fun w => run_shr (by omega) _ _ _ w) ?_
  refine jN 1 ?_
  refine WL.bin rfl rfl rfl (fun w => run_and (b := 1) (Nat.lt_of_le_of_lt (by rw [Nat.shiftRight_eq_div_pow]; exact Nat.div_le_self _ _) hon1) (by decide) _ _ _ w) ?_
  refine jN 6 ?_
  refine WC.cond rfl (fun h22 => ?_) (fun h22 => ?_)
  ·rw [Fm.testBit_shift] at h22
   have hb1 : (on &&& 16777215).testBit k = true := h22
   have hb2 : (off &&& 16777215).testBit k = false := by
    have h0 : ((on &&& 16777215) &&& (off &&& 16777215)).testBit k = false := by rw [hcl]; simp
    rw [Nat.testBit_and,hb1] at h0; simpa using h0
   refine jN 5 ?_
   refine WA.say 29 (.int .i64 (k : Int)) (by rw [← hki]; rfl) ?_
   refine jN 3 ?_
   refine WL.callC (β := { z : List Nat × List Dec × Nat // MadeN l z.2.1 z.2.2 (mkN k (trs l 0) (trs l r)) ∧ z.2.1.length ≤ l.length + 1 }) (res := fun z => .int .i64 (z.1.2.2 : Int)) (cs := fun z => [mkr z.1.1 bm z.1.2.1]) (Cs := [mkr G bm l]) (C1 := [pt b4 [.slice none 0 0,.int .i64 0] 35]) (O' := G) F.fun149 (fun d h => by cases h; rfl) rfl (List.Perm.refl _) bun_O1 bun_O2 (fun w hS hS2 => mnode_c G bm l k 0 r w (by omega) hm (by omega) hr (by omega) hS2) (fun ⟨⟨G2,l2,r2⟩,hm2,hl2⟩ => ?_)
   dsimp only at hm2 hl2
   refine jN 9 ?_
   refine WA.say 20 (.int .i64 (k : Int)) (by rw [← hki]; rfl) ?_
   refine jN 5 ?_
   refine WQ.chunks (C' := [mkr G2 bm l2,pt b4 [.slice none 0 0,.int .i64 0] 35]) (fun w hS => (jK hS)) ?_
   refine WQ.back (⟨k,G2,l2,r2⟩) ?_ ?_ ?_ ?_
   ·exact ⟨by show k ≤ 24; omega,hm2.ismk,by dsimp only; omega,hm2.lt,by show (trs l2 r2).ok k; rw [hm2.tree]; exact mkN_ok (Nat.le_refl _) (by omega) (by rw [(trs_zero l).1]; trivial) hok,fun c => by (show (trs l2 r2).ev c = cubeB _ _ k c; rw [cubeB_step (m := k) (by omega) c,hm2.tree,mkN_ev,(trs_zero l).1,hev,hb1,hb2]; cases c k <;> simp [BT.ev])⟩
   ·(show k < k + 1; omega)
   ·exact ⟨rfl,rfl,rfl,rfl,rfl,rfl,trivial⟩
   rfl
  rw [Fm.testBit_shift] at h22
  have hb1 : (on &&& 16777215).testBit k = false := h22
  refine jN 6 ?_
  refine WA.say 34 (.int .i64 (k : Int)) (by rw [← hki]; rfl) ?_
  refine jN 1 ?_
  refine WL.bin rfl rfl rfl (fun w => run_shr (by omega) _ _ _ w) ?_
  refine jN 1 ?_
  refine WL.bin rfl rfl rfl (fun w => run_and (b := 1) (Nat.lt_of_le_of_lt (by rw [Nat.shiftRight_eq_div_pow]; exact Nat.div_le_self _ _) hoff1) (by decide) _ _ _ w) ?_
  refine jN 6 ?_
  refine WC.cond rfl (fun h32 => ?_) (fun h32 => ?_)
  ·rw [Fm.testBit_shift] at h32
   have hb2 : (off &&& 16777215).testBit k = true := h32
   refine jN 5 ?_
   refine WA.say 39 (.int .i64 (k : Int)) (by rw [← hki]; rfl) ?_
   refine jN 3 ?_
   refine WL.callC (β := { z : List Nat × List Dec × Nat // MadeN l z.2.1 z.2.2 (mkN k (trs l r) (trs l 0)) ∧ z.2.1.length ≤ l.length + 1 }) (res := fun z => .int .i64 (z.1.2.2 : Int)) (cs := fun z => [mkr z.1.1 bm z.1.2.1]) (Cs := [mkr G bm l]) (C1 := [pt b4 [.slice none 0 0,.int .i64 0] 35]) (O' := G) F.fun149 (fun d h => by cases h; rfl) rfl (List.Perm.refl _) bun_O1 bun_O2 (fun w hS hS2 => mnode_c G bm l k r 0 w (by omega) hm hr (by omega) (by omega) hS2) (fun ⟨⟨G2,l2,r2⟩,hm2,hl2⟩ => ?_)
   dsimp only at hm2 hl2
   refine jN 9 ?_
   refine WA.say 20 (.int .i64 (k : Int)) (by rw [← hki]; rfl) ?_
   refine jN 5 ?_
   refine WQ.chunks (C' := [mkr G2 bm l2,pt b4 [.slice none 0 0,.int .i64 0] 35]) (fun w hS => (jK hS)) ?_
   refine WQ.back (⟨k,G2,l2,r2⟩) ?_ ?_ ?_ ?_
   ·exact ⟨by show k ≤ 24; omega,hm2.ismk,by dsimp only; omega,hm2.lt,by show (trs l2 r2).ok k; rw [hm2.tree]; exact mkN_ok (Nat.le_refl _) (by omega) hok (by rw [(trs_zero l).1]; trivial),fun c => by (show (trs l2 r2).ev c = cubeB _ _ k c; rw [cubeB_step (m := k) (by omega) c,hm2.tree,mkN_ev,(trs_zero l).1,hev,hb1,hb2]; cases c k <;> simp [BT.ev])⟩
   ·(show k < k + 1; omega)
   ·exact ⟨rfl,rfl,rfl,rfl,rfl,rfl,trivial⟩
   rfl
  rw [Fm.testBit_shift] at h32
  have hb2 : (off &&& 16777215).testBit k = false := h32
  refine jN 7 ?_
  refine WA.say 20 (.int .i64 (k : Int)) (by rw [← hki]; rfl) ?_
  refine jN 5 ?_
  refine WQ.chunks (C' := [mkr G bm l,pt b4 [.slice none 0 0,.int .i64 0] 35]) (fun w hS => (jK hS)) ?_
  refine WQ.back (⟨k,G,l,r⟩) ?_ ?_ ?_ ?_
  ·exact ⟨by show k ≤ 24; omega,hm,by dsimp only; omega,hr,BT.ok_mono (n := k + 1) hok (Nat.le_succ _),fun c => by (show (trs l r).ev c = cubeB _ _ k c; rw [cubeB_step (m := k) (by omega) c,hev,hb1,hb2]; simp)⟩
  ·(show k < k + 1; omega)
  ·exact ⟨rfl,rfl,rfl,rfl,rfl,rfl,trivial⟩
  rfl
 have hm0 : m = 0 := by (simp at h19; omega)
 subst hm0
 refine jN 12 ?_
 refine WL.callC (β := Option Addr × Nat) (res := fun z => dval (trs l r) z.1 z.2) (cs := fun z => [dC z.1 z.2 (trs l r)]) (Cs := [mkr G bm l]) (C1 := [pt b4 [.slice none 0 0,.int .i64 0] 35]) (O' := G) F.fun148 (fun d h => by cases h; rfl) rfl (List.Perm.refl _) bun_O1 bun_O2 (fun w hS hS2 => done_c G bm l r w hm hr hok (by omega) hS2) (fun z3 => ?_)
 refine jN 5 ?_
 refine WQ.ret (rs := [.cell 4 35]) rfl (.cellN F.agg35 rfl jM rfl .nil) (fun w hS => ⟨⟨(trs l r,z3),hok,fun c => by rw [hev,cubeB_mask]⟩,rfl,(jK hS)⟩)
theorem run_remI {a m : Nat} (ha : a < 4294967296) (hm : 0 < m) (hm2 : m < 4294967296) (t : TypeId) (x y : Operand) (w : World) :
  (do eqGuard .rem t x y (.int .i64 (a : Int)) (.int .i64 (m : Int)); binOp .rem t (.int .i64 (a : Int)) (.int .i64 (m : Int)) : Sem Value).run Tryz.prog w = .ok (.int .i64 ((a % m : Nat) : Int)) w := by
 have h1 : (a : Int).tmod (m : Int) = ((a % m : Nat) : Int) := by
  rw [Int.tmod_eq_emod_of_nonneg (Int.natCast_nonneg _)]; simp
 have h4 : a % m < 4294967296 := Nat.lt_trans (Nat.mod_lt _ hm) hm2
 have h2 : IntKind.i64.wrap ((a % m : Nat) : Int) = ((a % m : Nat) : Int) := wrap_in (by omega) (by omega)
 have h3 : ¬ m = 0 := by omega
 simp only [Int.natCast_emod] at h1 h2
 simp [eqGuard,binOp,Op.intDiv,h1,h2,h3]
theorem RdDL.pos {w : World} {s : List DV} {a : Option Addr} (h : RdDL w s a) (hs : 0 < s.length) : ∃ b off,a = some ⟨b,off,none⟩ ∧ ∀ (i : Nat) (x : DV),s[i]? = some x → ∀ j v,(dvl x)[j]? = some v → w.cell? ⟨b,off + i * 2 + j,none⟩ = some v := by
 obtain ⟨b,off,h1,_⟩ := h.at (List.getElem?_eq_getElem hs)
 refine ⟨b,off,h1,fun i x hx j v hv => ?_⟩
 obtain ⟨b2,off2,h2,h3,_⟩ := h.at hx
 rw [h1] at h2
 simp only [Option.some.injEq,Addr.mk.injEq,and_true] at h2
 obtain ⟨rfl,rfl⟩ := h2
 exact h3 j v hv
theorem evAt_get {s : List DV} {k : Nat} {x : DV} (h : s[k % s.length]? = some x) : evAt (s.map (fun y => y.1.ev)) k = x.1.ev := by
 unfold evAt
 rw [List.length_map,List.getD_eq_getElem?_getD,List.getElem?_map,h]
 rfl
theorem OneP.weak {s : List DV} {f g : Cf → Bool} {w w' : World} {e : Ending} (h : OneP s f w e w') (hf : ∀ cf,f cf = g cf) : OneP s g w e w' := by
 obtain ⟨y,k,h1,h2,h3,h4,h5⟩ := h
 exact ⟨y,k,h1,h2,fun cf => by rw [h3,hf],h4,h5⟩
set_option maxRecDepth 100000 in
theorem opOne_c (x : OpV) (hw : x.wf) (hl40 : x.l.length ≤ 40) (s : List DV) (a : Option Addr) (c : Nat) (hsp : 0 < s.length) (hsl : s.length ≤ 1000) (w : World) (hr : RdDL w s a) (hrl : RdC w x.l x.la) :
  Calls Tryz.prog 51 [x.val,.slice a s.length c].toArray w (OneP s (opD x (s.map (fun y => y.1.ev))) w) := by
 obtain ⟨bs,os,ha,hsc⟩ := hr.pos hsp
 subst ha
 obtain ⟨xa,hxa⟩ : ∃ y,s[x.a % s.length]? = some y := ⟨_,List.getElem?_eq_getElem (Nat.mod_lt _ hsp)⟩
 obtain ⟨xb,hxb⟩ : ∃ y,s[x.b % s.length]? = some y := ⟨_,List.getElem?_eq_getElem (Nat.mod_lt _ hsp)⟩
 obtain ⟨xc,hxc⟩ : ∃ y,s[x.c % s.length]? = some y := ⟨_,List.getElem?_eq_getElem (Nat.mod_lt _ hsp)⟩
 have hea : evAt (s.map (fun y => y.1.ev)) x.a = xa.1.ev := evAt_get hxa
 have heb : evAt (s.map (fun y => y.1.ev)) x.b = xb.1.ev := evAt_get hxb
 have hec : evAt (s.map (fun y => y.1.ev)) x.c = xc.1.ev := evAt_get hxc
 refine enter Tryz.func51 rfl Tryz.ntmps51 rfl (St.init _) ?_
 refine jN 3 ?_
 refine WL.boxN rfl rfl (fun b2 => ?_)
 refine jN 1 ?_
 refine WL.alloc F.zero35 rfl (fun b4 => ?_)
 refine jN 5 ?_
 refine WC.cutPE (α := Nat × Nat × Nat) (fun z => [(2,pp b2),(1,.slice (some ⟨bs,os,none⟩) s.length c),(4,pp b4),(6,pp z.1),(7,pp z.2.1),(8,pp z.2.2)]) (fun z => [pt z.1 (dvl xa) 35,pt z.2.1 (dvl xb) 35,pt z.2.2 (dvl xc) 35,pt b2 x.cells 92,pt b4 [.slice none 0 0,.int .i64 0] 35]) (fun c a d v w h => by cases d <;> exact h) (fun Q' hP hQ => ?_) (fun xE => ?_)
 ·refine WC.drawsL (by kernel_rfl) (FactsOk.cons (ds := [30,31,32]) (LoadOk.one (t := 2) (off := 2) rfl jM rfl) (FactsOk.cons (ds := [30,31,32]) (LoadOk.by (Y := fun w => ∀ j v,(dvl xa)[j]? = some v → w.cell? ⟨bs,os + (x.a % s.length) * 2 + j,none⟩ = some v) (fun w hS => fun j v hv => hS.oldc (hsc _ _ hxa j v hv) (by simp))) (FactsOk.cons (ds := [31,32]) (LoadOk.one (t := 2) (off := 3) rfl jM rfl) (FactsOk.cons (ds := [31,32]) (LoadOk.by (Y := fun w => ∀ j v,(dvl xb)[j]? = some v → w.cell? ⟨bs,os + (x.b % s.length) * 2 + j,none⟩ = some v) (fun w hS => fun j v hv => hS.oldc (hsc _ _ hxb j v hv) (by simp))) (FactsOk.cons (ds := [32]) (LoadOk.one (t := 2) (off := 4) rfl jM rfl) (FactsOk.cons (ds := [32]) (LoadOk.by (Y := fun w => ∀ j v,(dvl xc)[j]? = some v → w.cell? ⟨bs,os + (x.c % s.length) * 2 + j,none⟩ = some v) (fun w hS => fun j v hv => hS.oldc (hsc _ _ hxc j v hv) (by simp))) (FactsOk.nil))))))) ?_
  refine jT 0 rfl (Yl.move rfl) ?_
  refine jT 1 rfl (Yl.fieldAddr0 F.fld92_2 rfl) ?_
  refine jF 2 0 rfl rfl (Yl.load1 F.one5 rfl) ?_
  refine jT 3 rfl (Yl.convert rfl (v := .int .i64 (x.a : Int)) (fun w => conv8 hw.a w)) ?_
  refine jT 4 rfl (Yl.move rfl) ?_
  refine jT 5 rfl (Yl.lenSl F.und48 rfl) ?_
  refine jT 6 rfl (Yl.bin rfl rfl (fun w => run_remI (a := x.a) (m := s.length) (by have := hw.a; omega) hsp (by omega) _ _ _ w)) ?_
  refine jT 7 rfl (Yl.indexAddr (i := x.a % s.length) F.sl48 rfl rfl (Nat.mod_lt _ hsp)) ?_
  refine jF 8 1 rfl rfl (Yl.loadN F.agg35 rfl rfl) ?_
  refine jT 9 rfl (Yl.move rfl) ?_
  refine jT 10 rfl (Yl.fieldAddr0 F.fld92_3 rfl) ?_
  refine jF 11 2 rfl rfl (Yl.load1 F.one5 rfl) ?_
  refine jT 12 rfl (Yl.convert rfl (v := .int .i64 (x.b : Int)) (fun w => conv8 hw.b w)) ?_
  refine jT 13 rfl (Yl.move rfl) ?_
  refine jT 14 rfl (Yl.lenSl F.und48 rfl) ?_
  refine jT 15 rfl (Yl.bin rfl rfl (fun w => run_remI (a := x.b) (m := s.length) (by have := hw.b; omega) hsp (by omega) _ _ _ w)) ?_
  refine jT 16 rfl (Yl.indexAddr (i := x.b % s.length) F.sl48 rfl rfl (Nat.mod_lt _ hsp)) ?_
  refine jF 17 3 rfl rfl (Yl.loadN F.agg35 rfl rfl) ?_
  refine jT 18 rfl (Yl.move rfl) ?_
  refine jT 19 rfl (Yl.fieldAddr0 F.fld92_4 rfl) ?_
  refine jF 20 4 rfl rfl (Yl.load1 F.one5 rfl) ?_
  refine jT 21 rfl (Yl.convert rfl (v := .int .i64 (x.c : Int)) (fun w => conv8 hw.c w)) ?_
  refine jT 22 rfl (Yl.move rfl) ?_
  refine jT 23 rfl (Yl.lenSl F.und48 rfl) ?_
  refine jT 24 rfl (Yl.bin rfl rfl (fun w => run_remI (a := x.c) (m := s.length) (by have := hw.c; omega) hsp (by omega) _ _ _ w)) ?_
  refine jT 25 rfl (Yl.indexAddr (i := x.c % s.length) F.sl48 rfl rfl (Nat.mod_lt _ hsp)) ?_
  refine jF 26 5 rfl rfl (Yl.loadN F.agg35 rfl rfl) ?_
  refine WD.three (i := 27) (j := 28) (l := 29) (by decide +kernel) rfl rfl rfl ?_ ?_ ?_
  refine WL.alloc F.zero35 rfl (fun b6 => ?_)
  refine WD.on (closed_of (by decide +kernel)) (fun w hS => Sx.keep (hS.cell jM rfl) (Sx.keep (fun j v hv => hS.oldc (hsc _ _ hxa j v hv) (by simp)) (Sx.keep (hS.cell jM rfl) (Sx.keep (fun j v hv => hS.oldc (hsc _ _ hxb j v hv) (by simp)) (Sx.keep (hS.cell jM rfl) (Sx.keep (fun j v hv => hS.oldc (hsc _ _ hxc j v hv) (by simp)) (Sx.none))))))) ?_
  refine WD.two (i := 28) (j := 29) (by decide +kernel) rfl rfl ?_ ?_
  refine WL.alloc F.zero35 rfl (fun b7 => ?_)
  refine WD.on (closed_of (by decide +kernel)) (fun w hS => Sx.keep (hS.cell jM rfl) (Sx.keep (fun j v hv => hS.oldc (hsc _ _ hxa j v hv) (by simp)) (Sx.keep (hS.cell jM rfl) (Sx.keep (fun j v hv => hS.oldc (hsc _ _ hxb j v hv) (by simp)) (Sx.keep (hS.cell jM rfl) (Sx.keep (fun j v hv => hS.oldc (hsc _ _ hxc j v hv) (by simp)) (Sx.none))))))) ?_
  refine jA 29 rfl ?_
  refine WL.alloc F.zero35 rfl (fun b8 => ?_)
  rotate_left
  refine WL.alloc F.zero35 rfl (fun b8 => ?_)
  refine WD.on (closed_of (by decide +kernel)) (fun w hS => Sx.keep (hS.cell jM rfl) (Sx.keep (fun j v hv => hS.oldc (hsc _ _ hxa j v hv) (by simp)) (Sx.keep (hS.cell jM rfl) (Sx.keep (fun j v hv => hS.oldc (hsc _ _ hxb j v hv) (by simp)) (Sx.keep (hS.cell jM rfl) (Sx.keep (fun j v hv => hS.oldc (hsc _ _ hxc j v hv) (by simp)) (Sx.none))))))) ?_
  refine jA 28 rfl ?_
  refine WL.alloc F.zero35 rfl (fun b7 => ?_)
  rotate_left
  refine WL.alloc F.zero35 rfl (fun b7 => ?_)
  refine WD.on (closed_of (by decide +kernel)) (fun w hS => Sx.keep (hS.cell jM rfl) (Sx.keep (fun j v hv => hS.oldc (hsc _ _ hxa j v hv) (by simp)) (Sx.keep (hS.cell jM rfl) (Sx.keep (fun j v hv => hS.oldc (hsc _ _ hxb j v hv) (by simp)) (Sx.keep (hS.cell jM rfl) (Sx.keep (fun j v hv => hS.oldc (hsc _ _ hxc j v hv) (by simp)) (Sx.none))))))) ?_
  refine WD.two (i := 27) (j := 29) (by decide +kernel) rfl rfl ?_ ?_
  refine WL.alloc F.zero35 rfl (fun b6 => ?_)
  refine WD.on (closed_of (by decide +kernel)) (fun w hS => Sx.keep (hS.cell jM rfl) (Sx.keep (fun j v hv => hS.oldc (hsc _ _ hxa j v hv) (by simp)) (Sx.keep (hS.cell jM rfl) (Sx.keep (fun j v hv => hS.oldc (hsc _ _ hxb j v hv) (by simp)) (Sx.keep (hS.cell jM rfl) (Sx.keep (fun j v hv => hS.oldc (hsc _ _ hxc j v hv) (by simp)) (Sx.none))))))) ?_
  refine jA 29 rfl ?_
  refine WL.alloc F.zero35 rfl (fun b8 => ?_)
  rotate_left
  refine WL.alloc F.zero35 rfl (fun b8 => ?_)
  refine WD.on (closed_of (by decide +kernel)) (fun w hS => Sx.keep (hS.cell jM rfl) (Sx.keep (fun j v hv => hS.oldc (hsc _ _ hxa j v hv) (by simp)) (Sx.keep (hS.cell jM rfl) (Sx.keep (fun j v hv => hS.oldc (hsc _ _ hxb j v hv) (by simp)) (Sx.keep (hS.cell jM rfl) (Sx.keep (fun j v hv => hS.oldc (hsc _ _ hxc j v hv) (by simp)) (Sx.none))))))) ?_
  refine jA 27 rfl ?_
  refine WL.alloc F.zero35 rfl (fun b6 => ?_)
  rotate_left
  refine WL.alloc F.zero35 rfl (fun b8 => ?_)
  refine WD.on (closed_of (by decide +kernel)) (fun w hS => Sx.keep (hS.cell jM rfl) (Sx.keep (fun j v hv => hS.oldc (hsc _ _ hxa j v hv) (by simp)) (Sx.keep (hS.cell jM rfl) (Sx.keep (fun j v hv => hS.oldc (hsc _ _ hxb j v hv) (by simp)) (Sx.keep (hS.cell jM rfl) (Sx.keep (fun j v hv => hS.oldc (hsc _ _ hxc j v hv) (by simp)) (Sx.none))))))) ?_
  refine WD.two (i := 27) (j := 28) (by decide +kernel) rfl rfl ?_ ?_
  refine WL.alloc F.zero35 rfl (fun b6 => ?_)
  refine WD.on (closed_of (by decide +kernel)) (fun w hS => Sx.keep (hS.cell jM rfl) (Sx.keep (fun j v hv => hS.oldc (hsc _ _ hxa j v hv) (by simp)) (Sx.keep (hS.cell jM rfl) (Sx.keep (fun j v hv => hS.oldc (hsc _ _ hxb j v hv) (by simp)) (Sx.keep (hS.cell jM rfl) (Sx.keep (fun j v hv => hS.oldc (hsc _ _ hxc j v hv) (by simp)) (Sx.none))))))) ?_
  refine jA 28 rfl ?_
  refine WL.alloc F.zero35 rfl (fun b7 => ?_)
  rotate_left
  refine WL.alloc F.zero35 rfl (fun b7 => ?_)
  refine WD.on (closed_of (by decide +kernel)) (fun w hS => Sx.keep (hS.cell jM rfl) (Sx.keep (fun j v hv => hS.oldc (hsc _ _ hxa j v hv) (by simp)) (Sx.keep (hS.cell jM rfl) (Sx.keep (fun j v hv => hS.oldc (hsc _ _ hxb j v hv) (by simp)) (Sx.keep (hS.cell jM rfl) (Sx.keep (fun j v hv => hS.oldc (hsc _ _ hxc j v hv) (by simp)) (Sx.none))))))) ?_
  refine jA 27 rfl ?_
  refine WL.alloc F.zero35 rfl (fun b6 => ?_)
  rotate_left
  all_goals
   rotate_left
   all_goals
    refine WD.on (closed_of (by decide +kernel)) (fun w hS => Sx.keep (hS.cell jM rfl) (Sx.keep (fun j v hv => hS.oldc (hsc _ _ hxa j v hv) (by simp)) (Sx.keep (hS.cell jM rfl) (Sx.keep (fun j v hv => hS.oldc (hsc _ _ hxb j v hv) (by simp)) (Sx.keep (hS.cell jM rfl) (Sx.keep (fun j v hv => hS.oldc (hsc _ _ hxc j v hv) (by simp)) (Sx.none))))))) ?_
    refine jA 30 rfl ?_
    refine WL.storeN F.agg35 rfl rfl rfl jO jU jS ?_
    refine WD.on (closed_of (by decide +kernel)) (fun w hS => Sx.gone rfl (Sx.gone rfl (Sx.keep (hS.cell jM rfl) (Sx.keep (fun j v hv => hS.oldc (hsc _ _ hxb j v hv) (by simp)) (Sx.keep (hS.cell jM rfl) (Sx.keep (fun j v hv => hS.oldc (hsc _ _ hxc j v hv) (by simp)) (Sx.none))))))) ?_
    refine jA 31 rfl ?_
    refine WL.storeN F.agg35 rfl rfl rfl jO jU jS ?_
    refine WD.on (closed_of (by decide +kernel)) (fun w hS => Sx.gone rfl (Sx.gone rfl (Sx.gone rfl (Sx.gone rfl (Sx.keep (hS.cell jM rfl) (Sx.keep (fun j v hv => hS.oldc (hsc _ _ hxc j v hv) (by simp)) (Sx.none))))))) ?_
    refine jA 32 rfl ?_
    refine WL.storeN F.agg35 rfl rfl rfl jO jU jS ?_
    refine jG ?_
    refine jD ?_
    refine WQ.chunks (C' := [pt (b6,b7,b8).1 (dvl xa) 35,pt (b6,b7,b8).2.1 (dvl xb) 35,pt (b6,b7,b8).2.2 (dvl xc) 35,pt b2 x.cells 92,pt b4 [.slice none 0 0,.int .i64 0] 35]) (fun w hS => (jK hS)) ?_
    exact WQ.byCut (hQ (b6,b7,b8)) ⟨rfl,rfl,rfl,rfl,rfl,rfl,trivial⟩
 obtain ⟨b6,b7,b8⟩ := xE
 show WQ _ _ _ _ _ _ [(2,pp b2),(1,.slice (some ⟨bs,os,none⟩) s.length c),(4,pp b4),(6,pp b6),(7,pp b7),(8,pp b8)] [pt b6 (dvl xa) 35,pt b7 (dvl xb) 35,pt b8 (dvl xc) 35,pt b2 x.cells 92,pt b4 [.slice none 0 0,.int .i64 0] 35]
 refine jN 19 ?_
 refine WC.cond rfl (fun h38 => ?_) (fun h38 => ?_)
 ·have hd : x.doo = 1 := by (simp at h38; omega)
  refine jN 3 ?_
  refine jC (β := DRes (fun _ => true)) (res := fun z => z.v) (cs := fun z => [z.ch]) F.fun74 rfl (fun w hS _ => True_c w) (fun z => ?_)
  refine jN 9 ?_
  refine WQ.ret (rs := [.cell 4 35,.tmp 5]) rfl (.cellN F.agg35 rfl jM rfl (.tmp rfl .nil)) (fun w hS => ?_)
  exact (OneP.of z _ (jK hS)).weak fun cf => by simp [opD,hd]
 have hn1 : ¬ x.doo = 1 := by (simp at h38; omega)
 refine jN 8 ?_
 refine WC.cond rfl (fun h41 => ?_) (fun h41 => ?_)
 ·have hd : x.doo = 2 := by (simp at h41; omega)
  refine jN 1 ?_
  rcases (show (0 ≤ x.i ∧ x.i < 24) ∨ (x.i < 0 ∨ 24 ≤ x.i) by omega) with hki | hko
  ·obtain ⟨k,hk⟩ := Int.eq_ofNat_of_zero_le hki.1
   have hk24 : k < 24 := by omega
   refine jN 5 ?_
   refine WA.say 44 (.int .i64 (k : Int)) (by rw [show (k : Int) = x.i from hk.symm]; rfl) ?_
   refine jN 1 ?_
   refine jC (β := DRes (fun c => c k)) (res := fun z => .tuple #[z.v,.int .i64 0]) (cs := fun z => [z.ch]) F.fun99 rfl (fun w hS _ => Var_in k hk24 w) (fun z => ?_)
   refine jN 13 ?_
   refine WQ.ret (rs := [.cell 4 35,.tmp 5]) rfl (.cellN F.agg35 rfl jM rfl (.tmp rfl .nil)) (fun w hS => ?_)
   refine (OneP.of z _ (jK hS)).weak fun cf => ?_
   have e9 : x.i.toNat = k := by rw [hk]; rfl
   have e8 : decide (0 ≤ x.i ∧ x.i < 24) = true := decide_eq_true hki
   simp only [opD,hd]
   simp [e9,hki.1,hki.2]
  refine jN 6 ?_
  refine jC (β := DRes (fun _ => false)) (res := fun z => .tuple #[z.v,.int .i64 3]) (cs := fun z => [z.ch]) F.fun99 rfl (fun w hS _ => Var_out x.i hko w) (fun z => ?_)
  refine jN 13 ?_
  refine WQ.ret (rs := [.cell 4 35,.tmp 5]) rfl (.cellN F.agg35 rfl jM rfl (.tmp rfl .nil)) (fun w hS => ?_)
  refine (OneP.of z _ (jK hS)).weak fun cf => ?_
  have e8 : decide (0 ≤ x.i ∧ x.i < 24) = false := decide_eq_false (by omega)
  simp only [opD,hd,e8,Bool.false_and]
  rfl
 have hn2 : ¬ x.doo = 2 := by (simp at h41; omega)
 refine jN 8 ?_
 refine WC.cond rfl (fun h48 => ?_) (fun h48 => ?_)
 ·have hd : x.doo = 3 := by (simp at h48; omega)
  refine jN 11 ?_
  refine jC (β := DRes (fun c => cubeB x.f x.g 0 c)) (res := fun z => z.v) (cs := fun z => [z.ch]) F.fun107 rfl (fun w hS _ => Cube_c x.f x.g hw.f hw.g w) (fun z => ?_)
  refine jN 9 ?_
  refine WQ.ret (rs := [.cell 4 35,.tmp 5]) rfl (.cellN F.agg35 rfl jM rfl (.tmp rfl .nil)) (fun w hS => ?_)
  exact (OneP.of z _ (jK hS)).weak fun cf => by simp [opD,hd]
 have hn3 : ¬ x.doo = 3 := by (simp at h48; omega)
 refine jN 8 ?_
 refine WC.cond rfl (fun h55 => ?_) (fun h55 => ?_)
 ·have hd : x.doo = 4 := by (simp at h55; omega)
  refine jN 5 ?_
  refine jC (β := DRes (fun c => !xa.1.ev c)) (res := fun z => z.v) (cs := fun z => [z.ch]) F.fun100 rfl (fun w hS _ => Not_c xa.1 xa.2.1 xa.2.2 w ((hr.rd _ (List.mem_of_getElem? hxa)).next0 hS)) (fun z => ?_)
  refine jN 9 ?_
  refine WQ.ret (rs := [.cell 4 35,.tmp 5]) rfl (.cellN F.agg35 rfl jM rfl (.tmp rfl .nil)) (fun w hS => ?_)
  exact (OneP.of z _ (jK hS)).weak fun cf => by simp [opD,hd,hea]
 have hn4 : ¬ x.doo = 4 := by (simp at h55; omega)
 refine jN 8 ?_
 refine WC.cond rfl (fun h59 => ?_) (fun h59 => ?_)
 ·have hd : x.doo = 5 := by (simp at h59; omega)
  refine jN 7 ?_
  refine jC (β := DRes (fun c => xa.1.ev c && xb.1.ev c)) (res := fun z => z.v) (cs := fun z => [z.ch]) F.fun75 rfl (fun w hS _ => And_c xa.1 xb.1 xa.2.1 xb.2.1 xa.2.2 xb.2.2 w ((hr.rd _ (List.mem_of_getElem? hxa)).next0 hS) ((hr.rd _ (List.mem_of_getElem? hxb)).next0 hS)) (fun z => ?_)
  refine jN 9 ?_
  refine WQ.ret (rs := [.cell 4 35,.tmp 5]) rfl (.cellN F.agg35 rfl jM rfl (.tmp rfl .nil)) (fun w hS => ?_)
  exact (OneP.of z _ (jK hS)).weak fun cf => by simp [opD,hd,hea,heb]
 have hn5 : ¬ x.doo = 5 := by (simp at h59; omega)
 refine jN 8 ?_
 refine WC.cond rfl (fun h64 => ?_) (fun h64 => ?_)
 ·have hd : x.doo = 6 := by (simp at h64; omega)
  refine jN 7 ?_
  refine jC (β := DRes (fun c => xa.1.ev c || xb.1.ev c)) (res := fun z => z.v) (cs := fun z => [z.ch]) F.fun105 rfl (fun w hS _ => Or_c xa.1 xb.1 xa.2.1 xb.2.1 xa.2.2 xb.2.2 w ((hr.rd _ (List.mem_of_getElem? hxa)).next0 hS) ((hr.rd _ (List.mem_of_getElem? hxb)).next0 hS)) (fun z => ?_)
  refine jN 9 ?_
  refine WQ.ret (rs := [.cell 4 35,.tmp 5]) rfl (.cellN F.agg35 rfl jM rfl (.tmp rfl .nil)) (fun w hS => ?_)
  exact (OneP.of z _ (jK hS)).weak fun cf => by simp [opD,hd,hea,heb]
 have hn6 : ¬ x.doo = 6 := by (simp at h64; omega)
 refine jN 8 ?_
 refine WC.cond rfl (fun h69 => ?_) (fun h69 => ?_)
 ·have hd : x.doo = 7 := by (simp at h69; omega)
  refine jN 7 ?_
  refine jC (β := DRes (fun c => xa.1.ev c != xb.1.ev c)) (res := fun z => z.v) (cs := fun z => [z.ch]) F.fun104 rfl (fun w hS _ => Xor_c xa.1 xb.1 xa.2.1 xb.2.1 xa.2.2 xb.2.2 w ((hr.rd _ (List.mem_of_getElem? hxa)).next0 hS) ((hr.rd _ (List.mem_of_getElem? hxb)).next0 hS)) (fun z => ?_)
  refine jN 9 ?_
  refine WQ.ret (rs := [.cell 4 35,.tmp 5]) rfl (.cellN F.agg35 rfl jM rfl (.tmp rfl .nil)) (fun w hS => ?_)
  refine (OneP.of z _ (jK hS)).weak fun cf => ?_
  simp only [opD,hd,hea,heb]
  simp
 have hn7 : ¬ x.doo = 7 := by (simp at h69; omega)
 refine jN 8 ?_
 refine WC.cond rfl (fun h74 => ?_) (fun h74 => ?_)
 ·have hd : x.doo = 8 := by (simp at h74; omega)
  refine jN 9 ?_
  refine jC (β := DRes (fun cf => bif xa.1.ev cf then xb.1.ev cf else xc.1.ev cf)) (res := fun z => z.v) (cs := fun z => [z.ch]) F.fun106 rfl (fun w hS _ => Ite_c xa.1 xb.1 xc.1 xa.2.1 xb.2.1 xc.2.1 xa.2.2 xb.2.2 xc.2.2 w ((hr.rd _ (List.mem_of_getElem? hxa)).next0 hS) ((hr.rd _ (List.mem_of_getElem? hxb)).next0 hS) ((hr.rd _ (List.mem_of_getElem? hxc)).next0 hS)) (fun z => ?_)
  refine jN 9 ?_
  refine WQ.ret (rs := [.cell 4 35,.tmp 5]) rfl (.cellN F.agg35 rfl jM rfl (.tmp rfl .nil)) (fun w hS => ?_)
  refine (OneP.of z _ (jK hS)).weak fun cf => ?_
  simp only [opD,hd,hea,heb,hec]
  cases xa.1.ev cf <;> simp
 have hn8 : ¬ x.doo = 8 := by (simp at h74; omega)
 refine jN 8 ?_
 refine WC.cond rfl (fun h80 => ?_) (fun h80 => ?_)
 ·have hd : x.doo = 9 := by (simp at h80; omega)
  refine jN 13 ?_
  refine jC (β := DRes (fun c => xa.1.ev (updI c x.i x.on))) (res := fun z => z.v) (cs := fun z => [z.ch]) F.fun108 rfl (fun w hS _ => With_c xa.1 xa.2.1 xa.2.2 x.i x.on w ((hr.rd _ (List.mem_of_getElem? hxa)).next0 hS)) (fun z => ?_)
  refine jN 9 ?_
  refine WQ.ret (rs := [.cell 4 35,.tmp 5]) rfl (.cellN F.agg35 rfl jM rfl (.tmp rfl .nil)) (fun w hS => ?_)
  exact (OneP.of z _ (jK hS)).weak fun cf => by simp [opD,hd,hea]
 have hn9 : ¬ x.doo = 9 := by (simp at h80; omega)
 refine jN 8 ?_
 refine WC.cond rfl (fun h88 => ?_) (fun h88 => ?_)
 ·have hd : x.doo = 10 := by (simp at h88; omega)
  refine jN 9 ?_
  refine jC (β := EachX xa (eachF (fun p q => p || q) (featL (x.f &&& supT (canon xa.1).1)) xa.1.ev)) (res := fun y => dval y.1.x.1 y.1.x.2.1 y.1.x.2.2) (cs := fun y => [dsC y.1.F y.1.Bs]) F.fun109 rfl (fun w hS _ => (Exists_c xa.1 xa.2.1 xa.2.2 x.f hw.f w ((hr.rd _ (List.mem_of_getElem? hxa)).next0 hS)).mono (fun e w2 ⟨y,h1,h2,h3,h4,h5⟩ => ⟨⟨y,h1,h2,h3⟩,h4,h5⟩)) (fun ⟨y,hy1,hy2,hy3⟩ => ?_)
  refine jN 9 ?_
  refine WQ.ret (rs := [.cell 4 35,.tmp 5]) rfl (.cellN F.agg35 rfl jM rfl (.tmp rfl .nil)) (fun w hS => ?_)
  refine ⟨y,0,hy1.imp_left (fun e => by rw [e]; exact List.mem_of_getElem? hxa),hy2,fun cf => ?_,rfl,(jK hS)⟩
  rw [hy3,each_sup (by simp) (hr.rd _ (List.mem_of_getElem? hxa)).1]
  simp only [opD,hd,hea]
  rfl
 have hn10 : ¬ x.doo = 10 := by (simp at h88; omega)
 refine jN 8 ?_
 refine WC.cond rfl (fun h94 => ?_) (fun h94 => ?_)
 ·have hd : x.doo = 11 := by (simp at h94; omega)
  refine jN 9 ?_
  refine jC (β := EachX xa (eachF (fun p q => p && q) (featL (x.f &&& supT (canon xa.1).1)) xa.1.ev)) (res := fun y => dval y.1.x.1 y.1.x.2.1 y.1.x.2.2) (cs := fun y => [dsC y.1.F y.1.Bs]) F.fun110 rfl (fun w hS _ => (Forall_c xa.1 xa.2.1 xa.2.2 x.f hw.f w ((hr.rd _ (List.mem_of_getElem? hxa)).next0 hS)).mono (fun e w2 ⟨y,h1,h2,h3,h4,h5⟩ => ⟨⟨y,h1,h2,h3⟩,h4,h5⟩)) (fun ⟨y,hy1,hy2,hy3⟩ => ?_)
  refine jN 9 ?_
  refine WQ.ret (rs := [.cell 4 35,.tmp 5]) rfl (.cellN F.agg35 rfl jM rfl (.tmp rfl .nil)) (fun w hS => ?_)
  refine ⟨y,0,hy1.imp_left (fun e => by rw [e]; exact List.mem_of_getElem? hxa),hy2,fun cf => ?_,rfl,(jK hS)⟩
  rw [hy3,each_sup (by simp) (hr.rd _ (List.mem_of_getElem? hxa)).1]
  simp only [opD,hd,hea]
  rfl
 have hn11 : ¬ x.doo = 11 := by (simp at h94; omega)
 refine jN 8 ?_
 refine WC.cond rfl (fun h100 => ?_) (fun h100 => ?_)
 ·have hd : x.doo = 12 := by (simp at h100; omega)
  refine jN 15 ?_
  refine jC (β := DRes (fun cf => inB x.i x.j (selN x.f cf 24))) (res := fun z => z.v) (cs := fun z => [z.ch]) F.fun111 rfl (fun w hS _ => Between_c x.f x.i x.j hw.f w) (fun z => ?_)
  refine jN 9 ?_
  refine WQ.ret (rs := [.cell 4 35,.tmp 5]) rfl (.cellN F.agg35 rfl jM rfl (.tmp rfl .nil)) (fun w hS => ?_)
  exact (OneP.of z _ (jK hS)).weak fun cf => by simp [opD,hd]
 have hn12 : ¬ x.doo = 12 := by (simp at h100; omega)
 refine jN 8 ?_
 refine WC.cond rfl (fun h109 => ?_) (fun h109 => ?_)
 ·have hd : x.doo = 13 := by (simp at h109; omega)
  refine jN 1 ?_
  refine WC.chunks (fun w hS => hS.rowNil 2 1) ?_
  refine WC.drawsL (by kernel_rfl) (FactsOk.cons (ds := [2,7,10]) (LoadOk.one (t := 2) (off := 10) rfl jM rfl) (FactsOk.cons (ds := [7,10]) (LoadOk.one (t := 2) (off := 1) rfl jM rfl) (FactsOk.cons (ds := [7,10]) (LoadOk.one (t := 2) (off := 11) rfl jM rfl) (FactsOk.nil)))) ?_
  refine jT 0 rfl (Yl.fieldAddr0 F.fld92_10 rfl) ?_
  refine jF 1 0 rfl rfl (Yl.load1 F.one90 rfl) ?_
  refine jT 3 rfl (Yl.fieldAddr0 F.fld92_1 rfl) ?_
  refine jF 4 1 rfl rfl (Yl.load1 F.one5 rfl) ?_
  refine jT 5 rfl (Yl.fieldAddr0 F.fld92_11 rfl) ?_
  refine jF 6 2 rfl rfl (Yl.load1 F.one2 rfl) ?_
  refine jA 2 rfl ?_
  refine WL.appendC (n := 0) (v := .slice none 0 0) (xs := []) (news := x.l.map (Value.int .i64)) F.el90 rfl rfl rfl jR (fun w hS hm => (RdC.nextO hrl hS).news hm) (by simp) (ints_one _) (Nat.le_trans (m := 1099511627776) (by omega) (by decide)) (by omega) (fun ad ac => ?_)
  rw [Nat.zero_add,List.nil_append]
  refine WD.on (closed_of (by decide +kernel)) (fun w hS => Sx.gone rfl (Sx.keep (hS.cell jM rfl) (Sx.keep (hS.cell jM rfl) (Sx.none)))) ?_
  refine jA 7 rfl ?_
  refine jC (β := DRes (fun cf => costsB x.l && (decide (1 ≤ x.rel ∧ x.rel ≤ 3) && relB x.rel (tailN x.l cf 24) x.bound))) (res := fun z => .tuple #[z.v,.int .i64 (if linB x.l x.rel then 0 else 2)]) (cs := fun z => [z.ch]) F.fun112 rfl (fun w hS _ => Linear_c x.l x.rel x.bound (by omega) hw.bound ad ac w (RdC.of_row rfl (hS.ok (rowc (.slice ad x.l.length ac) x.l.length 2 1 (x.l.map (Value.int .i64))) jM))) (fun z => ?_)
  refine jG ?_
  refine jT 8 rfl (Yl.extract rfl rfl) ?_
  refine jT 9 rfl (Yl.extract rfl rfl) ?_
  refine jA 10 rfl ?_
  refine WL.storeN F.agg35 rfl rfl rfl jO jU jS ?_
  refine jG ?_
  refine jT 11 rfl (Yl.assign rfl) ?_
  refine jD ?_
  refine jN 4 ?_
  refine WQ.ret (rs := [.cell 4 35,.tmp 5]) rfl (.cellN F.agg35 rfl jM rfl (.tmp rfl .nil)) (fun w hS => ?_)
  refine (OneP.of z _ (jK hS)).weak fun cf => ?_
  simp only [opD,hd,linD]
  rfl
 have hn13 : ¬ x.doo = 13 := by (simp at h109; omega)
 refine jN 8 ?_
 refine WC.cond rfl (fun h121 => ?_) (fun h121 => ?_)
 ·have hd : x.doo = 14 := by (simp at h121; omega)
  refine jN 5 ?_
  refine jC (β := DRes (fun cf => s.all (fun x => x.1.ev cf))) (res := fun z => z.v) (cs := fun z => [z.ch]) F.fun101 rfl (fun w hS _ => AndAll_c s (some ⟨bs,os,none⟩) c (by omega) w (hr.next hS)) (fun z => ?_)
  refine jN 9 ?_
  refine WQ.ret (rs := [.cell 4 35,.tmp 5]) rfl (.cellN F.agg35 rfl jM rfl (.tmp rfl .nil)) (fun w hS => ?_)
  refine (OneP.of z _ (jK hS)).weak fun cf => ?_
  simp only [opD,hd]
  simp [Function.comp_def]
 have hn14 : ¬ x.doo = 14 := by (simp at h121; omega)
 refine jN 8 ?_
 refine WC.cond rfl (fun h125 => ?_) (fun h125 => ?_)
 ·have hd : x.doo = 15 := by (simp at h125; omega)
  refine jN 5 ?_
  refine jC (β := DRes (fun cf => s.any (fun x => x.1.ev cf))) (res := fun z => z.v) (cs := fun z => [z.ch]) F.fun102 rfl (fun w hS _ => OrAll_c s (some ⟨bs,os,none⟩) c (by omega) w (hr.next hS)) (fun z => ?_)
  refine jN 9 ?_
  refine WQ.ret (rs := [.cell 4 35,.tmp 5]) rfl (.cellN F.agg35 rfl jM rfl (.tmp rfl .nil)) (fun w hS => ?_)
  refine (OneP.of z _ (jK hS)).weak fun cf => ?_
  simp only [opD,hd]
  simp [Function.comp_def]
 have hn15 : ¬ x.doo = 15 := by (simp at h125; omega)
 refine jN 6 ?_
 refine jC (β := DRes (fun _ => false)) (res := fun z => z.v) (cs := fun z => [z.ch]) F.fun103 rfl (fun w hS _ => False_c w) (fun z => ?_)
 refine jN 7 ?_
 refine WQ.ret (rs := [.cell 4 35,.tmp 5]) rfl (.cellN F.agg35 rfl jM rfl (.tmp rfl .nil)) (fun w hS => ?_)
 exact (OneP.of z 0 (jK hS)).weak fun cf => by simp only [opD,hn1,hn2,hn3,hn4,hn5,hn6,hn7,hn8,hn9,hn10,hn11,hn12,hn13,hn14,hn15]; simp
theorem St.dsZero {w0 w : World} {O : List Nat} {C : List Chunk} (h : St w0 O C w) : St w0 O (dsC [] [(.lf false,none,0)] :: C) w :=
 (St.dsNil h).swap (fun _ x hx => by
  rw [List.mem_singleton.1 hx]
  exact ⟨trivial,fun j u hu => by cases hu⟩) (fun k hk => hk)
structure MkG where
 i : Nat
 ds : List DV
 sa : Option Addr
 sc : Nat
 F : List Nat
abbrev evs' (ds : List DV) : List (Cf → Bool) := ds.map (fun y => y.1.ev)
theorem mk_step {l : List OpV} {i : Nat} {x : OpV} (hx : l[i]? = some x) {ds : List DV} (h : evs' ds = mkD (l.take i)) {y : DV} (hy : ∀ cf,y.1.ev cf = opD x (evs' ds) cf) : evs' (ds ++ [y]) = mkD (l.take (i + 1)) := by
 rw [mkD_take hx,← h]
 unfold evs'
 rw [List.map_append]
 congr 1
 show [y.1.ev] = _
 congr 1
 funext cf
 exact hy cf
theorem snoc_len {α : Type} (l : List α) (x : α) : (l ++ [x]).length = l.length + 1 := by simp
abbrev MkZ (l : List OpV) : Type := { z : List DV × List Nat × Option Addr × Nat // evs' z.1 = mkD l ∧ z.1.length = l.length + 1 }
set_option maxRecDepth 100000 in
theorem Make_c (l : List OpV) (a : Option Addr) (c : Nat) (hwf : ∀ x ∈ l,x.wf) (hl12 : l.length ≤ 12) (f : Nat) (hin : ∀ x ∈ l,OpIn x f ∧ x.l.length ≤ 40) (w : World) (hr : RdOps w l a) :
  Calls Tryz.prog 29 [.slice a l.length c].toArray w fun e w' => ∃ z : MkZ l,e = .returned (.slice z.1.2.2.1 z.1.1.length z.1.2.2.2) ∧ St w [] [rowc (.slice z.1.2.2.1 z.1.1.length z.1.2.2.2) z.1.1.length 35 2 (dcs z.1.1),dsC z.1.2.1 z.1.1] w' := by
 refine enter Tryz.func29 rfl Tryz.ntmps29 rfl (St.init _) ?_
 refine jN 11 ?_
 refine WL.buildSlice F.sl48 F.ez48 rfl rfl rfl rfl jB rfl (fun b8 => ?_)
 refine jN 12 ?_
 refine WC.chunks (C' := [rowc (.slice (⟨0,[(.lf false,none,0)],some ⟨b8,0,none⟩,1,[]⟩ : MkG).sa (⟨0,[(.lf false,none,0)],some ⟨b8,0,none⟩,1,[]⟩ : MkG).ds.length (⟨0,[(.lf false,none,0)],some ⟨b8,0,none⟩,1,[]⟩ : MkG).sc) (⟨0,[(.lf false,none,0)],some ⟨b8,0,none⟩,1,[]⟩ : MkG).ds.length 35 2 (dcs (⟨0,[(.lf false,none,0)],some ⟨b8,0,none⟩,1,[]⟩ : MkG).ds),dsC (⟨0,[(.lf false,none,0)],some ⟨b8,0,none⟩,1,[]⟩ : MkG).F (⟨0,[(.lf false,none,0)],some ⟨b8,0,none⟩,1,[]⟩ : MkG).ds]) (fun w hS => ?_) ?_
 ·have hS1 := St.dsZero (St.rowOf (n := 1) (sz := 2) ((St.pick hS (c := pt b8 [.slice none 0 0,.int .i64 0] 35) jR)) rfl (by decide))
  exact (jK hS1)
 refine WC.loop (α := MkG) (fun g => g.i ≤ l.length ∧ g.ds.length = g.i + 1 ∧ evs' g.ds = mkD (l.take g.i)) (fun g => [(0,.slice a l.length c),(3,.slice g.sa g.ds.length g.sc),(4,.int .i64 (g.i : Int))]) (fun g => [rowc (.slice g.sa g.ds.length g.sc) g.ds.length 35 2 (dcs g.ds),dsC g.F g.ds]) (fun g => l.length - g.i) (⟨0,[(.lf false,none,0)],some ⟨b8,0,none⟩,1,[]⟩) ?_ ?_ ?_ ?_
 ·exact ⟨Nat.zero_le _,rfl,rfl⟩
 ·exact ⟨rfl,rfl,rfl,trivial⟩
 ·rfl
 rintro ⟨i,ds,sa,sc,F9⟩ ⟨hi,hdl,hev⟩
 dsimp only at hi hdl hev
 show WC _ _ _ _ _ _ _ [(0,.slice a l.length c),(3,.slice sa ds.length sc),(4,.int .i64 (i : Int))] [rowc (.slice sa ds.length sc) ds.length 35 2 (dcs ds),dsC F9 ds]
 refine jN 13 ?_
 refine WC.cond rfl (fun h12 => ?_) (fun h12 => ?_)
 ·have hlt : i < l.length := by simpa using h12
  obtain ⟨x,hx⟩ : ∃ x,l[i]? = some x := ⟨_,List.getElem?_eq_getElem hlt⟩
  obtain ⟨⟨b,off,ha,hcell⟩,hrc⟩ := hr i x hx
  subst ha
  have hw := hwf x (List.mem_of_getElem? hx)
  obtain ⟨_,hl40⟩ := hin x (List.mem_of_getElem? hx)
  refine jN 11 ?_
  refine WL.indexAddr F.sl46 rfl rfl rfl hlt ?_
  refine jN 1 ?_
  refine WL.loadN F.agg92 rfl rfl (vs := x.cells) rfl (fun w hS j u hu => hS.oldc (hcell j u hu) (by simp)) ?_
  refine jN 3 ?_
  refine jC (β := OneX ds (opD x (evs' ds))) (res := fun y => .tuple #[dval y.1.1.x.1 y.1.1.x.2.1 y.1.1.x.2.2,.int .i64 y.1.2]) (cs := fun y => [dsC y.1.1.F y.1.1.Bs]) F.fun51 rfl (fun w hS _ => (opOne_c x hw hl40 ds sa sc (by omega) (by omega) w (RdDL.of_row rfl (hS.ok (rowc (.slice sa ds.length sc) ds.length 35 2 (dcs ds)) jM) (hS.ok (dsC F9 ds) jM)) (RdC.nextO hrc hS)).mono (fun e w2 ⟨y,k,h1,h2,h3,h4,h5⟩ => ⟨⟨(y,k),h1,h2,h3⟩,h4,h5⟩)) (fun ⟨⟨y,k⟩,hy1,hy2,hy3⟩ => ?_)
  refine jN 7 ?_
  refine WL.alloc F.zero35 rfl (fun b5 => ?_)
  refine jN 12 ?_
  refine WL.buildSlice F.sl48 F.ez48 rfl rfl rfl rfl jB rfl (fun b26 => ?_)
  refine jN 1 ?_
  refine WL.appendE (news := dvl y.x) F.el48 rfl rfl rfl jR (fun w hS jj u hu => by rw [Nat.zero_add]; exact hS.cell (cs := dvl y.x) jM hu) rfl (by simp [dvl,Value.oneCell']) (Nat.le_trans (m := 1000) (by omega) (by decide)) (by omega) (fun a2 c2 => ?_)
  refine jN 13 ?_
  have e9 := snoc_len ds y.x
  refine WQ.chunks (C' := [rowc (.slice a2 (ds ++ [y.x]).length c2) (ds ++ [y.x]).length 35 2 (dcs (ds ++ [y.x])),dsC (F9 ++ y.F) (ds ++ [y.x])]) (fun w hS => ?_) ?_
  ·have hS1 := St.dsSub (m := ds ++ [y.x]) (St.dsJoin (St.pick (St.pick hS (c := dsC y.F y.Bs) jR) (c := dsC F9 ds) jR)) (fun z hz => (List.mem_append.1 hz).elim (fun h => List.mem_append_left _ h) (fun h => by rw [List.mem_singleton.1 h]; exact hy1.elim (fun h => List.mem_append_left _ h) (fun h => List.mem_append_right _ h)))
   have e8 : rowc (.slice a2 (ds ++ [y.x]).length c2) (ds ++ [y.x]).length 35 2 (dcs (ds ++ [y.x])) = rowc (.slice a2 (ds.length + 1) c2) (ds.length + 1) 35 2 (dcs ds ++ dvl y.x) := by rw [e9,dcs_append]; simp [dcs]
   rw [e8]
   exact (jK hS1)
  refine WQ.say 3 (.slice a2 (ds ++ [y.x]).length c2) (by rw [e9]; rfl) ?_
  refine WQ.back (⟨i + 1,ds ++ [y.x],a2,c2,F9 ++ y.F⟩) ?_ ?_ ?_ ?_
  ·exact ⟨by (show i + 1 ≤ l.length; omega),by (show (ds ++ [y.x]).length = i + 1 + 1; omega),mk_step hx hev hy3⟩
  ·(show l.length - (i + 1) < l.length - i; omega)
  ·exact ⟨rfl,rfl,rfl,trivial⟩
  rfl
 have hie : i = l.length := by simp at h12; omega
 subst hie
 rw [List.take_length] at hev
 refine jN 14 ?_
 exact WQ.ret (rs := [.tmp 2]) rfl (.tmp rfl .nil) (fun w hS => ⟨⟨(ds,F9,sa,sc),hev,hdl⟩,rfl,(jK hS)⟩)
end Go.Proofs.YtkgllhkhdjodeaaGreat
namespace Dg
def litC (cf : Cf) (x : Int) : Bool := if 0 < x then cf (x - 1).toNat else !cf (-x - 1).toNat
def clauseB (c : List Int) (cf : Cf) : Bool := c.any (litC cf)
def onStep (p : Nat × Nat) (x : Int) : Nat × Nat := if 0 < x then (p.1,p.2 ||| 2 ^ (x - 1).toNat) else (p.1 ||| 2 ^ (-x - 1).toNat,p.2)
def onOff (c : List Int) : Nat × Nat := c.foldl onStep (0,0)
theorem or_pow_testBit (a k j : Nat) : (a ||| 2 ^ k).testBit j = (a.testBit j || decide (j = k)) := by
 rw [Nat.testBit_or,Nat.testBit_two_pow]
 congr 1
 rw [Bool.eq_iff_iff]; simp; omega
theorem cubeB_on {on off k : Nat} (hk : k < 24) (cf : Cf) : cubeB (on ||| 2 ^ k) off 0 cf = (cubeB on off 0 cf && cf k) := by
 unfold cubeB
 rw [Bool.eq_iff_iff]
 simp only [List.all_eq_true,Bool.and_eq_true,List.mem_range,or_pow_testBit]
 constructor
 ·intro h
  refine ⟨fun j hj => ?_,?_⟩
  ·have := h j hj
   revert this
   cases on.testBit j <;> cases cf j <;> cases off.testBit j <;> simp
  have := h k hk
  revert this
  cases on.testBit k <;> cases cf k <;> simp
 rintro ⟨h,hc⟩ j hj
 have := h j hj
 by_cases e : j = k
 ·subst e
  revert this
  rw [hc]
  simp
 simpa [e] using this
theorem cubeB_off {on off k : Nat} (hk : k < 24) (cf : Cf) : cubeB on (off ||| 2 ^ k) 0 cf = (cubeB on off 0 cf && !cf k) := by
 unfold cubeB
 rw [Bool.eq_iff_iff]
 simp only [List.all_eq_true,Bool.and_eq_true,List.mem_range,or_pow_testBit]
 constructor
 ·intro h
  refine ⟨fun j hj => ?_,?_⟩
  ·have := h j hj
   revert this
   cases on.testBit j <;> cases cf j <;> cases off.testBit j <;> simp
  have := h k hk
  revert this
  cases off.testBit k <;> cases cf k <;> simp
 rintro ⟨h,hc⟩ j hj
 have := h j hj
 by_cases e : j = k
 ·subst e
  revert this
  simp only [Bool.not_eq_true'] at hc
  rw [hc]
  simp
 simpa [e] using this
theorem cubeB_fold (cf : Cf) : ∀ (c : List Int) (p : Nat × Nat),(∀ x ∈ c,x ≠ 0 ∧ -24 ≤ x ∧ x ≤ 24) → cubeB (c.foldl onStep p).1 (c.foldl onStep p).2 0 cf = (cubeB p.1 p.2 0 cf && c.all (fun x => !litC cf x))
 | [],p,_ => by simp
 | x :: c,p,h => by
  have hx := h x (List.mem_cons_self ..)
  rw [List.foldl_cons,cubeB_fold cf c _ (fun y hy => h y (List.mem_cons_of_mem _ hy)),List.all_cons]
  unfold onStep litC
  by_cases h0 : 0 < x
  ·simp only [if_pos h0]
   rw [cubeB_off (by omega)]
   simp [Bool.and_assoc]
  ·simp only [if_neg h0]
   rw [cubeB_on (by omega)]
   simp [Bool.and_assoc]
theorem clause_cube {c : List Int} (h : ∀ x ∈ c,x ≠ 0 ∧ -24 ≤ x ∧ x ≤ 24) (cf : Cf) : (!cubeB (onOff c).1 (onOff c).2 0 cf) = clauseB c cf := by
 unfold onOff clauseB
 rw [cubeB_fold cf c (0,0) h]
 have e : cubeB 0 0 0 cf = true := by
  unfold cubeB
  rw [List.all_eq_true]
  intro j _
  simp
 rw [e,Bool.true_and,Bool.eq_iff_iff]
 simp only [Bool.not_eq_true',List.all_eq_false,List.any_eq_true]
 simp
theorem onStep_lt {p : Nat × Nat} {x : Int} (hp : p.1 < 2 ^ 24 ∧ p.2 < 2 ^ 24) (hx : x ≠ 0 ∧ -24 ≤ x ∧ x ≤ 24) : (onStep p x).1 < 2 ^ 24 ∧ (onStep p x).2 < 2 ^ 24 := by
 have key : ∀ k : Nat,k < 24 → (2 : Nat) ^ k < 2 ^ 24 := fun k hk => Nat.pow_lt_pow_right (by decide) hk
 unfold onStep
 by_cases h0 : 0 < x
 ·rw [if_pos h0]; exact ⟨hp.1,Nat.or_lt_two_pow hp.2 (key _ (by omega))⟩
 rw [if_neg h0]; exact ⟨Nat.or_lt_two_pow hp.1 (key _ (by omega)),hp.2⟩
theorem onOff_lt : ∀ {c : List Int} {p : Nat × Nat},(∀ x ∈ c,x ≠ 0 ∧ -24 ≤ x ∧ x ≤ 24) → p.1 < 2 ^ 24 ∧ p.2 < 2 ^ 24 → (c.foldl onStep p).1 < 2 ^ 24 ∧ (c.foldl onStep p).2 < 2 ^ 24
 | [],p,_,hp => hp
 | x :: c,p,h,hp => onOff_lt (c := c) (fun y hy => h y (List.mem_cons_of_mem _ hy)) (onStep_lt hp (h x (List.mem_cons_self ..)))
theorem onOff_take {c : List Int} {i : Nat} {x : Int} (h : c[i]? = some x) : onOff (c.take (i + 1)) = onStep (onOff (c.take i)) x := by
 unfold onOff
 rw [List.take_add_one,h]
 simp
end Dg
namespace Go.Proofs.YtkgllhkhdjodeaaGreat
open Go Go.Eng Go.Proofs Dg
theorem holds_cf (ls : List (List Int)) (M : Nat) : holdsB ls M = ls.all (fun k => clauseB k (cfg M)) := rfl
theorem solve_gen {n k : Nat} {ls : List (List Int)} (hn : n ≤ k) (hk : k ≤ 24) (f : Nat) (hf : tS k + 1 ≤ f) (hls : ∀ c ∈ ls,∀ x ∈ c,x ≠ 0 ∧ x.natAbs ≤ n) : ∃ r,Fm.solveF n f false ls [] [] = some r ∧ GoodS n ls r := by
 have h := solve_ok (by omega) hls f false [] [] ⟨fun x hx => by simp at hx,.nil,fun i x hi => by simp at hi,fun i x hi => by simp at hi,fun i c hi => by simp at hi,fun c hc => by simp at hc,fun M hM => by rw [List.append_nil]; exact hM⟩ (fun h => by cases h) (by
  have := tS_mono hn
  simp [muS,remS]
  omega)
 simpa using h
section
variable {w0 : World} {O : List Nat} {C : List Chunk}
end
open Go Go.Eng Go.Proofs Dg
theorem FpIs.steps {F : List Nat} {vs : List Value} {ss : List (List Int)} : FpIs (stepsC F vs ss) F := fun k => Iff.rfl
abbrev ints (c : List Int) : List Value := c.map (Value.int .i64)
structure TGr where
 oa : Option Addr
 oc : Nat
 vs : List Value
 Fs : List Nat
 pa : Option Addr
 pc : Nat
abbrev thCs (bo bp : Nat) (out : List (List Int)) (path : List Int) (x : TGr) : List Chunk :=
 [pt bo [.slice x.oa out.length x.oc] 52,rowc (.slice x.oa out.length x.oc) out.length 41 1 x.vs,stepsC x.Fs x.vs out,pt bp [.slice x.pa path.length x.pc] 41,rowc (.slice x.pa path.length x.pc) path.length 3 1 (ints path)]
def thr (F : List Nat) (bo bp : Nat) (out : List (List Int)) (path : List Int) : Chunk := bun F (thCs bo bp out path) (fun _ => True)
theorem St.thrClose {w0 w : World} {O : List Nat} {C : List Chunk} {bo bp n m oc pc : Nat} {out : List (List Int)} {path : List Int} {oa pa : Option Addr} {vs xs : List Value} {Fs : List Nat} (hn : n = out.length) (hm : m = path.length) (hx : xs = ints path)
  (h : St w0 O (pt bo [.slice oa n oc] 52 :: rowc (.slice oa n oc) n 41 1 vs :: stepsC Fs vs out :: pt bp [.slice pa m pc] 41 :: rowc (.slice pa m pc) m 3 1 xs :: C) w) : ∃ F,St w0 O (thr F bo bp out path :: C) w := by
 subst hn; subst hm; subst hx
 exact ⟨_,St.bunClose' (Cs := thCs bo bp out path) ⟨oa,oc,vs,Fs,pa,pc⟩ trivial (.cons FpIs.pt (.cons FpIs.rowc (.cons FpIs.steps (.cons FpIs.pt (.cons FpIs.rowc .nil))))) h⟩
abbrev thF (bo bp bn bt : Nat) : Value := .func (.func 56) [].toArray [pp bo,pp bp,pp bn,pp bt].toArray
structure TEnv (w : World) (F : List Nat) (bo bp bn bt : Nat) (l : List Dec) (a : Option Addr) (c : Nat) : Prop where
 no : w.cell? ⟨bn,0,none⟩ = some (.slice a l.length c)
 no' : bn ∉ F
 th : w.cell? ⟨bt,0,none⟩ = some (thF bo bp bn bt)
 th' : bt ∉ F
 rd : RdDecO w l a F
theorem TEnv.next {w0 w : World} {F F' : List Nat} {C1 : List Chunk} {bo bp bn bt c : Nat} {l : List Dec} {a : Option Addr} {out : List (List Int)} {path : List Int} (h : TEnv w0 F bo bp bn bt l a c) (hS : St w0 F ([thr F' bo bp out path] ++ C1) w) : TEnv w F' bo bp bn bt l a c := by
 have hap := fun {z : Nat} (h1 : z < w0.heap.size) (h2 : z ∉ F) => hS.apart (F := F') bun_O2 h1 h2
 refine ⟨hS.oldc h.no h.no',hap (World.block_lt_of_cell? w0 _ h.no) h.no',hS.oldc h.th h.th',hap (World.block_lt_of_cell? w0 _ h.th) h.th',fun j u hu => ?_⟩
 obtain ⟨b,off,e1,e2,e3⟩ := h.rd j u hu
 exact ⟨b,off,e1,hS.oldc e2 e3,hap (World.block_lt_of_cell? w0 _ e2) e3⟩
theorem CloneI_c (k : List Int) (a : Option Addr) (cap : Nat) (hlen : k.length ≤ 1099511627776) (w : World) (hr : RdC w k a) :
  Calls Tryz.prog 57 [.slice a k.length cap].toArray w fun e w' => ∃ x : Option Addr × Nat,e = .returned (.slice x.1 k.length x.2) ∧ St w [] [rowc (.slice x.1 k.length x.2) k.length 3 1 (ints k)] w' := by
 refine enter Tryz.func57 rfl Tryz.ntmps57 rfl (St.init _) ?_
 refine jN 8 ?_
 rcases a with _ | ⟨b,off,st⟩
 ·have hc0 : k = [] := by
   cases k with
   | nil => rfl
   | cons y ys =>
    obtain ⟨_,_,h1,_⟩ := hr 0 y rfl
    cases h1
  subst hc0
  refine jN 4 ?_
  refine WL.bin rfl rfl rfl (v := .bool true) (fun w => by kernel_rfl) ?_
  refine jN 11 ?_
  exact WQ.ret (rs := [.tmp 2]) rfl (.tmp rfl .nil) (fun w hS => ⟨(none,0),rfl,hS.rowNil 3 1⟩)
 refine jN 4 ?_
 refine WL.bin rfl rfl rfl (v := .bool false) (fun w => by kernel_rfl) ?_
 refine jN 8 ?_
 refine WL.buildSlice0 F.sl41 rfl (fun b5 => ?_)
 refine WA.chunks (fun w hS => hS.rowOf (n := 0) (sz := 1) rfl (by decide)) ?_
 refine jN 3 ?_
 refine WL.appendC (n := 0) (xs := []) (news := ints k) F.el41 rfl rfl rfl jR (fun w hS hm => (by obtain ⟨bx,ox,e1,e2⟩ := hr.news (by omega); exact ⟨bx,ox,e1,fun j u hu => hS.oldc (e2 j u hu) (by simp)⟩)) (by simp [ints]) (ints_one k) (Nat.le_trans (m := 1099511627776) (by omega) (by decide)) (by omega) (fun a2 c2 => ?_)
 refine jN 5 ?_
 refine WQ.ret (rs := [.tmp 2]) rfl (.tmp rfl .nil) (fun w hS => ⟨(a2,c2),?_,?_⟩)
 ·simp [tup]
 simpa using hS
set_option maxRecDepth 100000 in
theorem through_c (bo bp bn bt : Nat) (l : List Dec) (a : Option Addr) (c : Nat) (hl : Mk l) (hll : l.length ≤ 16777216) : ∀ (n r : Nat),r < n → ∀ (Fp : List Nat) (out : List (List Int)) (path : List Int) (w : World) (m : Nat),r < l.length + 2 → (trs l r).ok m → path.length ≤ m → m ≤ 24 → out.length + pathsN (trs l r) ≤ 4096 → TEnv w Fp bo bp bn bt l a c → St w Fp [thr Fp bo bp out path] w →
  Calls Tryz.prog 56 [.int .i64 (r : Int),pp bo,pp bp,pp bn,pp bt].toArray w fun e w' => ∃ x : List Nat,e = .returned (.tuple #[]) ∧ St w Fp [thr x bo bp (out ++ pathsT (trs l r) path) path] w' := by
 intro n
 induction n with
 | zero => intro r hr; omega
 | succ n hrec =>
 intro r hrn Fp out path w m hr hok hpm hm24 hb hE hS0
 obtain ⟨⟨oa,oc,vs,Fs,pa,pc⟩,_,h1,h2,hS0⟩ := hS0.bunOpen
 simp only [thCs,List.cons_append,List.nil_append] at hS0
 refine enter Tryz.func56 rfl Tryz.ntmps56 rfl (C := [pt bo [.slice oa out.length oc] 52,rowc (.slice oa out.length oc) out.length 41 1 vs,stepsC Fs vs out,pt bp [.slice pa path.length pc] 41,rowc (.slice pa path.length pc) path.length 3 1 (ints path)]) hS0 ?_
 refine jN 9 ?_
 refine WC.cond rfl (fun h8 => ?_) (fun h8 => ?_)
 ·have hr0 : r = 0 := by simp at h8; omega
  subst hr0
  refine WC.drawsL (by kernel_rfl) (FactsOk.cons (ds := [4,5]) (LoadOk.one (t := 1) (off := 0) rfl jM rfl) (FactsOk.cons (ds := [2,3,4,5]) (LoadOk.one (t := 2) (off := 0) rfl jM rfl) (FactsOk.nil))) ?_
  refine jF 0 0 rfl rfl (Yl.load1 F.one52 rfl) ?_
  refine jF 1 1 rfl rfl (Yl.load1 F.one41 rfl) ?_
  refine jA 2 rfl ?_
  refine jC (β := Option Addr × Nat) (res := fun y => .slice y.1 path.length y.2) (cs := fun y => [rowc (.slice y.1 path.length y.2) path.length 3 1 (ints path)]) F.fun57 rfl (fun w hS _ => CloneI_c path pa pc (by omega) w (RdC.of_row rfl (hS.ok (rowc (.slice pa path.length pc) path.length 3 1 (ints path)) jM))) (fun ⟨ca,cc⟩ => ?_)
  refine WD.on (closed_of (by kernel_rfl)) (fun w hS => Sx.keep (hS.cell jM rfl) (Sx.gone rfl (Sx.none))) ?_
  refine jA 3 rfl ?_
  refine WL.buildSlice F.sl52 F.ez52 rfl rfl rfl rfl jB rfl (fun b12 => ?_)
  refine WD.on (closed_of (by kernel_rfl)) (fun w hS => Sx.keep (hS.cell jM rfl) (Sx.gone rfl (Sx.none))) ?_
  refine jA 4 rfl ?_
  refine WL.appendE (news := [.slice ca path.length cc]) F.el52 rfl rfl rfl jR (fun w hS jj u hu => by rw [Nat.zero_add]; exact hS.cell (cs := [.slice ca path.length cc]) jM hu) rfl jO (Nat.le_trans (m := 4097) (by omega) (by decide)) (by omega) (fun oa2 oc2 => ?_)
  refine jG ?_
  refine jA 5 rfl ?_
  refine WL.store1 F.one52 rfl rfl rfl jU jS ?_
  refine jG ?_
  refine jD ?_
  refine jN 13 ?_
  refine WQ.ret (rs := []) rfl .nil (fun w hS => ?_)
  obtain ⟨F8,hF8⟩ := St.stepsSnocR (vs := vs) (ss := out) (a := ca) (cap := cc) (c := path) rfl ((St.pick (St.pick hS (c := rowc (.slice ca path.length cc) path.length 3 1 (ints path)) jR) (c := stepsC Fs vs out) jR))
  obtain ⟨F9,hF9⟩ := St.thrClose (bo := bo) (bp := bp) (out := out ++ [path]) (path := path) (oa := oa2) (oc := oc2) (pa := pa) (pc := pc) (n := out.length + 1) (m := path.length) (vs := vs ++ [.slice ca path.length cc]) (Fs := F8) (xs := ints path) (by simp) rfl rfl (((St.pick (St.pick (St.pick (St.pick (St.pick hF8 (c := rowc (.slice pa path.length pc) path.length 3 1 (ints path)) (by repeat (first | exact Rem.here | apply Rem.there))) (c := pt bp [.slice pa path.length pc] 41) (by repeat (first | exact Rem.here | apply Rem.there))) (c := stepsC F8 (vs ++ [.slice ca path.length cc]) (out ++ [path])) (by repeat (first | exact Rem.here | apply Rem.there))) (c := rowc (.slice oa2 (out.length + 1) oc2) (out.length + 1) 41 1 (vs ++ [.slice ca path.length cc])) (by repeat (first | exact Rem.here | apply Rem.there))) (c := pt bo [.slice oa2 (out.length + 1) oc2] 52) (by repeat (first | exact Rem.here | apply Rem.there)))).sublist (List.Sublist.cons_cons _ (List.Sublist.cons_cons _ (List.Sublist.cons_cons _ (List.Sublist.cons_cons _ (List.Sublist.cons_cons _ (List.nil_sublist _)))))))
  refine ⟨F9,rfl,?_⟩
  rw [(trs_zero l).1]
  exact hF9
 have hr0 : r ≠ 0 := by simp at h8; omega
 refine jN 11 ?_
 refine WC.cond rfl (fun h15 => ?_) (fun h15 => ?_)
 ·have hr1 : r = 1 := by simp at h15; omega
  subst hr1
  refine jN 2 ?_
  refine WQ.ret (rs := []) rfl .nil (fun w hS => ⟨Fp,rfl,?_⟩)
  rw [(trs_zero l).2]
  have e8 : out ++ pathsT (.lf true) path = out := by (simp [pathsT])
  rw [e8]
  exact hS.bunClose (Cs := thCs bo bp out path) ⟨oa,oc,vs,Fs,pa,pc⟩ trivial h1 h2
 have hr2 : 2 ≤ r := by simp at h15; omega
 obtain ⟨x,hx⟩ : ∃ x,l[r - 2]? = some x := ⟨_,List.getElem?_eq_getElem (by omega)⟩
 have hkd := hl.kid _ _ hx
 have htr : trs l r = .nd x.1 (trs l x.2.1) (trs l x.2.2) := by (have := hl.at hx; rwa [show r - 2 + 2 = r by omega] at this)
 rw [htr] at hok hb
 simp only [pathsN] at hb
 have hmx := hok.1
 obtain ⟨bl,off,rfl,hbl,hcx⟩ := hE.rd.at hx
 have hri : ((r - 2 : Nat) : Int) = (r : Int) - 2 := by omega
 refine jN 5 ?_
 refine WL.load1 F.one33 rfl rfl (v := .slice (some ⟨bl,off,none⟩) l.length c) (fun w hS => hS.oldc hE.no hE.no') ?_
 refine jN 4 ?_
 refine WA.say 18 (.int .i64 ((r - 2 : Nat) : Int)) (by rw [hri]; rfl) ?_
 refine jN 1 ?_
 refine WL.indexAddr F.sl33 rfl rfl rfl (List.getElem?_eq_some_iff.1 hx).1 ?_
 refine jN 1 ?_
 refine WL.loadN F.agg104 rfl rfl (vs := [Value.int .i64 (x.1 : Int),.int .i64 (x.2.1 : Int),.int .i64 (x.2.2 : Int)]) rfl (fun w hS j v hv => hS.oldc (hcx j v hv) hbl) ?_
 refine jN 1 ?_
 refine WL.alloc F.zero104 rfl (fun b6 => ?_)
 refine jN 15 ?_
 refine WL.buildSlice F.sl41 F.ez41 rfl rfl rfl rfl jB rfl (fun b25 => ?_)
 refine jN 1 ?_
 refine WL.appendE (news := [.int .i64 ((x.1 : Int) + 1)]) F.el41 rfl rfl rfl jR (fun w hS jj u hu => by rw [Nat.zero_add]; exact hS.cell (cs := [.int .i64 ((x.1 : Int) + 1)]) jM hu) rfl jO (Nat.le_trans (m := 4097) (by omega) (by decide)) (by omega) (fun pa2 pc2 => ?_)
 refine jN 7 ?_
 refine WL.load1 F.one101 rfl rfl (v := thF bo bp bn bt) (fun w hS => hS.oldc hE.th hE.th') ?_
 refine jN 4 ?_
 refine WA.chunksE (C' := fun F1 => [thr F1 bo bp out (path ++ [((x.1 : Int) + 1)]),pt b6 [Value.int .i64 (x.1 : Int),.int .i64 (x.2.1 : Int),.int .i64 (x.2.2 : Int)] 104]) (fun w hS => ?_) (fun F1 => ?_)
 ·exact St.thrClose (bo := bo) (bp := bp) (out := out) (path := (path ++ [((x.1 : Int) + 1)])) (oa := oa) (oc := oc) (pa := pa2) (pc := pc2) (n := out.length) (m := path.length + 1) (vs := vs) (Fs := Fs) (xs := ints path ++ [.int .i64 ((x.1 : Int) + 1)]) rfl (by simp) (by simp [ints]) (jK hS)
 refine jN 1 ?_
 refine WL.callFC (β := List Nat) (us := []) (cap := [pp bo,pp bp,pp bn,pp bt]) (res := fun y => .tuple #[]) (cs := fun y => [thr y bo bp (out ++ pathsT (trs l x.2.1) (path ++ [((x.1 : Int) + 1)])) (path ++ [((x.1 : Int) + 1)])]) (Cs := [thr F1 bo bp out (path ++ [((x.1 : Int) + 1)])]) (C1 := [pt b6 [Value.int .i64 (x.1 : Int),.int .i64 (x.2.1 : Int),.int .i64 (x.2.2 : Int)] 104]) (O' := F1) F.fun56 (fun d h => by cases h; rfl) rfl rfl (List.Perm.refl _) bun_O1 bun_O2 (fun w hS hS2 => hrec x.2.1 (by omega) F1 out (path ++ [((x.1 : Int) + 1)]) w (x.1 + 1) (by omega) hok.2.2.2.1 (by simp; omega) (by omega) (by (try simp only [List.length_append,pathsT_len]); omega) (hE.next hS) hS2) (fun F2 => ?_)
 refine jN 4 ?_
 refine WA.openB (fun y3 _ _ _ => ?_)
 obtain ⟨oa3,oc3,vs3,Fs3,pa3,pc3⟩ := y3
 simp only [thCs,List.cons_append,List.nil_append]
 refine WA.know (φ := ∃ g,pa3 = some ⟨g,0,none⟩ ∧ (path ++ [((x.1 : Int) + 1)]).length = (path ++ [((x.1 : Int) + 1)]).length ∧ (path ++ [((x.1 : Int) + 1)]).length ≤ pc3) (fun w hS => rowc_addr (hS.ok (rowc (.slice pa3 (path ++ [((x.1 : Int) + 1)]).length pc3) (path ++ [((x.1 : Int) + 1)]).length 3 1 (ints (path ++ [((x.1 : Int) + 1)]))) jM) (by simp)) (fun ⟨g3,hg3,_,_⟩ => ?_)
 subst hg3
 have hpl : (path ++ [((x.1 : Int) + 1)]).length = path.length + 1 := by simp
 refine jN 8 ?_
 refine WA.say 34 (.int .i64 (path.length : Int)) (by rw [show ((path.length : Nat) : Int) = ((path ++ [((x.1 : Int) + 1)]).length : Int) - 1 by (rw [hpl]; omega)]; rfl) ?_
 refine jN 7 ?_
 refine WL.negI rfl rfl (by omega) ?_
 refine jN 1 ?_
 refine WL.indexAddr F.sl41 rfl rfl rfl (by rw [hpl]; omega) ?_
 have setp : SetN (ints (path ++ [((x.1 : Int) + 1)])) path.length [.int .i64 (-((x.1 : Int) + 1))] (ints (path ++ [-((x.1 : Int) + 1)])) := by
  have h9 := setN_set (ints (path ++ [((x.1 : Int) + 1)])) path.length (.int .i64 (-((x.1 : Int) + 1))) (by simp [ints])
  have e9 : (ints (path ++ [((x.1 : Int) + 1)])).set path.length (.int .i64 (-((x.1 : Int) + 1))) = ints (path ++ [-((x.1 : Int) + 1)]) := by (simp [ints])
  rwa [e9] at h9
 refine jN 1 ?_
 refine WL.storeRow1 (xs := ints (path ++ [((x.1 : Int) + 1)])) (xs' := ints (path ++ [-((x.1 : Int) + 1)])) F.one3 rfl rfl rfl jU (by rw [Nat.zero_add,Nat.mul_one]; exact setp) ?_
 refine jN 5 ?_
 refine WL.load1 F.one101 rfl rfl (v := thF bo bp bn bt) (fun w hS => hS.oldc hE.th hE.th') ?_
 refine jN 4 ?_
 refine WA.chunksE (C' := fun F4 => [thr F4 bo bp (out ++ pathsT (trs l x.2.1) (path ++ [((x.1 : Int) + 1)])) (path ++ [-((x.1 : Int) + 1)]),pt b6 [Value.int .i64 (x.1 : Int),.int .i64 (x.2.1 : Int),.int .i64 (x.2.2 : Int)] 104]) (fun w hS => ?_) (fun F4 => ?_)
 ·exact St.thrClose (bo := bo) (bp := bp) (out := (out ++ pathsT (trs l x.2.1) (path ++ [((x.1 : Int) + 1)]))) (path := (path ++ [-((x.1 : Int) + 1)])) (oa := oa3) (oc := oc3) (pa := some ⟨g3,0,none⟩) (pc := pc3) (n := (out ++ pathsT (trs l x.2.1) (path ++ [((x.1 : Int) + 1)])).length) (m := (path ++ [((x.1 : Int) + 1)]).length) (vs := vs3) (Fs := Fs3) (xs := ints (path ++ [-((x.1 : Int) + 1)])) rfl (by simp) rfl (jK hS)
 refine jN 1 ?_
 refine WL.callFC (β := List Nat) (us := []) (cap := [pp bo,pp bp,pp bn,pp bt]) (res := fun y => .tuple #[]) (cs := fun y => [thr y bo bp ((out ++ pathsT (trs l x.2.1) (path ++ [((x.1 : Int) + 1)])) ++ pathsT (trs l x.2.2) (path ++ [-((x.1 : Int) + 1)])) (path ++ [-((x.1 : Int) + 1)])]) (Cs := [thr F4 bo bp (out ++ pathsT (trs l x.2.1) (path ++ [((x.1 : Int) + 1)])) (path ++ [-((x.1 : Int) + 1)])]) (C1 := [pt b6 [Value.int .i64 (x.1 : Int),.int .i64 (x.2.1 : Int),.int .i64 (x.2.2 : Int)] 104]) (O' := F4) F.fun56 (fun d h => by cases h; rfl) rfl rfl (List.Perm.refl _) bun_O1 bun_O2 (fun w hS hS2 => hrec x.2.2 (by omega) F4 (out ++ pathsT (trs l x.2.1) (path ++ [((x.1 : Int) + 1)])) (path ++ [-((x.1 : Int) + 1)]) w (x.1 + 1) (by omega) hok.2.2.2.2 (by simp; omega) (by omega) (by (try simp only [List.length_append,pathsT_len]); omega) (hE.next hS) hS2) (fun F5 => ?_)
 refine jN 3 ?_
 refine WA.openB (fun y6 _ _ _ => ?_)
 obtain ⟨oa6,oc6,vs6,Fs6,pa6,pc6⟩ := y6
 simp only [thCs,List.cons_append,List.nil_append]
 have hpl2 : (path ++ [-((x.1 : Int) + 1)]).length = path.length + 1 := by simp
 refine jN 8 ?_
 refine WA.say 47 (.int .i64 (path.length : Int)) (by rw [show ((path.length : Nat) : Int) = ((path ++ [-((x.1 : Int) + 1)]).length : Int) - 1 by (rw [hpl2]; omega)]; rfl) ?_
 refine WA.know (φ := path.length ≤ pc6) (fun w hS => (by obtain ⟨_,_,_,hle⟩ := rowc_addr (hS.ok (rowc (.slice pa6 (path ++ [-((x.1 : Int) + 1)]).length pc6) (path ++ [-((x.1 : Int) + 1)]).length 3 1 (ints (path ++ [-((x.1 : Int) + 1)]))) jM) (by rw [hpl2]; omega); omega)) (fun hpc => ?_)
 refine jN 1 ?_
 refine WL.y (F := fun _ => True) (Yl.sliceSlTo (n := path.length) F.sl41 rfl rfl hpc) rfl (fun _ _ => trivial) ?_
 refine jN 3 ?_
 refine WQ.fin (rs := []) rfl .nil (fun w hS => ?_)
 have hS8 := St.rowTake ((St.pick hS (c := rowc (.slice pa6 (path ++ [-((x.1 : Int) + 1)]).length pc6) (path ++ [-((x.1 : Int) + 1)]).length 3 1 (ints (path ++ [-((x.1 : Int) + 1)]))) jR)) (by rw [hpl2]; omega) (k := path.length) (by rw [hpl2]; omega)
 have e9 : (ints (path ++ [-((x.1 : Int) + 1)])).take path.length = ints path := by (simp [ints])
 rw [e9] at hS8
 obtain ⟨F9,hF9⟩ := St.thrClose (bo := bo) (bp := bp) (out := ((out ++ pathsT (trs l x.2.1) (path ++ [((x.1 : Int) + 1)])) ++ pathsT (trs l x.2.2) (path ++ [-((x.1 : Int) + 1)]))) (path := path) (oa := oa6) (oc := oc6) (pa := pa6) (pc := pc6) (n := ((out ++ pathsT (trs l x.2.1) (path ++ [((x.1 : Int) + 1)])) ++ pathsT (trs l x.2.2) (path ++ [-((x.1 : Int) + 1)])).length) (m := path.length) (vs := vs6) (Fs := Fs6) (xs := ints path) rfl rfl rfl (((St.pick (St.pick (St.pick (St.pick (St.pick hS8 (c := rowc (.slice pa6 path.length pc6) path.length 3 1 (ints path)) (by repeat (first | exact Rem.here | apply Rem.there))) (c := pt bp [.slice pa6 path.length pc6] 41) (by repeat (first | exact Rem.here | apply Rem.there))) (c := stepsC Fs6 vs6 ((out ++ pathsT (trs l x.2.1) (path ++ [((x.1 : Int) + 1)])) ++ pathsT (trs l x.2.2) (path ++ [-((x.1 : Int) + 1)]))) (by repeat (first | exact Rem.here | apply Rem.there))) (c := rowc (.slice oa6 ((out ++ pathsT (trs l x.2.1) (path ++ [((x.1 : Int) + 1)])) ++ pathsT (trs l x.2.2) (path ++ [-((x.1 : Int) + 1)])).length oc6) ((out ++ pathsT (trs l x.2.1) (path ++ [((x.1 : Int) + 1)])) ++ pathsT (trs l x.2.2) (path ++ [-((x.1 : Int) + 1)])).length 41 1 vs6) (by repeat (first | exact Rem.here | apply Rem.there))) (c := pt bo [.slice oa6 ((out ++ pathsT (trs l x.2.1) (path ++ [((x.1 : Int) + 1)])) ++ pathsT (trs l x.2.2) (path ++ [-((x.1 : Int) + 1)])).length oc6] 52) (by repeat (first | exact Rem.here | apply Rem.there)))).sublist (List.Sublist.cons_cons _ (List.Sublist.cons_cons _ (List.Sublist.cons_cons _ (List.Sublist.cons_cons _ (List.Sublist.cons_cons _ (List.nil_sublist _)))))))
 refine ⟨F9,rfl,?_⟩
 rw [htr]
 have e8 : out ++ pathsT (.nd x.1 (trs l x.2.1) (trs l x.2.2)) path = ((out ++ pathsT (trs l x.2.1) (path ++ [((x.1 : Int) + 1)])) ++ pathsT (trs l x.2.2) (path ++ [-((x.1 : Int) + 1)])) := by (simp [pathsT])
 rw [e8]
 exact hF9
theorem CloneD_c (l : List Dec) (a : Option Addr) (cap : Nat) (hlen : l.length ≤ 16777216) (w : World) (hr : RdDec w l a) :
  Calls Tryz.prog 122 [.slice a l.length cap].toArray w fun e w' => ∃ x : Option Addr × Nat,e = .returned (.slice x.1 l.length x.2) ∧ St w [] [rowc (.slice x.1 l.length x.2) l.length 104 3 (decs l)] w' := by
 refine enter Tryz.func122 rfl Tryz.ntmps122 rfl (St.init _) ?_
 refine jN 8 ?_
 rcases a with _ | ⟨b,off,st⟩
 ·have hc0 : l = [] := by
   cases l with
   | nil => rfl
   | cons y ys =>
    obtain ⟨_,_,h1,_⟩ := hr 0 (.int .i64 (y.1 : Int)) (by simp [decs])
    cases h1
  subst hc0
  refine jN 4 ?_
  refine WL.bin rfl rfl rfl (v := .bool true) (fun w => by kernel_rfl) ?_
  refine jN 11 ?_
  exact WQ.ret (rs := [.tmp 2]) rfl (.tmp rfl .nil) (fun w hS => ⟨(none,0),rfl,hS.rowNil 104 3⟩)
 refine jN 4 ?_
 refine WL.bin rfl rfl rfl (v := .bool false) (fun w => by kernel_rfl) ?_
 refine jN 8 ?_
 refine WL.buildSlice0 F.sl33 rfl (fun b5 => ?_)
 refine WA.chunks (fun w hS => hS.rowOf (n := 0) (sz := 3) rfl (by decide)) ?_
 refine jN 3 ?_
 refine WL.appendC (n := 0) (xs := []) (news := decs l) F.el33 rfl rfl rfl jR (fun w hS hm => (by obtain ⟨x,hx⟩ : ∃ x,l[0]? = some x := ⟨_,List.getElem?_eq_getElem (by omega)⟩; obtain ⟨bx,ox,e1,_⟩ := hr.at hx; exact ⟨bx,ox,e1,fun j u hu => by (obtain ⟨b2,o2,e3,e4⟩ := hr j u hu; rw [e1] at e3; injection e3 with e3; injection e3 with e5 e6; subst e5; subst e6; exact hS.oldc e4 (by simp))⟩)) (decs_len l) (decs_one l) (Nat.le_trans (m := 16777216) (by omega) (by decide)) (by omega) (fun a2 c2 => ?_)
 refine jN 5 ?_
 refine WQ.ret (rs := [.tmp 2]) rfl (.tmp rfl .nil) (fun w hS => ⟨(a2,c2),?_,?_⟩)
 ·simp [tup]
 simpa using hS
theorem Nodes_c (t : BT) (a : Option Addr) (c : Nat) (w : World) (ht : RdD w t a) :
  Calls Tryz.prog 55 [dval t a c].toArray w fun e w' => ∃ x : Option Addr × Nat,e = .returned (.tuple #[.slice x.1 (canon t).1.length x.2,.int .i64 ((canon t).2 : Int)]) ∧ St w [] [rowc (.slice x.1 (canon t).1.length x.2) (canon t).1.length 104 3 (decs (canon t).1)] w' := by
 refine enter Tryz.func55 rfl Tryz.ntmps55 rfl (St.init _) ?_
 refine jN 3 ?_
 refine WL.boxN rfl rfl (fun b1 => ?_)
 refine jN 7 ?_
 refine WC.drawsL (by kernel_rfl) (FactsOk.cons (ds := [2]) (LoadOk.one (t := 1) (off := 0) rfl jM rfl) (FactsOk.cons (ds := []) (LoadOk.one (t := 1) (off := 1) rfl jM rfl) (FactsOk.nil))) ?_
 refine jT 0 rfl (Yl.fieldAddr0 F.fld35_0 rfl) ?_
 refine jF 1 0 rfl rfl (Yl.load1 F.one33 rfl) ?_
 refine jT 3 rfl (Yl.fieldAddr0 F.fld35_1 rfl) ?_
 refine jF 4 1 rfl rfl (Yl.load1 F.one3 rfl) ?_
 refine jA 2 rfl ?_
 refine jC (β := Option Addr × Nat) (res := fun y => .slice y.1 (canon t).1.length y.2) (cs := fun y => [rowc (.slice y.1 (canon t).1.length y.2) (canon t).1.length 104 3 (decs (canon t).1)]) F.fun122 rfl (fun w hS _ => CloneD_c (canon t).1 a c (Nat.le_of_lt (canon_len ht.1)) w (ht.2.next0 hS)) (fun x6 => ?_)
 refine WD.on (closed_of (by kernel_rfl)) (fun w hS => Sx.gone rfl (Sx.keep (hS.cell jM rfl) (Sx.none))) ?_
 refine jT 5 rfl (Yl.assign rfl) ?_
 refine jT 6 rfl (Yl.assign rfl) ?_
 refine jD ?_
 refine jN 2 ?_
 exact WQ.ret (rs := [.tmp 2,.tmp 3]) rfl (.tmp rfl (.tmp rfl .nil)) (fun w hS => ⟨x6,rfl,(jK hS)⟩)
theorem pathsum_c (v z1 z2 : Int) (h1 : 0 ≤ z1 ∧ z1 ≤ 4097) (h2 : 0 ≤ z2 ∧ z2 ≤ 4097) (w : World) : Pure Tryz.prog 54 [.int .i64 v,.int .i64 z1,.int .i64 z2] w (.int .i64 (if z1 + z2 > 4097 then 4097 else z1 + z2)) := by
 refine enter Tryz.func54 rfl Tryz.ntmps54 rfl (St.init _) ?_
 refine jN 15 ?_
 refine WL.minI (r := if z1 + z2 > 4097 then 4097 else z1 + z2) rfl rfl rfl (by (repeat split) <;> omega) ?_
 refine jN 5 ?_
 exact WQ.ret (rs := [.tmp 6]) rfl (.tmp rfl .nil) (fun w hS => ⟨rfl,hS⟩)
theorem path_join (la : List Dec) (hla : Mk la) (out : List Int) (s : Unit) (x : Dec) (z1 z2 : Int) (w : World) (hx : la[out.length - 2]? = some x) (hI : FP la out ∧ 2 ≤ out.length) (h1 : out[x.2.1]? = some z1) (h2 : out[x.2.2]? = some z2) (hS : St w [] [rowc (.slice none 0 0) 0 3 1 []] w) :
  Calls Tryz.prog 54 ([] ++ [Value.int .i64 (x.1 : Int),.int .i64 z1,.int .i64 z2] ++ []).toArray w fun e w' => ∃ y : { y : Unit × Int // FP la (out ++ [y.2]) ∧ 2 ≤ (out ++ [y.2]).length },e = .returned (.int .i64 y.1.2) ∧ St w [] [rowc (.slice none 0 0) 0 3 1 []] w' := by
 have e1 := hI.1.at' _ _ h1
 have e2 := hI.1.at' _ _ h2
 refine (pathsum_c x.1 z1 z2 (by omega) (by omega) w).mono ?_
 rintro e w' ⟨he,hS'⟩
 exact ⟨⟨((),_),hI.1.step hla hI.2 hx h1 h2 rfl,by have := hI.2; simp; omega⟩,he,hS'.rowNil _ _⟩
theorem tenv_of {w0 w : World} {O : List Nat} {C : List Chunk} {F0 : List Nat} {b5 b7 b8 b9 : Nat} {t : BT} {x4 : Option Addr × Nat} (hS : St w0 O ([thr F0 b7 b8 [] []] ++ (pt b9 [thF b7 b8 b5 b9] 101 :: pt b5 [.slice x4.1 (canon t).1.length x4.2] 33 :: rowc (.slice x4.1 (canon t).1.length x4.2) (canon t).1.length 104 3 (decs (canon t).1) :: C)) w) : TEnv w F0 b7 b8 b5 b9 (canon t).1 x4.1 x4.2 := by
 have hd := hS.disj
 simp only [List.cons_append,List.nil_append,List.pairwise_cons,List.mem_cons,forall_eq_or_imp] at hd
 obtain ⟨⟨d1,d2,d3,_⟩,_⟩ := hd
 have hap : ∀ {b : Nat} {cs : List Value} {e : TypeId},(∀ k,(thr F0 b7 b8 [] []).fp k → ¬ (pt b cs e).fp k) → b ∉ F0 := fun h hb => h _ hb rfl
 refine ⟨hS.cell (List.mem_cons_of_mem _ (List.mem_cons_of_mem _ (List.mem_cons_self ..))) rfl,hap d2,hS.cell (List.mem_cons_of_mem _ (List.mem_cons_self ..)) rfl,hap d1,fun j u hu => ?_⟩
 have hok := hS.ok (rowc (.slice x4.1 (canon t).1.length x4.2) (canon t).1.length 104 3 (decs (canon t).1)) (List.mem_cons_of_mem _ (List.mem_cons_of_mem _ (List.mem_cons_of_mem _ (List.mem_cons_self ..))))
 obtain ⟨b,off,e1,e2⟩ := RdDec.of_row (l := (canon t).1) (a := x4.1) (cap := x4.2) rfl hok j u hu
 refine ⟨b,off,e1,e2,fun hb => d3 b hb ?_⟩
 show (Value.slice x4.1 (canon t).1.length x4.2).ownBlock = some b
 rw [e1]
 have hpos : 0 < (canon t).1.length := by
  have h1 := (List.getElem?_eq_some_iff.1 hu).1
  rw [decs_len] at h1; omega
 rfl
theorem Clauses_in (t : BT) (a : Option Addr) (c : Nat) (w : World) (ht : RdD w t a) (hp : pathsN t ≤ 4096) :
  Calls Tryz.prog 20 [dval t a c].toArray w fun e w' => ∃ y : TGr,e = .returned (.tuple #[.slice y.oa (pathsT t []).length y.oc,.int .i64 0]) ∧ St w [] [rowc (.slice y.oa (pathsT t []).length y.oc) (pathsT t []).length 41 1 y.vs,stepsC y.Fs y.vs (pathsT t [])] w' := by
 have hmk := canon_mk ht.1
 have hcl := canon_len ht.1
 refine enter Tryz.func20 rfl Tryz.ntmps20 rfl (St.init _) ?_
 refine jN 3 ?_
 refine WL.boxN rfl rfl (fun b1 => ?_)
 refine jN 10 ?_
 refine WA.chunks (fun w hS => (hS.rowNil 3 1)) ?_
 refine jN 1 ?_
 refine WL.callC (β := { y : List Int × Unit × Int // (FP (canon t).1 y.1 ∧ 2 ≤ y.1.length) ∧ y.1.length = (canon t).1.length + 2 ∧ y.1[(canon t).2]? = some y.2.2 }) (res := fun y => .int .i64 y.1.2.2) (cs := fun y => [rowc (.slice none 0 0) 0 3 1 []]) (Cs := [rowc (.slice none 0 0) 0 3 1 []]) (C1 := [pt b1 [.slice a (canon t).1.length c,.int .i64 ((canon t).2 : Int)] 35]) (O' := []) F.fun53 (fun d h => by cases h; rfl) rfl (List.Perm.refl _) (fun c hc k hk => (by rw [List.mem_singleton.1 hc] at hk; cases hk)) (by simp) (fun w hS hS2 => Fold_c (σ := Unit) (fun _ => rowc (.slice none 0 0) 0 3 1 []) (fun _ => []) (fun _ => FpIs.rowc) 54 F.fun54 [] [] (canon t).1 a c (canon t).2 1 0 (fun out _ => FP (canon t).1 out ∧ 2 ≤ out.length) (Nat.le_of_lt hcl) (fun k x hx => ⟨(hmk.kid k x hx).2.1,(hmk.kid k x hx).2.2.1⟩) (canon_at t).1 () ⟨FP.nil _,by simp⟩ (path_join (canon t).1 hmk) w (fun j u hu => (by obtain ⟨b,off,e1,e2⟩ := ht.2 j u hu; exact ⟨b,off,e1,hS.oldc e2 (by simp),by simp⟩)) hS2) (fun ⟨⟨out,_,z⟩,hI,hol,hz⟩ => ?_)
 have hzp := hI.1.at' _ _ hz
 rw [(canon_at t).2] at hzp
 dsimp only at hzp
 refine jN 13 ?_
 refine WC.cond rfl (fun h13 => ?_) (fun h13 => ?_)
 ·exfalso; simp at h13; omega
 refine jN 7 ?_
 refine jC (β := Option Addr × Nat) (res := fun y => .tuple #[.slice y.1 (canon t).1.length y.2,.int .i64 ((canon t).2 : Int)]) (cs := fun y => [rowc (.slice y.1 (canon t).1.length y.2) (canon t).1.length 104 3 (decs (canon t).1)]) F.fun55 rfl (fun w hS _ => Nodes_c t a c w (ht.next0 hS)) (fun x4 => ?_)
 refine jN 7 ?_
 refine WL.alloc F.zero33 rfl (fun b5 => ?_)
 refine jN 9 ?_
 refine WL.alloc F.zero52 rfl (fun b7 => ?_)
 refine jN 5 ?_
 refine WL.alloc F.zero41 rfl (fun b8 => ?_)
 refine jN 5 ?_
 refine WL.alloc F.zero101 rfl (fun b9 => ?_)
 refine jN 12 ?_
 refine WA.chunksE (C' := fun F0 => [thr F0 b7 b8 [] [],pt b9 [thF b7 b8 b5 b9] 101,pt b5 [.slice x4.1 (canon t).1.length x4.2] 33,rowc (.slice x4.1 (canon t).1.length x4.2) (canon t).1.length 104 3 (decs (canon t).1)]) (fun w hS => ?_) (fun F0 => ?_)
 ·exact St.thrClose (bo := b7) (bp := b8) (out := []) (path := []) (oa := none) (oc := 0) (pa := none) (pc := 0) (n := 0) (m := 0) (vs := []) (Fs := []) (xs := []) rfl rfl rfl (jK (((hS.rowNil 41 1).rowNil 3 1).stepsNil))
 refine jN 5 ?_
 refine WL.callFC (β := List Nat) (us := []) (cap := [pp b7,pp b8,pp b5,pp b9]) (res := fun y => .tuple #[]) (cs := fun y => [thr y b7 b8 ([] ++ pathsT (trs (canon t).1 (canon t).2) []) []]) (Cs := [thr F0 b7 b8 [] []]) (C1 := [pt b9 [thF b7 b8 b5 b9] 101,pt b5 [.slice x4.1 (canon t).1.length x4.2] 33,rowc (.slice x4.1 (canon t).1.length x4.2) (canon t).1.length 104 3 (decs (canon t).1)]) (O' := F0) F.fun56 (fun d h => by cases h; rfl) rfl rfl (List.Perm.refl _) bun_O1 bun_O2 (fun w hS hS2 => through_c b7 b8 b5 b9 (canon t).1 x4.1 x4.2 hmk (Nat.le_of_lt hcl) ((canon t).2 + 1) (canon t).2 (Nat.lt_succ_self _) F0 [] [] w 0 (canon_at t).1 (by rw [(canon_at t).2]; exact ht.1) (Nat.le_refl _) (by decide) (by rw [(canon_at t).2]; simpa using hp) (tenv_of hS) hS2) (fun F9 => ?_)
 refine jN 4 ?_
 rw [(canon_at t).2,List.nil_append]
 refine WA.openB (fun y6 _ _ _ => ?_)
 obtain ⟨oa6,oc6,vs6,Fs6,pa6,pc6⟩ := y6
 simp only [thCs,List.cons_append,List.nil_append]
 refine jN 9 ?_
 exact WQ.ret (rs := [.tmp 2,.tmp 3]) rfl (.tmp rfl (.tmp rfl .nil)) (fun w hS => ⟨⟨oa6,oc6,vs6,Fs6,none,0⟩,rfl,(jK hS)⟩)
theorem few_step {f v m : Nat} (hm : m ≤ v) (hv : v < 24) (hb : f.testBit v = true) : ((featL f).filter (fun x => decide (v + 1 ≤ x))).length + 1 ≤ ((featL f).filter (fun x => decide (m ≤ x))).length := by
 have hmem : v ∈ (featL f).filter (fun x => decide (m ≤ x)) := List.mem_filter.2 ⟨feat_mem.2 ⟨hv,hb⟩,decide_eq_true hm⟩
 have e : (featL f).filter (fun x => decide (v + 1 ≤ x)) = ((featL f).filter (fun x => decide (m ≤ x))).filter (fun x => decide (v + 1 ≤ x)) := by
  rw [List.filter_filter]
  refine List.filter_congr fun x _ => ?_
  rw [Bool.eq_iff_iff,Bool.and_eq_true,decide_eq_true_eq,decide_eq_true_eq]
  omega
 rw [e]
 generalize hq : (featL f).filter (fun x => decide (m ≤ x)) = l at hmem
 have key : ∀ l : List Nat,v ∈ l → (l.filter (fun x => decide (v + 1 ≤ x))).length + 1 ≤ l.length := by
  intro l
  induction l with
  | nil => intro h; cases h
  | cons y l ih =>
   intro h
   rcases List.mem_cons.1 h with rfl | h
   ·rw [List.filter_cons,if_neg (by simp),List.length_cons]
    exact Nat.succ_le_succ (List.length_filter_le _ _)
   ·have := ih h
    rw [List.filter_cons]
    split <;> simp only [List.length_cons] <;> omega
 exact key l hmem
theorem paths_few {f : Nat} : ∀ {t : BT} {m : Nat},t.ok m → (∀ x,hasVar x t → f.testBit x = true) → pathsN t ≤ 2 ^ ((featL f).filter (fun x => decide (m ≤ x))).length
 | .lf b,m,_,_ => by
  have h2 : 1 ≤ 2 ^ ((featL f).filter (fun x => decide (m ≤ x))).length := Nat.one_le_two_pow
  cases b
  ·exact h2
  ·exact Nat.zero_le _
 | .nd v lo hi,m,h,hv => by
  have h1 := paths_few (t := lo) h.2.2.2.1 (fun x hx => hv x (.inr (.inl hx)))
  have h2 := paths_few (t := hi) h.2.2.2.2 (fun x hx => hv x (.inr (.inr hx)))
  have hlt := few_step (f := f) h.1 h.2.1 (hv v (.inl rfl))
  have h3 : 2 ^ (((featL f).filter (fun x => decide (v + 1 ≤ x))).length + 1) ≤ 2 ^ ((featL f).filter (fun x => decide (m ≤ x))).length := Nat.pow_le_pow_right (by decide) hlt
  rw [Nat.pow_succ] at h3
  show pathsN lo + pathsN hi ≤ _
  omega
theorem paths_len : ∀ {t : BT} {m : Nat} {pre : List Int},t.ok m → pre.length ≤ m → ∀ c ∈ pathsT t pre,c.length ≤ 24 + pre.length
 | .lf b,m,pre,_,_,c,hc => by
  cases b
  ·have : c = pre := by simpa [pathsT] using hc
   rw [this]; omega
  ·simp [pathsT] at hc
 | .nd v lo hi,m,pre,h,hp,c,hc => by
  have hlen : ∀ {t : BT} {k : Nat} {q : List Int},t.ok k → k ≤ 24 → q.length ≤ k → ∀ c ∈ pathsT t q,c.length ≤ 24 := by
   intro t
   induction t with
   | lf b =>
    intro k q _ hk hq c hc
    cases b
    ·have : c = q := by simpa [pathsT] using hc
     rw [this]; omega
    ·simp [pathsT] at hc
   | nd v lo hi ih1 ih2 =>
    intro k q h hk hq c hc
    have e1 := h.1
    have e2 := h.2.1
    rcases List.mem_append.1 hc with hc | hc
    ·exact ih1 h.2.2.2.1 (by omega) (by simp; omega) c hc
    ·exact ih2 h.2.2.2.2 (by omega) (by simp; omega) c hc
  have e1 := h.1
  have e2 := h.2.1
  have := hlen (t := .nd v lo hi) (k := m) h (by omega) hp c hc
  omega
theorem last_few {l : List OpV} {f : Nat} (hin : ∀ x ∈ l,OpIn x f ∧ x.l.length ≤ 40) {ds : List DV} (h : evs' ds = mkD l) {x : DV} (hx : x ∈ ds) (ho : x.1.ok 0) : ∀ k,hasVar k x.1 → f.testBit k = true := fun k hk => by
 have hd : dep f x.1.ev := by
  refine mkD_dep l [fun _ => false] (fun y hy => (hin y hy).1) (fun e he => by rw [List.mem_singleton.1 he]; exact dep_const f false) _ ?_
  have : x.1.ev ∈ evs' ds := List.mem_map.2 ⟨x,hx,rfl⟩
  rw [h] at this
  exact this
 exact sup_in ho hd ((sup_var ho k).2 hk)
theorem nan32_c (a : Int) (w : World) : Pure Tryz.prog 178 [.int .u32 a] w (.bool false) := by
 refine enter Tryz.func178 rfl Tryz.ntmps178 rfl (St.init _) ?_
 refine jN 19 ?_
 exact WQ.ret (rs := [.tmp 2]) rfl (.tmp rfl .nil) (fun w hS => ⟨by simp [tup],hS⟩)
theorem nan64_c (a : Int) (w : World) : Pure Tryz.prog 177 [.int .i64 a] w (.bool false) := by
 refine enter Tryz.func177 rfl Tryz.ntmps177 rfl (St.init _) ?_
 refine jN 19 ?_
 exact WQ.ret (rs := [.tmp 2]) rfl (.tmp rfl .nil) (fun w hS => ⟨by simp [tup],hS⟩)
def cmpI (a b : Int) : Int := if a < b then -1 else if b < a then 1 else 0
theorem cmp32_c (a b : Int) (w : World) : Pure Tryz.prog 166 [.int .u32 a,.int .u32 b] w (.int .i64 (cmpI a b)) := by
 refine enter Tryz.func166 rfl Tryz.ntmps166 rfl (St.init _) ?_
 refine jN 11 ?_
 refine WL.callV F.fun178 rfl rfl (fun w hS => nan32_c a w) ?_
 refine jN 9 ?_
 refine WL.callV F.fun178 rfl rfl (fun w hS => nan32_c b w) ?_
 refine jN 35 ?_
 refine WC.cond rfl (fun h16 => ?_) (fun h16 => ?_)
 ·have hr : cmpI a b = -1 := if_pos (by simpa using h16)
  refine jN 8 ?_
  exact WQ.ret (rs := [.tmp 4]) rfl (.tmp rfl .nil) (fun w hS => ⟨by rw [hr]; rfl,hS⟩)
 have h1 : ¬ a < b := by simpa using h16
 refine jN 13 ?_
 refine WC.cond rfl (fun h19 => ?_) (fun h19 => ?_)
 have hr : cmpI a b = 1 := by (unfold cmpI; rw [if_neg h1,if_pos (by simpa using h19)])
 refine jN 8 ?_
 rotate_left
 have hr : cmpI a b = 0 := by (unfold cmpI; rw [if_neg h1,if_neg (by simpa using h19)])
 refine jN 9 ?_
 rotate_left
 all_goals
  exact WQ.ret (rs := [.tmp 4]) rfl (.tmp rfl .nil) (fun w hS => ⟨by rw [hr]; rfl,hS⟩)
theorem cmp64_c (a b : Int) (w : World) : Pure Tryz.prog 165 [.int .i64 a,.int .i64 b] w (.int .i64 (cmpI a b)) := by
 refine enter Tryz.func165 rfl Tryz.ntmps165 rfl (St.init _) ?_
 refine jN 11 ?_
 refine WL.callV F.fun177 rfl rfl (fun w hS => nan64_c a w) ?_
 refine jN 9 ?_
 refine WL.callV F.fun177 rfl rfl (fun w hS => nan64_c b w) ?_
 refine jN 35 ?_
 refine WC.cond rfl (fun h16 => ?_) (fun h16 => ?_)
 ·have hr : cmpI a b = -1 := if_pos (by simpa using h16)
  refine jN 8 ?_
  exact WQ.ret (rs := [.tmp 4]) rfl (.tmp rfl .nil) (fun w hS => ⟨by rw [hr]; rfl,hS⟩)
 have h1 : ¬ a < b := by simpa using h16
 refine jN 13 ?_
 refine WC.cond rfl (fun h19 => ?_) (fun h19 => ?_)
 have hr : cmpI a b = 1 := by (unfold cmpI; rw [if_neg h1,if_pos (by simpa using h19)])
 refine jN 8 ?_
 rotate_left
 have hr : cmpI a b = 0 := by (unfold cmpI; rw [if_neg h1,if_neg (by simpa using h19)])
 refine jN 9 ?_
 rotate_left
 all_goals
  exact WQ.ret (rs := [.tmp 4]) rfl (.tmp rfl .nil) (fun w hS => ⟨by rw [hr]; rfl,hS⟩)
theorem cmpOr_c (xs : List Int) (a : Option Addr) (c : Nat) (hll : xs.length ≤ 1000) (w : World) (hr : RdC w xs a) : Pure Tryz.prog 164 [.slice a xs.length c] w (.int .i64 ((xs.find? (fun x => x != 0)).getD 0)) := by
 refine enter Tryz.func164 rfl Tryz.ntmps164 rfl (St.init _) ?_
 refine jN 24 ?_
 refine WC.loop (α := Nat) (fun i => i ≤ xs.length ∧ ∀ x ∈ xs.take i,x = 0) (fun i => [(3,.int .i64 0),(6,.slice a xs.length c),(7,.int .i64 (xs.length : Int)),(8,.int .i64 (i : Int))]) (fun _ => []) (fun i => xs.length - i) (0) ?_ ?_ ?_ ?_
 ·exact ⟨Nat.zero_le _,by simp⟩
 ·exact ⟨rfl,rfl,rfl,rfl,trivial⟩
 ·rfl
 rintro i ⟨hi,hz⟩
 refine jN 7 ?_
 refine WC.cond rfl (fun h9 => ?_) (fun h9 => ?_)
 ·have hlt : i < xs.length := by simpa using h9
  obtain ⟨x,hx⟩ : ∃ y,xs[i]? = some y := ⟨_,List.getElem?_eq_getElem hlt⟩
  obtain ⟨b,off,rfl,hcell⟩ := hr i x hx
  refine jN 7 ?_
  refine WL.indexAddr (i := i) F.sl41 rfl rfl rfl hlt ?_
  refine jN 1 ?_
  refine WL.load1 F.one3 rfl rfl (v := .int .i64 x) (fun w hS => by rw [Nat.mul_one]; exact hS.oldc hcell (by simp)) ?_
  refine jN 14 ?_
  refine WC.cond rfl (fun h14 => ?_) (fun h14 => ?_)
  ·have hx0 : (x != 0) = true := by simpa using h14
   have hf : xs.find? (fun x => x != 0) = some x := by
    have e : xs.drop i = x :: xs.drop (i + 1) := by rw [List.drop_eq_getElem_cons hlt,(List.getElem?_eq_some_iff.1 hx).2]
    rw [← List.take_append_drop i xs,e,List.find?_append,List.find?_eq_none.2 (fun y hy => by simpa using hz y hy),List.find?_cons,hx0]; rfl
   refine jN 14 ?_
   exact WQ.ret (rs := [.tmp 2]) rfl (.tmp rfl .nil) (fun w hS => ⟨by rw [hf]; rfl,hS⟩)
  refine jN 9 ?_
  refine WQ.back (i + 1) ?_ ?_ ?_ ?_
  ·exact ⟨by omega,fun y hy => by rw [List.take_add_one,hx] at hy; rcases List.mem_append.1 hy with h | h; exact hz y h; rw [List.mem_singleton.1 h]; simpa using h14⟩
  ·omega
  ·exact ⟨rfl,rfl,rfl,rfl,trivial⟩
  rfl
 have hie : i = xs.length := by simp at h9; omega
 subst hie
 rw [List.take_length] at hz
 have hf : xs.find? (fun x => x != 0) = none := List.find?_eq_none.2 fun y hy => by simpa using hz y hy
 refine jN 14 ?_
 exact WQ.ret (rs := [.tmp 2]) rfl (.tmp rfl .nil) (fun w hS => ⟨by rw [hf]; rfl,hS⟩)
theorem clause_c (k : List Int) (a : Option Addr) (cap : Nat) (hk : ∀ x ∈ k,x ≠ 0 ∧ -24 ≤ x ∧ x ≤ 24) (hlen : k.length ≤ 1099511627776) (w : World) (hr : RdC w k a) : Calls Tryz.prog 76 [.slice a k.length cap].toArray w (DPost (clauseB k) w) := by
 refine enter Tryz.func76 rfl Tryz.ntmps76 rfl (St.init _) ?_
 refine jN 3 ?_
 refine WL.alloc F.zero35 rfl (fun b2 => ?_)
 refine jN 22 ?_
 refine WC.loop (α := Nat) (fun i => i ≤ k.length) (fun i => [(3,.int .u32 ((onOff (k.take i)).1 : Int)),(4,.int .u32 ((onOff (k.take i)).2 : Int)),(7,.slice a k.length cap),(8,.int .i64 (k.length : Int)),(9,.int .i64 (i : Int)),(2,pp b2)]) (fun _ => [pt b2 [.slice none 0 0,.int .i64 0] 35]) (fun i => k.length - i) (0) ?_ ?_ ?_ ?_
 ·exact Nat.zero_le _
 ·exact ⟨rfl,rfl,rfl,rfl,rfl,rfl,trivial⟩
 ·rfl
 rintro i hi
 refine jN 7 ?_
 refine WC.cond rfl (fun h10 => ?_) (fun h10 => ?_)
 ·have hlt : i < k.length := by simpa using h10
  obtain ⟨y,hx⟩ : ∃ y,k[i]? = some y := ⟨_,List.getElem?_eq_getElem hlt⟩
  obtain ⟨b,off,rfl,hcell⟩ := hr i y hx
  have hy := hk y (List.mem_of_getElem? hx)
  have hst := onOff_take hx
  have hbd := onOff_lt (c := k.take i) (p := (0,0)) (fun z hz => hk z (List.mem_of_mem_take hz)) ⟨by decide,by decide⟩
  have hbd1 : (onOff (k.take i)).1 < 4294967296 := Nat.lt_of_lt_of_le hbd.1 (by decide)
  have hbd2 : (onOff (k.take i)).2 < 4294967296 := Nat.lt_of_lt_of_le hbd.2 (by decide)
  refine jN 7 ?_
  refine WL.indexAddr F.sl41 rfl rfl rfl hlt ?_
  refine jN 1 ?_
  refine WL.load1 F.one3 rfl rfl (v := .int .i64 y) (fun w hS => hS.oldc (by simpa using hcell) (by simp)) ?_
  refine jN 12 ?_
  refine WC.cond rfl (fun h14 => ?_) (fun h14 => ?_)
  have h0 : 0 < y := by simpa using h14
  have hst2 : onOff (k.take (i + 1)) = ((onOff (k.take i)).1,(onOff (k.take i)).2 ||| 2 ^ (y - 1).toNat) := by rw [hst]; unfold onStep; rw [if_pos h0]
  refine jN 7 ?_
  refine WA.say 17 (.int .i64 (((y - 1).toNat : Nat) : Int)) (by rw [show (((y - 1).toNat : Nat) : Int) = y - 1 by omega]; rfl) ?_
  refine jN 1 ?_
  refine WL.bin rfl rfl rfl (fun w => run_shl1 (by omega) _ _ _ w) ?_
  refine jN 1 ?_
  refine WL.bin rfl rfl rfl (fun w => run_or hbd2 (pow32 (by omega)) _ _ _ w) ?_
  rotate_left
  have h0 : ¬ 0 < y := by simpa using h14
  have hst2 : onOff (k.take (i + 1)) = ((onOff (k.take i)).1 ||| 2 ^ (-y - 1).toNat,(onOff (k.take i)).2) := by rw [hst]; unfold onStep; rw [if_neg h0]
  refine jN 6 ?_
  refine WL.negI rfl rfl (by omega) ?_
  refine jN 2 ?_
  refine WA.say 23 (.int .i64 (((-y - 1).toNat : Nat) : Int)) (by rw [show (((-y - 1).toNat : Nat) : Int) = -y - 1 by omega]; rfl) ?_
  refine jN 1 ?_
  refine WL.bin rfl rfl rfl (fun w => run_shl1 (by omega) _ _ _ w) ?_
  refine jN 1 ?_
  refine WL.bin rfl rfl rfl (fun w => run_or hbd1 (pow32 (by omega)) _ _ _ w) ?_
  rotate_left
  all_goals
   refine jN 11 ?_
   refine WQ.back (i + 1) (by show i + 1 ≤ k.length; omega) (by show k.length - (i + 1) < k.length - i; omega) ?_ rfl
   simp only [hst2]
   exact ⟨rfl,rfl,rfl,rfl,rfl,rfl,trivial⟩
 have hie : i = k.length := by simp at h10; omega
 subst hie
 rw [List.take_length]
 have hbd := onOff_lt (c := k) (p := (0,0)) hk ⟨by decide,by decide⟩
 have hbd1 : (onOff k).1 < 4294967296 := Nat.lt_of_lt_of_le hbd.1 (by decide)
 have hbd2 : (onOff k).2 < 4294967296 := Nat.lt_of_lt_of_le hbd.2 (by decide)
 refine jN 12 ?_
 refine WL.call0 (β := DRes (fun cf => cubeB (onOff k).1 (onOff k).2 0 cf)) (res := fun z => .returned z.v) (cs := fun z => [z.ch]) (ψ := fun _ => True) F.fun107 (fun d h => by cases h; rfl) rfl (fun w hS => (Cube_c (onOff k).1 (onOff k).2 hbd1 hbd2 w).mono (fun e w2 ⟨x,h1,h2⟩ => ⟨x,trivial,h1,h2⟩)) (fun z29 _ => ?_)
 refine WL.step ?_
 refine WL.call0 (β := DRes (fun cf => !z29.1.1.ev cf)) (res := fun z => .returned z.v) (cs := fun z => [z.ch]) (ψ := fun _ => True) F.fun100 (fun d h => by cases h; rfl) rfl (fun w hS => (Not_c z29.1.1 z29.1.2.1 z29.1.2.2 w (z29.rd hS jM)).mono (fun e w2 ⟨x,h1,h2⟩ => ⟨x,trivial,h1,h2⟩)) (fun z30 _ => ?_)
 refine WL.step ?_
 refine WL.storeN F.agg35 rfl rfl rfl (by simp [Value.oneCell']) (by repeat (first | exact Upd.here | apply Upd.there)) (by repeat constructor) ?_
 refine WL.nil ?_
 refine WQ.then_normal ?_
 refine WC.ret ?_
 refine WQ.ret (rs := [.cell 2 35]) rfl (.cellN F.agg35 rfl jM rfl .nil) (fun w hS => ⟨⟨z30.1,z30.2.1,fun cf => by rw [z30.2.2]; dsimp only; rw [z29.2.2]; exact clause_cube hk cf⟩,rfl,(jK hS)⟩)
structure ConjG where
 i : Nat
 t : BT
 ad : Option Addr
 ac : Nat
theorem may_in {n : Int} {ls : List (List Int)} (h : Fm.mayE n ls = 0) : (0 ≤ n ∧ n ≤ 24) ∧ ls.length ≤ 4096 ∧ ∀ c ∈ ls,c.length ≤ 64 ∧ ∀ x ∈ c,x ≠ 0 ∧ -24 ≤ x ∧ x ≤ 24 := by
 obtain ⟨h1,h2,h3⟩ := may_zero h
 refine ⟨h1,h2,fun c hc => ?_⟩
 have := List.all_eq_true.1 h3 c hc
 simp only [Fm.fitsB,Bool.and_eq_true,decide_eq_true_eq,List.all_eq_true,Fm.litB,Bool.not_eq_true',beq_eq_false_iff_ne] at this
 refine ⟨this.1,fun x hx => ?_⟩
 have hx := this.2 x hx
 omega
theorem Conj_in (n : Int) (ls : List (List Int)) (a : Option Addr) (cap : Nat) (us : List Value) (hm : Fm.mayE n ls = 0) (w : World) (hr : RdLL w ls a us) :
  Calls Tryz.prog 30 [.int .i64 n,.slice a ls.length cap].toArray w fun e w' => ∃ z : DRes (fun cf => ls.all (fun k => clauseB k cf)),e = .returned (.tuple #[z.v,.int .i64 0]) ∧ St w [] [z.ch] w' := by
 have hin := may_in hm
 refine enter Tryz.func30 rfl Tryz.ntmps30 rfl (St.init _) ?_
 refine jN 3 ?_
 refine WL.alloc F.zero35 rfl (fun b4 => ?_)
 refine jN 12 ?_
 refine WL.callV F.fun73 rfl rfl (fun w hS => may_c n ls a cap us w (hr.next hS)) ?_
 refine jN 12 ?_
 refine WC.cond rfl (fun h14 => ?_) (fun h14 => ?_)
 ·exfalso; rw [hm] at h14; simp at h14
 refine jN 5 ?_
 refine WL.call0 (β := DRes (fun _ => true)) (res := fun z => .returned z.v) (cs := fun z => [z.ch]) (ψ := fun _ => True) F.fun74 (fun d h => by cases h; rfl) rfl (fun w hS => (True_c w).mono (fun e w2 ⟨x,h1,h2⟩ => ⟨x,trivial,h1,h2⟩)) (fun z17 _ => ?_)
 refine WL.step ?_
 refine WL.alloc F.zero35 rfl (fun b7 => ?_)
 refine jN 16 ?_
 refine WC.chunks (C' := [pt b7 [.slice z17.1.2.1 (canon z17.1.1).1.length z17.1.2.2,.int .i64 ((canon z17.1.1).2 : Int)] 35,pt b4 [.slice none 0 0,.int .i64 0] 35,z17.ch]) (fun w hS => (jK hS)) ?_
 refine WC.loop (α := ConjG) (fun g => g.i ≤ ls.length ∧ g.t.ok 0 ∧ ∀ cf,g.t.ev cf = (ls.take g.i).all (fun k => clauseB k cf)) (fun g => [(4,pp b4),(7,pp b7),(18,.slice a ls.length cap),(19,.int .i64 (ls.length : Int)),(20,.int .i64 (g.i : Int))]) (fun g => [pt b7 [.slice g.ad (canon g.t).1.length g.ac,.int .i64 ((canon g.t).2 : Int)] 35,pt b4 [.slice none 0 0,.int .i64 0] 35,dC g.ad g.ac g.t]) (fun g => ls.length - g.i) (⟨0,z17.1.1,z17.1.2.1,z17.1.2.2⟩) ?_ ?_ ?_ ?_
 ·exact ⟨Nat.zero_le _,z17.2.1,fun cf => by rw [z17.2.2]; rfl⟩
 ·exact ⟨rfl,rfl,rfl,rfl,rfl,trivial⟩
 ·rfl
 rintro ⟨i,t,ad,ac⟩ ⟨hi,hok,hev⟩
 dsimp only at hi hok hev
 show WC _ _ _ _ _ _ _ [(4,pp b4),(7,pp b7),(18,.slice a ls.length cap),(19,.int .i64 (ls.length : Int)),(20,.int .i64 (i : Int))] [pt b7 [.slice ad (canon t).1.length ac,.int .i64 ((canon t).2 : Int)] 35,pt b4 [.slice none 0 0,.int .i64 0] 35,dC ad ac t]
 refine jN 7 ?_
 refine WC.cond rfl (fun h21 => ?_) (fun h21 => ?_)
 ·have hlt : i < ls.length := by simpa using h21
  obtain ⟨k,b,off,a1,cap1,hc,rfl,hcell,hrc⟩ := hr.at hlt
  obtain ⟨hkl,hkb⟩ := hin.2.2 k (List.mem_of_getElem? hc)
  refine jN 7 ?_
  refine WL.indexAddr F.sl52 rfl rfl rfl hlt ?_
  refine jN 1 ?_
  refine WL.load1 F.one41 rfl rfl (v := .slice a1 k.length cap1) (fun w hS => hS.oldc (by simpa using hcell) (by simp)) ?_
  refine jN 4 ?_
  refine WC.drawsL (by kernel_rfl) (FactsOk.cons (ds := [3,4]) (LoadOk.whole (t := 7) rfl jM) (FactsOk.nil)) ?_
  refine jF 0 0 rfl rfl (Yl.loadN F.agg35 rfl rfl) ?_
  refine jT 1 rfl (Yl.move rfl) ?_
  refine jA 2 rfl ?_
  refine WL.call0 (β := DRes (clauseB k)) (res := fun z => .returned z.v) (cs := fun z => [z.ch]) (ψ := fun _ => True) F.fun76 (fun d h => by cases h; rfl) rfl (fun w hS => (clause_c k a1 cap1 hkb (by omega) w (hrc.next hS)).mono (fun e w2 ⟨x,h1,h2⟩ => ⟨x,trivial,h1,h2⟩)) (fun z26 _ => ?_)
  refine WD.on (closed_of (by kernel_rfl)) (fun w hS => Sx.keep ((fun j v hv => by rw [Nat.zero_add]; exact hS.cell jM hv)) (Sx.none)) ?_
  refine jA 3 rfl ?_
  refine WL.call0 (β := DRes (fun cf => t.ev cf && z26.1.1.ev cf)) (res := fun z => .returned z.v) (cs := fun z => [z.ch]) (ψ := fun _ => True) F.fun75 (fun d h => by cases h; rfl) rfl (fun w hS => (And_c t z26.1.1 ad z26.1.2.1 ac z26.1.2.2 w (RdD.of_row hok (hS.ok (dC ad ac t) jM)) (z26.rd hS jM)).mono (fun e w2 ⟨x,h1,h2⟩ => ⟨x,trivial,h1,h2⟩)) (fun z27 _ => ?_)
  refine jG ?_
  refine jA 4 rfl ?_
  refine WL.storeN F.agg35 rfl rfl rfl jO jU jS ?_
  refine jG ?_
  refine jD ?_
  refine jN 8 ?_
  refine WQ.chunks (C' := [pt b7 [.slice z27.1.2.1 (canon z27.1.1).1.length z27.1.2.2,.int .i64 ((canon z27.1.1).2 : Int)] 35,pt b4 [.slice none 0 0,.int .i64 0] 35,z27.ch]) (fun w hS => (jK hS)) ?_
  refine WQ.back (⟨i + 1,z27.1.1,z27.1.2.1,z27.1.2.2⟩) ?_ ?_ ?_ ?_
  ·exact ⟨by show i + 1 ≤ ls.length; omega,z27.2.1,fun cf => by (show z27.1.1.ev cf = _; rw [z27.2.2]; dsimp only; rw [hev,z26.2.2,List.take_add_one,hc]; simp)⟩
  ·(show ls.length - (i + 1) < ls.length - i; omega)
  ·exact ⟨rfl,rfl,rfl,rfl,rfl,trivial⟩
  rfl
 have hie : i = ls.length := by simp at h21; omega
 subst hie
 rw [List.take_length] at hev
 refine jN 16 ?_
 refine WQ.ret (rs := [.cell 4 35,.tmp 5]) rfl (.cellN F.agg35 rfl jM rfl (.tmp rfl .nil)) (fun w hS => ⟨⟨(t,ad,ac),hok,hev⟩,rfl,(jK hS)⟩)
theorem arT2 : ArT Tryz.prog 133 2 2 1 [.int .i64 0,.int .i64 0] := ⟨by kernel_rfl,by kernel_rfl,by kernel_rfl⟩
abbrev ChV := Nat × Nat × Bool
abbrev chv (z : ChV) : List Value := [.int .i64 (z.1 : Int),.int .i64 0,.int .u32 (z.2.1 : Int),.bool z.2.2]
def RdW0 (w : World) (bw : Nat) : Prop := ∀ k,k < 48 → w.cell? ⟨bw,k,none⟩ = some (.int .i64 0)
theorem RdW0.next {w0 w : World} {C : List Chunk} {bw : Nat} (h : RdW0 w0 bw) (hS : St w0 [] C w) : RdW0 w bw := fun k hk => hS.oldc (h k hk) (by simp)
def stepV (z : ChV) (f : Nat) (b : Bool) : ChV := (f,bif b then z.2.1 ||| 2 ^ f else z.2.1,z.2.2)
theorem step_c (bw : Nat) (z : ChV) (hc : z.2.1 < 4294967296) (f : Nat) (hf : f < 24) (b : Bool) (w : World) (hw0 : RdW0 w bw) :
  Pure Tryz.prog 135 [pp bw,.agg (chv z).toArray,.int .i64 (f : Int),.bool b] w (.agg (chv (stepV z f b)).toArray) := by
 refine enter Tryz.func135 rfl Tryz.ntmps135 rfl (St.init _) ?_
 refine jN 3 ?_
 refine WL.boxN rfl rfl (fun b5 => ?_)
 refine jN 1 ?_
 refine WL.alloc F.zero130 rfl (fun b8 => ?_)
 refine jN 19 ?_
 refine WC.cond rfl (fun h11 => ?_) (fun h11 => ?_)
 subst h11
 refine jN 1 ?_
 refine WC.drawsL (by kernel_rfl) (FactsOk.cons (ds := [10]) (LoadOk.one (t := 5) (off := 1) rfl jM rfl) (FactsOk.cons (ds := [10]) (LoadOk.by (Y := fun w => w.cell? ⟨bw,0 + f * 2 + 1 * 1,none⟩ = some (.int .i64 0)) (fun w hS => by rw [show 0 + f * 2 + 1 * 1 = f * 2 + 1 by omega]; exact hS.oldc (hw0 (f * 2 + 1) (by omega)) (by simp))) (FactsOk.nil))) ?_
 refine jT 0 rfl (Yl.fieldAddr0 F.fld130_1 rfl) ?_
 refine jF 1 0 rfl rfl (Yl.load1 F.one2 rfl) ?_
 refine jT 2 rfl (Yl.move rfl) ?_
 refine jT 3 rfl (Yl.move rfl) ?_
 refine jT 4 rfl (Yl.nilCheck rfl) ?_
 refine jT 5 rfl (Yl.indexAddrA F.arT135 rfl rfl hf) ?_
 refine jT 6 rfl (Yl.indexAddrA (i := 1) arT2 rfl rfl (by decide)) ?_
 refine jF 7 1 rfl rfl (Yl.load1 F.one2 rfl) ?_
 refine jT 8 rfl (Yl.add rfl rfl ⟨by omega,by omega⟩) ?_
 refine jT 9 rfl (Yl.fieldAddr0 F.fld130_1 rfl) ?_
 refine jA 10 rfl ?_
 refine WL.store1 F.one2 rfl rfl rfl jU jS ?_
 refine jG ?_
 refine jD ?_
 refine jN 1 ?_
 refine WC.drawsL (by kernel_rfl) (FactsOk.cons (ds := [6]) (LoadOk.one (t := 5) (off := 2) rfl jM rfl) (FactsOk.nil)) ?_
 refine jT 0 rfl (Yl.fieldAddr0 F.fld130_2 rfl) ?_
 refine jF 1 0 rfl rfl (Yl.load1 F.one26 rfl) ?_
 refine jT 2 rfl (Yl.move rfl) ?_
 refine jT 3 rfl (Yl.bin rfl rfl (fun w => run_shl1 (by omega) _ _ _ w)) ?_
 refine jT 4 rfl (Yl.bin rfl rfl (fun w => run_or hc (Nat.pow_lt_pow_right (by decide) (show f < 32 by omega)) _ _ _ w)) ?_
 refine jT 5 rfl (Yl.fieldAddr0 F.fld130_2 rfl) ?_
 refine jA 6 rfl ?_
 refine WL.store1 F.one26 rfl rfl rfl jU jS ?_
 rotate_left
 subst h11
 refine WC.drawsL (by kernel_rfl) (FactsOk.cons (ds := [10]) (LoadOk.one (t := 5) (off := 1) rfl jM rfl) (FactsOk.cons (ds := [10]) (LoadOk.by (Y := fun w => w.cell? ⟨bw,0 + f * 2 + 0 * 1,none⟩ = some (.int .i64 0)) (fun w hS => by rw [show 0 + f * 2 + 0 * 1 = f * 2 + 0 by omega]; exact hS.oldc (hw0 (f * 2 + 0) (by omega)) (by simp))) (FactsOk.nil))) ?_
 refine jT 0 rfl (Yl.fieldAddr0 F.fld130_1 rfl) ?_
 refine jF 1 0 rfl rfl (Yl.load1 F.one2 rfl) ?_
 refine jT 2 rfl (Yl.move rfl) ?_
 refine jT 3 rfl (Yl.move rfl) ?_
 refine jT 4 rfl (Yl.nilCheck rfl) ?_
 refine jT 5 rfl (Yl.indexAddrA F.arT135 rfl rfl hf) ?_
 refine jT 6 rfl (Yl.indexAddrA (i := 0) arT2 rfl rfl (by decide)) ?_
 refine jF 7 1 rfl rfl (Yl.load1 F.one2 rfl) ?_
 refine jT 8 rfl (Yl.add rfl rfl ⟨by omega,by omega⟩) ?_
 refine jT 9 rfl (Yl.fieldAddr0 F.fld130_1 rfl) ?_
 refine jA 10 rfl ?_
 refine WL.store1 F.one2 rfl rfl rfl jU jS ?_
 rotate_left
 all_goals
  refine jG ?_
  refine jD ?_
  refine jN 10 ?_
  exact WQ.ret (rs := [.cell 8 130]) rfl (.cellN F.agg130 rfl jM rfl .nil) (fun w hS => ⟨rfl,hS.sublist (List.nil_sublist _)⟩)
structure Fold4G (σ τ : Type) where
 i : Nat
 out : List τ
 ad : Option Addr
 ac : Nat
 s : σ
section
variable {τ : Type} (f1 f2 f3 f4 : τ → Value)
abbrev e4 (x : τ) : List Value := [f1 x,f2 x,f3 x,f4 x]
def e4s (l : List τ) : List Value := l.flatMap (e4 f1 f2 f3 f4)
variable {f1 f2 f3 f4}
theorem e4s_append (l m : List τ) : e4s f1 f2 f3 f4 (l ++ m) = e4s f1 f2 f3 f4 l ++ e4s f1 f2 f3 f4 m := by simp [e4s]
theorem e4s_one (x : τ) : e4s f1 f2 f3 f4 [x] = e4 f1 f2 f3 f4 x := by simp [e4s]
theorem e4s_at : ∀ {l : List τ} {k : Nat} {x : τ},l[k]? = some x → ∀ j u,(e4 f1 f2 f3 f4 x)[j]? = some u → (e4s f1 f2 f3 f4 l)[k * 4 + j]? = some u
 | [],k,x,h,_,_,_ => by simp at h
 | y :: l,0,x,h,j,u,hj => by
  simp only [List.getElem?_cons_zero,Option.some.injEq] at h
  subst h
  have hjl := (List.getElem?_eq_some_iff.1 hj).1
  show (e4 f1 f2 f3 f4 y ++ e4s f1 f2 f3 f4 l)[0 * 4 + j]? = _
  rw [Nat.zero_mul,Nat.zero_add,List.getElem?_append_left hjl]
  exact hj
 | y :: l,k + 1,x,h,j,u,hj => by
  simp only [List.getElem?_cons_succ] at h
  have ih := e4s_at h j u hj
  show (e4 f1 f2 f3 f4 y ++ e4s f1 f2 f3 f4 l)[(k + 1) * 4 + j]? = _
  rw [List.getElem?_append_right (by simp; omega)]
  simp only [List.length_cons,List.length_nil]
  rw [show (k + 1) * 4 + j - (0 + 1 + 1 + 1 + 1) = k * 4 + j by omega]
  exact ih
end
theorem FoldC_c {σ τ : Type} (f1 f2 f3 f4 : τ → Value) (ho : ∀ x,∀ u ∈ e4 f1 f2 f3 f4 x,u.oneCell' = true) (ch : σ → Chunk) (Fs : σ → List Nat) (hF : ∀ s,FpIs (ch s) (Fs s)) (fj : Nat) (hg : funB Tryz.prog fj = some true) (us cap : List Value) (l : List Dec) (a : Option Addr) (c root : Nat) (e0 e1 : τ) (I : List τ → σ → Prop)
  (hll : l.length ≤ 16777216) (hkid : ∀ k x,l[k]? = some x → x.2.1 < k + 2 ∧ x.2.2 < k + 2) (hroot : root < l.length + 2) (s0 : σ) (h0 : I [e0,e1] s0) (w : World)
  (hj : ∀ (out : List τ) (s : σ) (x : Dec) (z1 z2 : τ) (w1 : World),l[out.length - 2]? = some x → I out s → out[x.2.1]? = some z1 → out[x.2.2]? = some z2 → St w (Fs s0) [] w1 → St w1 (Fs s) [ch s] w1 →
   Calls Tryz.prog fj (us ++ [Value.int .i64 (x.1 : Int),.agg (e4 f1 f2 f3 f4 z1).toArray,.agg (e4 f1 f2 f3 f4 z2).toArray] ++ cap).toArray w1 fun e w' => ∃ y : { y : σ × τ // I (out ++ [y.2]) y.1 },e = .returned (.agg (e4 f1 f2 f3 f4 y.1.2).toArray) ∧ St w1 (Fs s) [ch y.1.1] w')
  (hrd : RdDecO w l a (Fs s0)) (hS0 : St w (Fs s0) [ch s0] w) :
  Calls Tryz.prog 132 [.agg [.slice a l.length c,.int .i64 (root : Int)].toArray,.agg (e4 f1 f2 f3 f4 e0).toArray,.agg (e4 f1 f2 f3 f4 e1).toArray,Value.func (.func fj) us.toArray cap.toArray].toArray w fun e w' =>
   ∃ y : { y : List τ × σ × τ // I y.1 y.2.1 ∧ y.1.length = l.length + 2 ∧ y.1[root]? = some y.2.2 },e = .returned (.agg (e4 f1 f2 f3 f4 y.1.2.2).toArray) ∧ St w (Fs s0) [ch y.1.2.1] w' := by
 refine enter Tryz.func132 rfl Tryz.ntmps132 rfl (C := [ch s0]) hS0 ?_
 refine jN 3 ?_
 refine WL.boxN rfl rfl (fun b4 => ?_)
 refine jN 1 ?_
 refine WL.boxN rfl rfl (fun b5 => ?_)
 refine jN 1 ?_
 refine WL.boxN rfl rfl (fun b6 => ?_)
 refine jN 1 ?_
 refine WL.alloc F.zero130 rfl (fun b8 => ?_)
 refine jN 9 ?_
 refine WL.buildSlice F.sl225 F.ez225 rfl rfl rfl rfl jB rfl (fun b14 => ?_)
 refine jN 18 ?_
 refine WC.chunks (C' := [ch s0,rowc (.slice (some ⟨b14,0,none⟩) 2 2) 2 130 4 (e4s f1 f2 f3 f4 [e0,e1]),pt b4 [.slice a l.length c,.int .i64 (root : Int)] 35,pt b8 [.int .i64 0,.int .i64 0,.int .u32 0,.bool false] 130]) (fun w hS => ?_) ?_
 ·have hS1 := St.rowOf (n := 2) (sz := 4) (cs := e4s f1 f2 f3 f4 [e0,e1]) (hS.pick (c := pt b14 [f1 e0,f2 e0,f3 e0,f4 e0,f1 e1,f2 e1,f3 e1,f4 e1] 130) jR) rfl (by decide)
  exact (jK hS1)
 refine WC.loop (α := Fold4G σ τ) (fun g => g.i ≤ l.length ∧ g.out.length = g.i + 2 ∧ I g.out g.s) (fun g => [(3,Value.func (.func fj) us.toArray cap.toArray),(4,pp b4),(8,pp b8),(9,.slice g.ad (g.i + 2) g.ac),(16,.slice a l.length c),(17,.int .i64 (l.length : Int)),(18,.int .i64 (g.i : Int))]) (fun g => [ch g.s,rowc (.slice g.ad (g.i + 2) g.ac) (g.i + 2) 130 4 (e4s f1 f2 f3 f4 g.out),pt b4 [.slice a l.length c,.int .i64 (root : Int)] 35,pt b8 [.int .i64 0,.int .i64 0,.int .u32 0,.bool false] 130]) (fun g => l.length - g.i) (⟨0,[e0,e1],some ⟨b14,0,none⟩,2,s0⟩) ?_ ?_ ?_ ?_
 ·exact ⟨Nat.zero_le _,rfl,h0⟩
 ·exact ⟨rfl,rfl,rfl,rfl,rfl,rfl,rfl,trivial⟩
 ·rfl
 rintro ⟨i,out,ad,ac,s⟩ ⟨hi,hol,hI⟩
 dsimp only at hi hol hI
 show WC _ _ _ _ _ _ _ [(3,Value.func (.func fj) us.toArray cap.toArray),(4,pp b4),(8,pp b8),(9,.slice ad (i + 2) ac),(16,.slice a l.length c),(17,.int .i64 (l.length : Int)),(18,.int .i64 (i : Int))] [ch s,rowc (.slice ad (i + 2) ac) (i + 2) 130 4 (e4s f1 f2 f3 f4 out),pt b4 [.slice a l.length c,.int .i64 (root : Int)] 35,pt b8 [.int .i64 0,.int .i64 0,.int .u32 0,.bool false] 130]
 refine jN 7 ?_
 refine WC.cond rfl (fun h19 => ?_) (fun h19 => ?_)
 ·have hlt : i < l.length := by simpa using h19
  obtain ⟨x,hx⟩ : ∃ x,l[i]? = some x := ⟨_,List.getElem?_eq_getElem hlt⟩
  obtain ⟨k1,k2⟩ := hkid i x hx
  obtain ⟨bl,off,rfl,hbl,hcx⟩ := hrd.at hx
  obtain ⟨z1,hz1⟩ : ∃ z,out[x.2.1]? = some z := ⟨_,List.getElem?_eq_getElem (by omega)⟩
  obtain ⟨z2,hz2⟩ : ∃ z,out[x.2.2]? = some z := ⟨_,List.getElem?_eq_getElem (by omega)⟩
  refine jN 7 ?_
  refine WL.indexAddr F.sl33 rfl rfl rfl hlt ?_
  refine jN 1 ?_
  refine WL.loadN F.agg104 rfl rfl (vs := [Value.int .i64 (x.1 : Int),.int .i64 (x.2.1 : Int),.int .i64 (x.2.2 : Int)]) rfl (fun w hS j v hv => hS.oldc (hcx j v hv) hbl) ?_
  refine jN 1 ?_
  refine WL.alloc F.zero104 rfl (fun b11 => ?_)
  refine jN 4 ?_
  refine WC.know (φ := ∃ g2,ad = some ⟨g2,0,none⟩ ∧ i + 2 = i + 2 ∧ i + 2 ≤ ac) (fun w hS => rowc_addr (hS.ok (rowc (.slice ad (i + 2) ac) (i + 2) 130 4 (e4s f1 f2 f3 f4 out)) jM) (by omega)) (fun ⟨g2,hg2,_,_⟩ => ?_)
  subst hg2
  refine WC.drawsL (by kernel_rfl) (FactsOk.cons (ds := [14,15,16]) (LoadOk.one (t := 11) (off := 0) rfl jM rfl) (FactsOk.cons (ds := [14,15,16]) (LoadOk.one (t := 11) (off := 1) rfl jM rfl) (FactsOk.cons (ds := [14,15,16]) (LoadOk.by (Y := fun w => ∀ j v,(e4 f1 f2 f3 f4 z1)[j]? = some v → w.cell? ⟨g2,0 + x.2.1 * 4 + j,none⟩ = some v) (fun w hS => fun j v hv => (by rw [Nat.zero_add]; exact rowc_cells (hS.ok (rowc (.slice (some ⟨g2,0,none⟩) (i + 2) ac) (i + 2) 130 4 (e4s f1 f2 f3 f4 out)) jM) (e4s_at hz1 j v hv)))) (FactsOk.cons (ds := [14,15,16]) (LoadOk.one (t := 11) (off := 2) rfl jM rfl) (FactsOk.cons (ds := [14,15,16]) (LoadOk.by (Y := fun w => ∀ j v,(e4 f1 f2 f3 f4 z2)[j]? = some v → w.cell? ⟨g2,0 + x.2.2 * 4 + j,none⟩ = some v) (fun w hS => fun j v hv => (by rw [Nat.zero_add]; exact rowc_cells (hS.ok (rowc (.slice (some ⟨g2,0,none⟩) (i + 2) ac) (i + 2) 130 4 (e4s f1 f2 f3 f4 out)) jM) (e4s_at hz2 j v hv)))) (FactsOk.nil)))))) ?_
  refine jT 0 rfl (Yl.move rfl) ?_
  refine jT 1 rfl (Yl.move rfl) ?_
  refine jT 2 rfl (Yl.fieldAddr0 F.fld104_0 rfl) ?_
  refine jF 3 0 rfl rfl (Yl.load1 F.one3 rfl) ?_
  refine jT 4 rfl (Yl.move rfl) ?_
  refine jT 5 rfl (Yl.fieldAddr0 F.fld104_1 rfl) ?_
  refine jF 6 1 rfl rfl (Yl.load1 F.one3 rfl) ?_
  refine jT 7 rfl (Yl.indexAddr F.sl225 rfl rfl (by omega)) ?_
  refine jF 8 2 rfl rfl (Yl.loadN F.agg130 rfl rfl) ?_
  refine jT 9 rfl (Yl.move rfl) ?_
  refine jT 10 rfl (Yl.fieldAddr0 F.fld104_2 rfl) ?_
  refine jF 11 3 rfl rfl (Yl.load1 F.one3 rfl) ?_
  refine jT 12 rfl (Yl.indexAddr F.sl225 rfl rfl (by omega)) ?_
  refine jF 13 4 rfl rfl (Yl.loadN F.agg130 rfl rfl) ?_
  refine jA 14 rfl ?_
  refine WL.callFC (β := { y : σ × τ // I (out ++ [y.2]) y.1 }) (us := us) (cap := cap) (res := fun y => .agg (e4 f1 f2 f3 f4 y.1.2).toArray) (cs := fun y => [ch y.1.1]) (Cs := [ch s]) (C1 := [pt b11 [Value.int .i64 (x.1 : Int),.int .i64 (x.2.1 : Int),.int .i64 (x.2.2 : Int)] 104,rowc (.slice (some ⟨g2,0,none⟩) (i + 2) ac) (i + 2) 130 4 (e4s f1 f2 f3 f4 out),pt b4 [.slice (some ⟨bl,off,none⟩) l.length c,.int .i64 (root : Int)] 35,pt b8 [.int .i64 0,.int .i64 0,.int .u32 0,.bool false] 130]) (O' := Fs s) hg (fun d h => by cases h; rfl) rfl rfl ?_ (fun c hc k hk => (by rw [List.mem_singleton.1 hc] at hk; exact (hF s k).1 hk)) (fun k hk => ⟨_,List.mem_singleton.2 rfl,(hF s k).2 hk⟩) (fun w hS hS2 => hj out s x z1 z2 w (by rw [hol]; simpa using hx) hI hz1 hz2 (hS.sublist (List.nil_sublist _)) hS2) (fun y36 => ?_)
  ·exact ((List.Perm.swap _ _ _).trans (List.Perm.refl _))
  refine jG ?_
  refine jA 15 rfl ?_
  refine WL.buildSlice F.sl225 F.ez225 rfl rfl rfl rfl jB rfl (fun b37 => ?_)
  refine jG ?_
  refine jA 16 rfl ?_
  refine WL.appendE (news := (e4 f1 f2 f3 f4 y36.1.2)) F.el225 rfl rfl rfl jR (fun w hS jj u hu => by rw [Nat.zero_add]; exact hS.cell (cs := (e4 f1 f2 f3 f4 y36.1.2)) jM hu) rfl (ho _) (Nat.le_trans (m := 33554432) (by omega) (by decide)) (by omega) (fun ad2 ac2 => ?_)
  refine jG ?_
  refine jT 17 rfl (Yl.assign rfl) ?_
  refine jD ?_
  refine jN 8 ?_
  refine WQ.chunks (C' := [ch y36.1.1,rowc (.slice ad2 (i + 1 + 2) ac2) (i + 1 + 2) 130 4 (e4s f1 f2 f3 f4 (out ++ [y36.1.2])),pt b4 [.slice (some ⟨bl,off,none⟩) l.length c,.int .i64 (root : Int)] 35,pt b8 [.int .i64 0,.int .i64 0,.int .u32 0,.bool false] 130]) (fun w hS => ?_) ?_
  ·rw [e4s_append,e4s_one]
   exact (jK hS)
  refine WQ.back (⟨i + 1,out ++ [y36.1.2],ad2,ac2,y36.1.1⟩) ?_ ?_ ?_ ?_
  ·exact ⟨by show i + 1 ≤ _; omega,by simp [hol],y36.2⟩
  ·(show l.length - (i + 1) < l.length - i; omega)
  ·exact ⟨rfl,rfl,rfl,rfl,rfl,rfl,rfl,trivial⟩
  rfl
 have hie : i = l.length := by simp at h19; omega
 subst hie
 obtain ⟨z,hz⟩ : ∃ z,out[root]? = some z := ⟨_,List.getElem?_eq_getElem (by omega)⟩
 refine jN 7 ?_
 refine WA.know (φ := ∃ g2,ad = some ⟨g2,0,none⟩ ∧ l.length + 2 = l.length + 2 ∧ l.length + 2 ≤ ac) (fun w hS => rowc_addr (hS.ok (rowc (.slice ad (l.length + 2) ac) (l.length + 2) 130 4 (e4s f1 f2 f3 f4 out)) jM) (by omega)) (fun ⟨g2,hg2,_,_⟩ => ?_)
 subst hg2
 refine jN 7 ?_
 refine WL.indexAddr F.sl225 rfl rfl rfl (by omega) ?_
 refine jN 1 ?_
 refine WL.loadN F.agg130 rfl rfl (vs := (e4 f1 f2 f3 f4 z)) rfl (fun w hS j v hv => by rw [Nat.zero_add]; exact rowc_cells (hS.ok (rowc (.slice (some ⟨g2,0,none⟩) (l.length + 2) ac) (l.length + 2) 130 4 (e4s f1 f2 f3 f4 out)) jM) (e4s_at hz j v hv)) ?_
 refine jN 1 ?_
 refine WL.storeN (cs' := (e4 f1 f2 f3 f4 z)) F.agg130 rfl rfl rfl (ho _) jU (by repeat constructor) ?_
 refine jN 3 ?_
 refine WQ.ret (rs := [.cell 8 130]) rfl (.cellN F.agg130 rfl jM rfl .nil) (fun w hS => ⟨⟨(out,s,z),hI,hol,hz⟩,rfl,(jK hS)⟩)
end Go.Proofs.YtkgllhkhdjodeaaGreat
namespace Go.Eng
open Go Go.RowKit
section
variable {w0 : World} {O : List Nat} {C : List Chunk} {E : List Nat}
end
end Go.Eng
namespace Go.Proofs.YtkgllhkhdjodeaaGreat
open Go Go.Eng Go.Proofs
open Go Go.Eng Go.Proofs Dg
def shapeT (x lo hi : Tree) : Tree :=
 if hi.op = 2 ∧ lo.op = 1 then x
 else if hi.op = 1 ∧ lo.op = 2 then .mk 4 [] [x]
 else if lo.op = 1 then .mk 5 [] [x,hi]
 else if hi.op = 2 then .mk 6 [] [x,lo]
 else if hi.op = 1 then .mk 5 [] [.mk 4 [] [x],lo]
 else if lo.op = 2 then .mk 6 [] [.mk 4 [] [x],hi]
 else .mk 10 [] [x,hi,lo]
abbrev nT (t : Tree) : Nat := (Fm.rowT t).length
def ofT (names : List (List UInt8)) : BT → Tree
 | .lf b => .mk (bif b then 2 else 1) [] []
 | .nd v lo hi => shapeT (.mk 3 (names.getD v []) []) (ofT names lo) (ofT names hi)
def subT (s : BT) : BT → Prop
 | .lf b => s = .lf b
 | .nd v lo hi => s = .nd v lo hi ∨ subT s lo ∨ subT s hi
theorem visitT_sub : ∀ (t : BT) (out : List Dec) (p : Nat),p < (visitT t out).1.length + 2 → p < out.length + 2 ∨ subT (trs (visitT t out).1 p) t
 | .lf b,out,p,h => .inl h
 | .nd v lo hi,out,p,h => by
  unfold visitT at h ⊢
  cases hl : Dg.look out (BT.nd v lo hi) with
  | some q => rw [hl] at h; exact .inl h
  | none =>
   rw [hl] at h
   simp only [List.length_append,List.length_cons,List.length_nil] at h ⊢
   by_cases hp : p = (visitT hi (visitT lo out).1).1.length + 2
   ·right
    subst hp
    obtain ⟨a1,a2⟩ := visitT_at lo out
    obtain ⟨b1,b2⟩ := visitT_at hi (visitT lo out).1
    obtain ⟨r,hr⟩ := visitT_pre hi (visitT lo out).1
    rw [trs_snoc_new,b2]
    have : trs (visitT hi (visitT lo out).1).1 (visitT lo out).2 = lo := by rw [hr,trs_append a1,a2]
    simp only [this]
    exact .inl rfl
   ·have hp' : p < (visitT hi (visitT lo out).1).1.length + 2 := by omega
    rw [trs_snoc_old hp']
    rcases visitT_sub hi (visitT lo out).1 p hp' with h2 | h2
    ·rcases visitT_sub lo out p h2 with h3 | h3
     ·exact .inl h3
     ·obtain ⟨r,hr⟩ := visitT_pre hi (visitT lo out).1
      rw [hr,trs_append h2]
      exact .inr (.inr (.inl h3))
    ·exact .inr (.inr (.inr h2))
theorem canon_sub {t : BT} {k : Nat} (hk : k < (canon t).1.length) : subT (trs (canon t).1 (k + 2)) t := by
 rcases visitT_sub t [] (k + 2) (by have : (visitT t []).1.length = (canon t).1.length := rfl; omega) with h | h
 ·exfalso
  have e : ([] : List Dec).length = 0 := rfl
  omega
 exact h
theorem subT_ok : ∀ {t s : BT} {m : Nat},t.ok m → subT s t → s.ok m
 | .lf b,s,m,h,hs => by rw [show s = .lf b from hs]; trivial
 | .nd v lo hi,s,m,h,hs => by
  rcases hs with rfl | hs | hs
  ·exact h
  ·exact BT.ok_mono (subT_ok h.2.2.2.1 hs) (Nat.le_succ_of_le h.1)
  ·exact BT.ok_mono (subT_ok h.2.2.2.2 hs) (Nat.le_succ_of_le h.1)
theorem rd_none {w : World} {l : List Dec} {a : Option Addr} (h : RdDec w l a) : RdDecO w l a [] := fun j u hu => by
 obtain ⟨b,off,e1,e2⟩ := h j u hu
 exact ⟨b,off,e1,e2,by simp⟩
end Go.Proofs.YtkgllhkhdjodeaaGreat
namespace Go.Eng
open Go Go.RowKit
section
variable {P : Program} {kt : TypeId}
theorem run_equal3 {f0 f1 f2 : Field} (hu : P.underlying kt = some (.struct #[f0,f1,f2])) (h0 : IntF P f0 0) (h1 : IntF P f1 1) (h2 : IntF P f2 2) (hs : P.stoodInHeld kt = false) (a b : Nat × Nat × Nat) (w : World) : (Op.equal kt (enc3 a) (enc3 b)).run P w = .ok (decide (b = a)) w := by
 obtain ⟨a1,a2,a3⟩ := a
 obtain ⟨b1,b2,b3⟩ := b
 unfold enc3
 simp only
 show (Op.equalIn (9998 + 1 + 1) kt _ _).run P w = _
 rw [Op.equalIn]
 simp only [Sem.run_bind,run_underlying hu,Result.andThen_ok]
 have p0 := run_part_plain w h0.plain (xs := #[.int .i64 (a1 : Int),.int .i64 (a2 : Int),.int .i64 (a3 : Int)]) (off := 0) (v := .int .i64 (a1 : Int)) rfl
 have p1 := run_part_plain w h1.plain (xs := #[.int .i64 (a1 : Int),.int .i64 (a2 : Int),.int .i64 (a3 : Int)]) (off := 1) (v := .int .i64 (a2 : Int)) rfl
 have p2 := run_part_plain w h2.plain (xs := #[.int .i64 (a1 : Int),.int .i64 (a2 : Int),.int .i64 (a3 : Int)]) (off := 2) (v := .int .i64 (a3 : Int)) rfl
 have q0 := run_part_plain w h0.plain (xs := #[.int .i64 (b1 : Int),.int .i64 (b2 : Int),.int .i64 (b3 : Int)]) (off := 0) (v := .int .i64 (b1 : Int)) rfl
 have q1 := run_part_plain w h1.plain (xs := #[.int .i64 (b1 : Int),.int .i64 (b2 : Int),.int .i64 (b3 : Int)]) (off := 1) (v := .int .i64 (b2 : Int)) rfl
 have q2 := run_part_plain w h2.plain (xs := #[.int .i64 (b1 : Int),.int .i64 (b2 : Int),.int .i64 (b3 : Int)]) (off := 2) (v := .int .i64 (b3 : Int)) rfl
 have e0 := run_equal_int h0.int 9998 (a1 : Int) (b1 : Int) w
 have e1 := run_equal_int h1.int 9998 (a2 : Int) (b2 : Int) w
 have e2 := run_equal_int h2.int 9998 (a3 : Int) (b3 : Int) w
 simp only [run_program,Sem.run_bind,Result.andThen_ok,hs,Bool.false_eq_true,if_false]
 rw [← Array.forIn_toList]
 simp only [List.forIn_cons,List.forIn_nil,h0.name,h1.name,h2.name,h0.offset,h1.offset,h2.offset,ne_eq,not_false_eq_true,if_true,Sem.run_bind,p0,q0,e0,Result.andThen_ok]
 cases c0 : ((a1 : Int) == (b1 : Int)) with
 | false =>
  have : ¬ ((b1,b2,b3) = (a1,a2,a3)) := by
   simp only [beq_eq_false_iff_ne,ne_eq] at c0
   simp only [Prod.mk.injEq]; omega
  simp [this]
 | true =>
  simp only [Bool.not_true,Bool.false_eq_true,if_false,Sem.run_bind,Sem.run_pure,Result.andThen_ok,p1,q1,e1]
  cases c1 : ((a2 : Int) == (b2 : Int)) with
  | false =>
   have : ¬ ((b1,b2,b3) = (a1,a2,a3)) := by
    simp only [beq_eq_false_iff_ne,ne_eq] at c1
    simp only [Prod.mk.injEq]; omega
   simp [this]
  | true =>
   simp only [Bool.not_true,Bool.false_eq_true,if_false,Sem.run_bind,Sem.run_pure,Result.andThen_ok,p2,q2,e2]
   cases c2 : ((a3 : Int) == (b3 : Int)) with
   | false =>
    have : ¬ ((b1,b2,b3) = (a1,a2,a3)) := by
     simp only [beq_eq_false_iff_ne,ne_eq] at c2
     simp only [Prod.mk.injEq]; omega
    simp [this]
   | true =>
    have : (b1,b2,b3) = (a1,a2,a3) := by
     simp only [beq_iff_eq] at c0 c1 c2
     simp only [Prod.mk.injEq]; omega
    simp [this]
theorem run_equal3Of (h : threeB P kt = true) (a b : Nat × Nat × Nat) (w : World) : (Op.equal kt (enc3 a) (enc3 b)).run P w = .ok (decide (b = a)) w := by
 unfold threeB at h
 split at h
 ·rename_i fs hu
  split at h
  ·rename_i f0 f1 f2 he
   simp only [Bool.and_eq_true,Bool.not_eq_true'] at h
   exact run_equal3 (by rw [hu]) (IntF.of h.1.1.1) (IntF.of h.1.1.2) (IntF.of h.1.2) h.2 a b w
  cases h
 cases h
theorem run_neq3 (h : threeB P kt = true) (hg : P.eqGuardType P.depth kt = false) (a b : Nat × Nat × Nat) (x y : Operand) (w : World) :
  (do eqGuard .neq kt x y (enc3 a) (enc3 b); binOp .neq kt (enc3 a) (enc3 b) : Sem Value).run P w = .ok (.bool (!(decide (b = a)))) w := by
 have e := run_equal3Of h a b w
 simp only [enc3] at e ⊢
 simp [eqGuard,binOp,hg,e]
end
end Go.Eng
namespace Go.Proofs.YtkgllhkhdjodeaaGreat
open Go Go.Eng Go.Proofs Dg
theorem EqD_c (l : List Dec) (a a2 : Option Addr) (c c2 : Nat) (hll : l.length ≤ 1099511627776) (w : World) (hr : RdDec w l a) (hr2 : RdDec w l a2) : Pure Tryz.prog 82 [.slice a l.length c,.slice a2 l.length c2] w (.bool true) := by
 refine enter Tryz.func82 rfl Tryz.ntmps82 rfl (St.init _) ?_
 refine jN 21 ?_
 refine WC.cond rfl (fun h10 => ?_) (fun h10 => ?_)
 ·simp at h10
 refine jN 14 ?_
 refine WC.loop (α := Nat) (fun i => i ≤ l.length) (fun i => [(0,.slice a l.length c),(1,.slice a2 l.length c2),(12,.int .i64 (l.length : Int)),(13,.int .i64 (i : Int))]) (fun _ => []) (fun i => l.length - i) (0) ?_ ?_ ?_ ?_
 ·exact Nat.zero_le _
 ·exact ⟨rfl,rfl,rfl,rfl,trivial⟩
 ·rfl
 rintro i hi
 refine jN 7 ?_
 refine WC.cond rfl (fun h14 => ?_) (fun h14 => ?_)
 ·have hlt : i < l.length := by simpa using h14
  obtain ⟨x,hx⟩ : ∃ y,l[i]? = some y := ⟨_,List.getElem?_eq_getElem hlt⟩
  obtain ⟨b,off,rfl,hcell⟩ := hr.at hx
  obtain ⟨b2,off2,rfl,hcell2⟩ := hr2.at hx
  refine jN 13 ?_
  refine WC.drawsL (by kernel_rfl) (FactsOk.cons (ds := []) (LoadOk.by (Y := fun w => ∀ j v,[Value.int .i64 (x.1 : Int),.int .i64 (x.2.1 : Int),.int .i64 (x.2.2 : Int)][j]? = some v → w.cell? ⟨b,off + i * 3 + j,none⟩ = some v) (fun w hS => fun j v hv => hS.oldc (hcell j v hv) (by simp))) (FactsOk.cons (ds := []) (LoadOk.by (Y := fun w => ∀ j v,[Value.int .i64 (x.1 : Int),.int .i64 (x.2.1 : Int),.int .i64 (x.2.2 : Int)][j]? = some v → w.cell? ⟨b2,off2 + i * 3 + j,none⟩ = some v) (fun w hS => fun j v hv => hS.oldc (hcell2 j v hv) (by simp))) (FactsOk.nil))) ?_
  refine jT 0 rfl (Yl.move rfl) ?_
  refine jT 1 rfl (Yl.move rfl) ?_
  refine jT 2 rfl (Yl.indexAddr F.sl33 rfl rfl hlt) ?_
  refine jF 3 0 rfl rfl (Yl.loadN F.agg104 rfl rfl) ?_
  refine jT 4 rfl (Yl.move rfl) ?_
  refine jT 5 rfl (Yl.move rfl) ?_
  refine jT 6 rfl (Yl.indexAddr F.sl33 rfl rfl hlt) ?_
  refine jF 7 1 rfl rfl (Yl.loadN F.agg104 rfl rfl) ?_
  refine jT 8 rfl (Yl.bin rfl rfl (fun w => run_neq3 (by kernel_rfl) (by kernel_rfl) x x _ _ w)) ?_
  refine jD ?_
  refine jN 1 ?_
  refine WC.cond rfl (fun h24 => ?_) (fun h24 => ?_)
  ·simp at h24
  refine jN 9 ?_
  refine WQ.back (i + 1) ?_ ?_ ?_ ?_
  ·exact (by omega)
  ·omega
  ·exact ⟨rfl,rfl,rfl,rfl,trivial⟩
  rfl
 refine jN 12 ?_
 exact WQ.ret (rs := [.tmp 4]) rfl (.tmp rfl .nil) (fun w hS => ⟨rfl,hS⟩)
theorem Same_c (t : BT) (a a2 : Option Addr) (c c2 : Nat) (w : World) (ht : RdD w t a) (ht2 : RdD w t a2) : Pure Tryz.prog 33 [dval t a c,dval t a2 c2] w (.bool true) := by
 have hcl := Nat.le_of_lt (canon_len ht.1)
 refine enter Tryz.func33 rfl Tryz.ntmps33 rfl (St.init _) ?_
 refine jN 3 ?_
 refine WL.boxN rfl rfl (fun b2 => ?_)
 refine jN 1 ?_
 refine WL.boxN rfl rfl (fun b3 => ?_)
 refine jN 18 ?_
 refine WA.splitB (i := 10) rfl (fun g10 => ?_) (fun g10 => ?_)
 ·refine jN 14 ?_
  refine WL.callV F.fun82 rfl rfl (fun w hS => EqD_c _ a a2 c c2 (Nat.le_trans hcl (by decide)) w (ht.next0 hS).2 (ht2.next0 hS).2) ?_
  refine jN 7 ?_
  exact WQ.ret (rs := [.tmp 4]) rfl (.tmp rfl .nil) (fun w hS => ⟨rfl,hS.sublist (List.nil_sublist _)⟩)
 exfalso; simp at g10
theorem clauseB_snoc (pre : List Int) (x : Int) (cf : Cf) : clauseB (pre ++ [x]) cf = (clauseB pre cf || litC cf x) := by simp [clauseB]
theorem litC_on (cf : Cf) (v : Nat) : litC cf ((v : Int) + 1) = cf v := by
 unfold litC
 rw [if_pos (by omega)]
 congr 1; omega
theorem litC_off (cf : Cf) (v : Nat) : litC cf (-((v : Int) + 1)) = !cf v := by
 unfold litC
 rw [if_neg (by omega)]
 congr 2; omega
theorem paths_all : ∀ (t : BT) (pre : List Int) (cf : Cf),(pathsT t pre).all (fun k => clauseB k cf) = (t.ev cf || clauseB pre cf)
 | .lf b,pre,cf => by cases b <;> simp [pathsT,BT.ev]
 | .nd v lo hi,pre,cf => by
  simp only [pathsT,List.all_append,paths_all lo,paths_all hi,clauseB_snoc,litC_on,litC_off,BT.ev]
  cases cf v <;> cases lo.ev cf <;> cases hi.ev cf <;> cases clauseB pre cf <;> rfl
theorem paths_set (t : BT) (cf : Cf) : (pathsT t []).all (fun k => clauseB k cf) = t.ev cf := by
 rw [paths_all]; simp [clauseB]
theorem paths_lit : ∀ {t : BT} {m : Nat} {pre : List Int},t.ok m → ∀ c ∈ pathsT t pre,∀ x ∈ c,x ∈ pre ∨ (x ≠ 0 ∧ -24 ≤ x ∧ x ≤ 24)
 | .lf b,m,pre,_,c,hc,x,hx => by
  cases b
  ·have : c = pre := by simpa [pathsT] using hc
   exact .inl (this ▸ hx)
  ·simp [pathsT] at hc
 | .nd v lo hi,m,pre,h,c,hc,x,hx => by
  have hv := h.2.1
  rcases List.mem_append.1 hc with hc | hc
  ·rcases paths_lit h.2.2.2.1 c hc x hx with h1 | h1
   ·rcases List.mem_append.1 h1 with h1 | h1
    ·exact .inl h1
    ·rw [List.mem_singleton.1 h1]; right; omega
   ·exact .inr h1
  ·rcases paths_lit h.2.2.2.2 c hc x hx with h1 | h1
   ·rcases List.mem_append.1 h1 with h1 | h1
    ·exact .inl h1
    ·rw [List.mem_singleton.1 h1]; right; omega
   ·exact .inr h1
theorem paths_may {t : BT} (ho : t.ok 0) (hn : pathsN t ≤ 4096) (hlen : ∀ c ∈ pathsT t [],c.length ≤ 24) : Fm.mayE 24 (pathsT t []) = 0 := by
 unfold Fm.mayE
 rw [if_neg (by omega),if_neg (by rw [pathsT_len]; omega),if_pos]
 refine List.all_eq_true.2 fun c hc => ?_
 have h1 := hlen c hc
 simp only [Fm.fitsB,Bool.and_eq_true,decide_eq_true_eq,List.all_eq_true,Fm.litB,Bool.not_eq_true',beq_eq_false_iff_ne]
 refine ⟨by omega,fun x hx => ?_⟩
 rcases paths_lit ho c hc x hx with h2 | h2
 ·cases h2
 exact ⟨⟨h2.1,by omega⟩,by omega⟩
theorem paths_abs {t : BT} (ho : t.ok 0) : ∀ c ∈ pathsT t [],∀ x ∈ c,x ≠ 0 ∧ x.natAbs ≤ 24 := fun c hc x hx => by
 rcases paths_lit ho c hc x hx with h2 | h2
 ·cases h2
 ·omega
def pickB (a b : Nat × Bool) : Nat × Bool := if (!a.2 || (b.2 && decide (b.1 < a.1))) = true then b else a
def bestT : BT → Nat × Bool
 | .lf b => (0,b)
 | .nd v lo hi => pickB (bestT lo) ((bestT hi).1 ||| 2 ^ v,(bestT hi).2)
structure BestOk (m : Nat) (t : BT) (x : Nat × Bool) : Prop where
 dvd : 2 ^ m ∣ x.1
 lt : x.1 < 2 ^ 24
 yes : x.2 = true → t.ev (cfg x.1) = true ∧ ∀ M,t.ev (cfg M) = true → x.1 ≤ M
 no : x.2 = false → ∀ cf,t.ev cf = false
theorem low_false {m c j : Nat} (h : 2 ^ m ∣ c) (hj : j < m) : c.testBit j = false := by
 obtain ⟨q,rfl⟩ := h
 rw [Nat.testBit_two_pow_mul]
 simp; omega
theorem or_add {v c : Nat} (h : 2 ^ (v + 1) ∣ c) : c ||| 2 ^ v = c + 2 ^ v := by
 obtain ⟨q,rfl⟩ := h
 exact (Nat.two_pow_add_eq_or_of_lt (Nat.pow_lt_pow_right (by decide) (Nat.lt_succ_self v)) q).symm
theorem best_ok : ∀ {t : BT} {m : Nat},t.ok m → m ≤ 24 → BestOk m t (bestT t)
 | .lf b,m,_,_ => by
  refine ⟨⟨0,by simp [bestT]⟩,by simp [bestT],fun h => ⟨h,fun M _ => Nat.zero_le _⟩,fun h cf => h⟩
 | .nd v lo hi,m,h,hm => by
  obtain ⟨h1,h2,h3,h4,h5⟩ := h
  have a := best_ok h4 (by omega)
  have b := best_ok h5 (by omega)
  have hdv : 2 ^ m ∣ 2 ^ (v + 1) := Nat.pow_dvd_pow 2 (by omega)
  have hor := or_add b.dvd
  have hb0 : (bestT lo).1.testBit v = false := low_false a.dvd (Nat.lt_succ_self v)
  have hb1 : ((bestT hi).1 ||| 2 ^ v).testBit v = true := by rw [or_pow_testBit]; simp
  have elo : (BT.nd v lo hi).ev (cfg (bestT lo).1) = lo.ev (cfg (bestT lo).1) := by
   simp only [BT.ev]
   rw [show cfg (bestT lo).1 v = false from hb0]; rfl
  have ehi : (BT.nd v lo hi).ev (cfg ((bestT hi).1 ||| 2 ^ v)) = hi.ev (cfg (bestT hi).1) := by
   simp only [BT.ev]
   rw [show cfg ((bestT hi).1 ||| 2 ^ v) v = true from hb1]
   refine BT.ev_above h5 fun i hi' _ => ?_
   show ((bestT hi).1 ||| 2 ^ v).testBit i = (bestT hi).1.testBit i
   rw [or_pow_testBit]
   simp; omega
  have mlo : (bestT lo).2 = true → ∀ M,M.testBit v = false → (BT.nd v lo hi).ev (cfg M) = true → (bestT lo).1 ≤ M := fun hy M hM he => by
   refine (a.yes hy).2 M ?_
   simp only [BT.ev] at he
   rw [show cfg M v = false from hM] at he
   exact he
  have mhi : (bestT hi).2 = true → ∀ M,M.testBit v = true → (BT.nd v lo hi).ev (cfg M) = true → ((bestT hi).1 ||| 2 ^ v) ≤ M := fun hy M hM he => by
   simp only [BT.ev] at he
   rw [show cfg M v = true from hM] at he
   have e1 : hi.ev (cfg (2 ^ (v + 1) * (M / 2 ^ (v + 1)))) = true := by
    rw [← he]
    refine BT.ev_above h5 fun i hi' _ => ?_
    show (2 ^ (v + 1) * (M / 2 ^ (v + 1))).testBit i = M.testBit i
    rw [Nat.testBit_two_pow_mul,Nat.testBit_div_two_pow]
    simp [show v + 1 ≤ i from hi']
   have e2 := (b.yes hy).2 _ e1
   rw [hor]
   have e3 : M % 2 ^ (v + 1) = M % 2 ^ v + 2 ^ v * (M / 2 ^ v % 2) := Nat.mod_pow_succ
   rw [Nat.testBit_eq_decide_div_mod_eq,decide_eq_true_eq] at hM
   rw [hM] at e3
   have e4 := Nat.div_add_mod M (2 ^ (v + 1))
   omega
  have nlo : (bestT lo).2 = false → ∀ M,M.testBit v = false → (BT.nd v lo hi).ev (cfg M) = false := fun hn M hM => by
   simp only [BT.ev]
   rw [show cfg M v = false from hM]
   exact a.no hn _
  have nhi : (bestT hi).2 = false → ∀ M,M.testBit v = true → (BT.nd v lo hi).ev (cfg M) = false := fun hn M hM => by
   simp only [BT.ev]
   rw [show cfg M v = true from hM]
   exact b.no hn _
  have hlt2 : (bestT hi).1 ||| 2 ^ v < 2 ^ 24 := Nat.or_lt_two_pow b.lt (Nat.pow_lt_pow_right (by decide) h2)
  have hd2 : 2 ^ m ∣ (bestT hi).1 ||| 2 ^ v := by
   rw [hor]
   exact Nat.dvd_add (Nat.dvd_trans hdv b.dvd) (Nat.pow_dvd_pow 2 h1)
  have hd1 := Nat.dvd_trans hdv a.dvd
  show BestOk m _ (pickB (bestT lo) ((bestT hi).1 ||| 2 ^ v,(bestT hi).2))
  unfold pickB
  cases q1 : (bestT lo).2 <;> cases q2 : (bestT hi).2
  ·refine ⟨hd2,hlt2,fun hy => ?_,fun _ cf => ?_⟩
   ·simp at hy
   ·simp only [BT.ev,a.no q1,b.no q2]; cases cf v <;> rfl
  ·refine ⟨hd2,hlt2,fun hy => ⟨?_,fun M hM => ?_⟩,fun hn => ?_⟩
   ·show (BT.nd v lo hi).ev (cfg ((bestT hi).1 ||| 2 ^ v)) = true
    rw [ehi]; exact (b.yes q2).1
   ·cases hv : M.testBit v with
    | true => exact mhi q2 M hv hM
    | false => rw [nlo q1 M hv] at hM; cases hM
   ·simp at hn
  ·refine ⟨hd1,a.lt,fun hy => ⟨?_,fun M hM => ?_⟩,fun hn => ?_⟩
   ·show (BT.nd v lo hi).ev (cfg (bestT lo).1) = true
    rw [elo]; exact (a.yes q1).1
   ·cases hv : M.testBit v with
    | false => exact mlo q1 M hv hM
    | true => rw [nhi q2 M hv] at hM; cases hM
   ·exact absurd hn (by simp [q1])
  ·simp only [Bool.not_true,Bool.false_or,Bool.true_and,decide_eq_true_eq]
   split
   ·rename_i hlt
    refine ⟨hd2,hlt2,fun hy => ⟨?_,fun M hM => ?_⟩,fun hn => ?_⟩
    ·show (BT.nd v lo hi).ev (cfg ((bestT hi).1 ||| 2 ^ v)) = true
     rw [ehi]; exact (b.yes q2).1
    ·show (bestT hi).1 ||| 2 ^ v ≤ M
     cases hv : M.testBit v with
     | true => exact mhi q2 M hv hM
     | false => have := mlo q1 M hv hM; omega
    ·simp at hn
   ·rename_i hlt
    refine ⟨hd1,a.lt,fun hy => ⟨?_,fun M hM => ?_⟩,fun hn => ?_⟩
    ·show (BT.nd v lo hi).ev (cfg (bestT lo).1) = true
     rw [elo]; exact (a.yes q1).1
    ·show (bestT lo).1 ≤ M
     cases hv : M.testBit v with
     | false => exact mlo q1 M hv hM
     | true => have := mhi q2 M hv hM; omega
    ·exact absurd hn (by simp [q1])
def leastT (t : BT) : Nat × Bool := if (bestT t).2 = true then (bestT t) else (0,false)
theorem good_least {t : BT} (ho : t.ok 0) {r : Fm.Ans} (hg : GoodS 24 (pathsT t []) r) : r.ok = (leastT t).2 ∧ r.model = (leastT t).1 := by
 have hb := best_ok ho (by decide)
 have hh : ∀ M,holdsB (pathsT t []) M = t.ev (cfg M) := fun M => by rw [holds_cf,paths_set]
 unfold leastT
 rcases hg with ⟨h1,_,h3,h4,h5⟩ | ⟨h1,h2,_,_,h5⟩
 ·rw [hh] at h4
  cases q : (bestT t).2 with
  | false => rw [hb.no q] at h4; cases h4
  | true =>
   have y := hb.yes q
   have e1 := h5 _ hb.lt (by rw [hh]; exact y.1)
   have e2 := y.2 _ h4
   rw [if_pos rfl]
   exact ⟨by rw [h1,q],by omega⟩
 cases q : (bestT t).2 with
 | false => rw [if_neg (by simp)]; exact ⟨h1,h2⟩
 | true =>
  have := h5 (bestT t).1
  rw [hh,(hb.yes q).1] at this
  cases this
end Go.Proofs.YtkgllhkhdjodeaaGreat
