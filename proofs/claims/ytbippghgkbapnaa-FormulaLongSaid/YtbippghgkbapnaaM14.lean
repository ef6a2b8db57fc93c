import Derived.Test.YtbippghgkbapnaaM13
import Derived.Test.YtbippghgkbapnaaSpec
import Derived.Test.YtbippghgkbapnaaFacts
set_option linter.unusedSimpArgs false
set_option linter.unusedVariables false
namespace Go.Proofs.Ytbippghgkbapnaa
open Go Go.Eng Go.Proofs
theorem pow32 {k : Nat} (h : k < 32) : 2 ^ k < 4294967296 := Nat.lt_of_lt_of_le (Nat.pow_lt_pow_right (by decide) h) (by decide)
theorem KB.with {k : Fm.Kn} {l : Int} (hk : KB k) (hl : l ≠ 0 ∧ -32 ≤ l ∧ l ≤ 32) : KB (Fm.withK k l) := by
  unfold Fm.withK
  split
  · exact ⟨Nat.or_lt_two_pow (n := 32) hk.1 (pow32 (by omega)), hk.2⟩
  · exact ⟨hk.1, Nat.or_lt_two_pow (n := 32) hk.2 (pow32 (by omega))⟩
abbrev Lit (l : Int) : Prop := l ≠ 0 ∧ -32 ≤ l ∧ l ≤ 32

theorem has_c (k : Fm.Kn) (l : Int) (hk : KB k) (hl : Lit l) (w : World) : Pure Try.prog 65 [kv k, .int .i64 l] w (.bool (Fm.hasK k l)) := by
  refine enter Try.func65 rfl Try.ntmps65 rfl (St.init _) ?_
  refine WC.seq ?_
  refine WC.region ?_
  refine WL.step ?_
  refine WL.boxN rfl rfl (fun b2 => ?_)
  refine WL.step ?_
  refine WL.assign rfl rfl ?_
  refine WL.nil ?_
  refine WQ.then_normal ?_
  refine WC.seq ?_
  refine WC.seq ?_
  refine WC.region ?_
  refine WL.step ?_
  refine WL.move rfl rfl ?_
  refine WL.step ?_
  refine WL.gtI rfl rfl rfl ?_
  refine WL.nil ?_
  refine WQ.then_normal ?_
  refine WC.cond rfl (fun h6 => ?_) (fun h6 => ?_)
  · skip
    have hp : 0 < l := by simpa using h6
    refine WC.seq ?_
    refine WC.region ?_
    refine WL.step ?_
    refine WL.fieldAddr0 F.fld103_0 rfl rfl ?_
    refine WL.step ?_
    refine WL.loadP F.one41 rfl rfl (by repeat (first | exact List.Mem.head _ | apply List.Mem.tail)) rfl ?_
    refine WL.step ?_
    refine WL.move rfl rfl ?_
    refine WL.step ?_
    refine WL.sub rfl rfl rfl ⟨by omega, by omega⟩ ?_
    refine WA.say 10 (.int .i64 (((l - 1).toNat : Nat) : Int)) (congrArg (fun z => some (Value.int .i64 z)) (show l - 1 = (((l - 1).toNat : Nat) : Int) by omega)) ?_
    refine WL.step ?_
    refine WL.bin (v := .int .u32 (((k.1 >>> (l - 1).toNat : Nat)) : Int)) rfl rfl rfl (fun w => run_shr (by omega) _ _ _ w) ?_
    refine WL.step ?_
    refine WL.bin (v := .int .u32 ((((k.1 >>> (l - 1).toNat) &&& 1 : Nat)) : Int)) rfl rfl rfl (fun w => run_and (Nat.lt_of_le_of_lt (Nat.shiftRight_le _ _) hk.1) (by decide) _ _ _ w) ?_
    refine WL.step ?_
    refine WL.eqI rfl rfl rfl ?_
    refine WL.step ?_
    refine WL.assign rfl rfl ?_
    refine WL.nil ?_
    refine WQ.then_normal ?_
    refine WC.ret ?_
    refine WQ.then_ret ?_
    refine WQ.ret (rs := [.tmp 4]) rfl (.tmp rfl .nil) (fun w hS => ⟨?_, hS.drop⟩)
    exact congrArg (fun b => Ending.returned (Value.bool b)) ((Fm.testBit_shift k.1 (l - 1).toNat).trans (by unfold Fm.hasK; rw [if_pos hp]))
  · skip
    have hp : ¬ 0 < l := by simpa using h6
    refine WC.skip ?_
    refine WQ.then_normal ?_
    refine WC.seq ?_
    refine WC.region ?_
    refine WL.step ?_
    refine WL.fieldAddr0 F.fld103_1 rfl rfl ?_
    refine WL.step ?_
    refine WL.loadP F.one41 rfl rfl (by repeat (first | exact List.Mem.head _ | apply List.Mem.tail)) rfl ?_
    refine WL.step ?_
    refine WL.move rfl rfl ?_
    refine WL.step ?_
    refine WL.negI rfl rfl (by omega) ?_
    refine WL.step ?_
    refine WL.sub rfl rfl rfl ⟨by omega, by omega⟩ ?_
    refine WA.say 18 (.int .i64 (((-l - 1).toNat : Nat) : Int)) (congrArg (fun z => some (Value.int .i64 z)) (show -l - 1 = (((-l - 1).toNat : Nat) : Int) by omega)) ?_
    refine WL.step ?_
    refine WL.bin (v := .int .u32 (((k.2 >>> (-l - 1).toNat : Nat)) : Int)) rfl rfl rfl (fun w => run_shr (by omega) _ _ _ w) ?_
    refine WL.step ?_
    refine WL.bin (v := .int .u32 ((((k.2 >>> (-l - 1).toNat) &&& 1 : Nat)) : Int)) rfl rfl rfl (fun w => run_and (Nat.lt_of_le_of_lt (Nat.shiftRight_le _ _) hk.2) (by decide) _ _ _ w) ?_
    refine WL.step ?_
    refine WL.eqI rfl rfl rfl ?_
    refine WL.step ?_
    refine WL.assign rfl rfl ?_
    refine WL.nil ?_
    refine WQ.then_normal ?_
    refine WC.ret ?_
    refine WQ.ret (rs := [.tmp 4]) rfl (.tmp rfl .nil) (fun w hS => ⟨?_, hS.drop⟩)
    exact congrArg (fun b => Ending.returned (Value.bool b)) ((Fm.testBit_shift k.2 (-l - 1).toNat).trans (by unfold Fm.hasK; rw [if_neg hp]))

theorem with_c (k : Fm.Kn) (l : Int) (hk : KB k) (hl : Lit l) (w : World) : Pure Try.prog 63 [kv k, .int .i64 l] w (kv (Fm.withK k l)) := by
  refine enter Try.func63 rfl Try.ntmps63 rfl (St.init _) ?_
  refine WC.seq ?_
  refine WC.region ?_
  refine WL.step ?_
  refine WL.boxN rfl rfl (fun b2 => ?_)
  refine WL.step ?_
  refine WL.alloc F.zero103 rfl (fun b4 => ?_)
  refine WL.nil ?_
  refine WQ.then_normal ?_
  refine WC.seq ?_
  refine WC.seq ?_
  refine WC.region ?_
  refine WL.step ?_
  refine WL.move rfl rfl ?_
  refine WL.step ?_
  refine WL.gtI rfl rfl rfl ?_
  refine WL.nil ?_
  refine WQ.then_normal ?_
  refine WC.cond rfl (fun h6 => ?_) (fun h6 => ?_)
  · skip
    have hp : 0 < l := by simpa using h6
    have hw : Fm.withK k l = (k.1 ||| 2 ^ (l - 1).toNat, k.2) := by unfold Fm.withK; rw [if_pos hp]
    refine WC.draws [([7], fun w => w.cell? ⟨b2, 0, none⟩ = some (.int .u32 (k.1 : Int)))] (by kernel_rfl) (fun w hS => facts_cons (hS.cell (by repeat (first | exact List.Mem.head _ | apply List.Mem.tail)) rfl) (facts_nil)) ?_
    refine WD.take (i := 0) rfl rfl rfl rfl (by kernel_rfl) (by kernel_rfl) (by kernel_rfl) (fun _ _ _ h => h) (by kernel_rfl) need_none (Yl.fieldAddr0 F.fld103_0 rfl) ?_
    refine WD.take (i := 1) rfl rfl rfl rfl (by kernel_rfl) (by kernel_rfl) (by kernel_rfl) (fun _ _ _ h => h) (by kernel_rfl) (need_at 0 8 rfl (by kernel_rfl)) (Yl.load1 F.one41 rfl) ?_
    refine WD.take (i := 2) rfl rfl rfl rfl (by kernel_rfl) (by kernel_rfl) (by kernel_rfl) (fun _ _ _ h => h) (by kernel_rfl) need_none (Yl.move rfl) ?_
    refine WD.take (i := 3) rfl rfl rfl rfl (by kernel_rfl) (by kernel_rfl) (by kernel_rfl) (fun _ _ _ h => h) (by kernel_rfl) need_none (Yl.as (Yl.sub rfl rfl ⟨by omega, by omega⟩) (congrArg (Value.int .i64) (show l - 1 = (((l - 1).toNat : Nat) : Int) by omega))) ?_
    refine WD.take (i := 4) rfl rfl rfl rfl (by kernel_rfl) (by kernel_rfl) (by kernel_rfl) (fun _ _ _ h => h) (by kernel_rfl) need_none (Yl.bin (v := .int .u32 ((2 ^ (l - 1).toNat : Nat) : Int)) rfl rfl (fun w => run_shl1 (by omega) _ _ _ w)) ?_
    refine WD.take (i := 5) rfl rfl rfl rfl (by kernel_rfl) (by kernel_rfl) (by kernel_rfl) (fun _ _ _ h => h) (by kernel_rfl) need_none (Yl.bin (v := .int .u32 ((k.1 ||| 2 ^ (l - 1).toNat : Nat) : Int)) rfl rfl (fun w => run_or hk.1 (pow32 (by omega)) _ _ _ w)) ?_
    refine WD.take (i := 6) rfl rfl rfl rfl (by kernel_rfl) (by kernel_rfl) (by kernel_rfl) (fun _ _ _ h => h) (by kernel_rfl) need_none (Yl.fieldAddr0 F.fld103_0 rfl) ?_
    refine WD.one (i := 7) (by kernel_rfl) rfl ?_
    refine WL.store1 F.one41 rfl rfl rfl (by repeat (first | exact Upd.here | apply Upd.there)) (by repeat constructor) ?_
    refine WD.on (closed_of (by kernel_rfl)) (fun w hS => Sx.gone rfl (Sx.none)) ?_
    refine WD.done (by kernel_rfl) ?_
    refine WQ.then_normal ?_
    refine WC.seq ?_
    refine WC.region ?_
    refine WL.step ?_
    refine WL.loadW F.agg103 rfl rfl (by repeat (first | exact List.Mem.head _ | apply List.Mem.tail)) rfl ?_
    refine WL.step ?_
    refine WL.storeN F.agg103 rfl rfl rfl (by simp [Value.oneCell']) (by repeat (first | exact Upd.here | apply Upd.there)) (by repeat constructor) ?_
    refine WL.nil ?_
    refine WQ.then_normal ?_
    refine WC.ret ?_
    refine WQ.ret (rs := [.cell 4 103]) rfl (.cellN F.agg103 rfl (by repeat (first | exact List.Mem.head _ | apply List.Mem.tail)) rfl .nil) (fun w hS => ⟨?_, hS.drop.drop⟩)
    rw [hw]; rfl
  · skip
    have hp : ¬ 0 < l := by simpa using h6
    have hw : Fm.withK k l = (k.1, k.2 ||| 2 ^ (-l - 1).toNat) := by unfold Fm.withK; rw [if_neg hp]
    refine WC.draws [([8], fun w => w.cell? ⟨b2, 1, none⟩ = some (.int .u32 (k.2 : Int)))] (by kernel_rfl) (fun w hS => facts_cons (hS.cell (by repeat (first | exact List.Mem.head _ | apply List.Mem.tail)) rfl) (facts_nil)) ?_
    refine WD.take (i := 0) rfl rfl rfl rfl (by kernel_rfl) (by kernel_rfl) (by kernel_rfl) (fun _ _ _ h => h) (by kernel_rfl) need_none (Yl.fieldAddr0 F.fld103_1 rfl) ?_
    refine WD.take (i := 1) rfl rfl rfl rfl (by kernel_rfl) (by kernel_rfl) (by kernel_rfl) (fun _ _ _ h => h) (by kernel_rfl) (need_at 0 9 rfl (by kernel_rfl)) (Yl.load1 F.one41 rfl) ?_
    refine WD.take (i := 2) rfl rfl rfl rfl (by kernel_rfl) (by kernel_rfl) (by kernel_rfl) (fun _ _ _ h => h) (by kernel_rfl) need_none (Yl.move rfl) ?_
    refine WD.take (i := 3) rfl rfl rfl rfl (by kernel_rfl) (by kernel_rfl) (by kernel_rfl) (fun _ _ _ h => h) (by kernel_rfl) need_none (Yl.negI rfl (by omega)) ?_
    refine WD.take (i := 4) rfl rfl rfl rfl (by kernel_rfl) (by kernel_rfl) (by kernel_rfl) (fun _ _ _ h => h) (by kernel_rfl) need_none (Yl.as (Yl.sub rfl rfl ⟨by omega, by omega⟩) (congrArg (Value.int .i64) (show -l - 1 = (((-l - 1).toNat : Nat) : Int) by omega))) ?_
    refine WD.take (i := 5) rfl rfl rfl rfl (by kernel_rfl) (by kernel_rfl) (by kernel_rfl) (fun _ _ _ h => h) (by kernel_rfl) need_none (Yl.bin (v := .int .u32 ((2 ^ (-l - 1).toNat : Nat) : Int)) rfl rfl (fun w => run_shl1 (by omega) _ _ _ w)) ?_
    refine WD.take (i := 6) rfl rfl rfl rfl (by kernel_rfl) (by kernel_rfl) (by kernel_rfl) (fun _ _ _ h => h) (by kernel_rfl) need_none (Yl.bin (v := .int .u32 ((k.2 ||| 2 ^ (-l - 1).toNat : Nat) : Int)) rfl rfl (fun w => run_or hk.2 (pow32 (by omega)) _ _ _ w)) ?_
    refine WD.take (i := 7) rfl rfl rfl rfl (by kernel_rfl) (by kernel_rfl) (by kernel_rfl) (fun _ _ _ h => h) (by kernel_rfl) need_none (Yl.fieldAddr0 F.fld103_1 rfl) ?_
    refine WD.one (i := 8) (by kernel_rfl) rfl ?_
    refine WL.store1 F.one41 rfl rfl rfl (by repeat (first | exact Upd.here | apply Upd.there)) (by repeat constructor) ?_
    refine WD.on (closed_of (by kernel_rfl)) (fun w hS => Sx.gone rfl (Sx.none)) ?_
    refine WD.done (by kernel_rfl) ?_
    refine WQ.then_normal ?_
    refine WC.seq ?_
    refine WC.region ?_
    refine WL.step ?_
    refine WL.loadW F.agg103 rfl rfl (by repeat (first | exact List.Mem.head _ | apply List.Mem.tail)) rfl ?_
    refine WL.step ?_
    refine WL.storeN F.agg103 rfl rfl rfl (by simp [Value.oneCell']) (by repeat (first | exact Upd.here | apply Upd.there)) (by repeat constructor) ?_
    refine WL.nil ?_
    refine WQ.then_normal ?_
    refine WC.ret ?_
    refine WQ.ret (rs := [.cell 4 103]) rfl (.cellN F.agg103 rfl (by repeat (first | exact List.Mem.head _ | apply List.Mem.tail)) rfl .nil) (fun w hS => ⟨?_, hS.drop.drop⟩)
    rw [hw]; rfl

theorem unitG_drop {k : Fm.Kn} {c : List Int} {i : Nat} {x op : Int} (h : c[i]? = some x) : Fm.unitG k op (c.drop i) = if Fm.hasK k x then (0, false) else if Fm.hasK k (-x) || x == op then Fm.unitG k op (c.drop (i + 1)) else if op ≠ 0 then (0, false) else Fm.unitG k x (c.drop (i + 1)) := by
  obtain ⟨hi, he⟩ := List.getElem?_eq_some_iff.1 h
  rw [List.drop_eq_getElem_cons hi, he]
  simp only [Fm.unitG]
theorem unitG_mem {k : Fm.Kn} {x : Int} : ∀ {c : List Int} {op : Int}, Fm.unitG k op c = (x, true) → x = op ∨ x ∈ c
  | [], op, h => by simp only [Fm.unitG, Prod.mk.injEq, and_true] at h; exact .inl h.symm
  | l :: ls, op, h => by
    simp only [Fm.unitG] at h
    split at h
    · simp at h
    split at h
    · rcases unitG_mem h with h1 | h1
      · exact .inl h1
      · exact .inr (List.mem_cons_of_mem _ h1)
    split at h
    · simp at h
    · rcases unitG_mem h with h1 | h1
      · exact .inr (by rw [h1]; exact List.mem_cons_self ..)
      · exact .inr (List.mem_cons_of_mem _ h1)

theorem unit_c (k : Fm.Kn) (c : List Int) (a : Option Addr) (cap : Nat) (hk : KB k) (hc : ∀ x ∈ c, Lit x) (hlen : c.length ≤ 1099511627776) (w : World) (hr : RdC w c a) :
    Pure Try.prog 95 [kv k, .slice a c.length cap] w (.tuple #[.int .i64 (Fm.unitK k c).1, .bool (Fm.unitK k c).2]) := by
  refine enter Try.func95 rfl Try.ntmps95 rfl (St.init _) ?_
  refine WC.seq ?_
  refine WC.region ?_
  refine WL.step ?_
  refine WL.boxN rfl rfl (fun b2 => ?_)
  refine WL.step ?_
  refine WL.assign rfl rfl ?_
  refine WL.step ?_
  refine WL.assign rfl rfl ?_
  refine WL.nil ?_
  refine WQ.then_normal ?_
  refine WC.seq ?_
  refine WC.region ?_
  refine WL.step ?_
  refine WL.assign rfl rfl ?_
  refine WL.nil ?_
  refine WQ.then_normal ?_
  refine WC.seq ?_
  refine WC.seq ?_
  refine WC.region ?_
  refine WL.step ?_
  refine WL.move rfl rfl ?_
  refine WL.step ?_
  refine WL.lenSl F.und54 rfl rfl ?_
  refine WL.step ?_
  refine WL.move rfl rfl ?_
  refine WL.nil ?_
  refine WQ.then_normal ?_
  refine WC.block ?_
  refine WC.loop (α := Nat × Int) (fun g => g.1 ≤ c.length ∧ Fm.unitG k g.2 (c.drop g.1) = Fm.unitK k c) (fun g => [(2, pp b2), (6, .int .i64 g.2), (9, .slice a c.length cap), (10, .int .i64 (c.length : Int)), (11, .int .i64 (g.1 : Int))]) (fun _ => [pt b2 [.int .u32 (k.1 : Int), .int .u32 (k.2 : Int)] 103]) (fun g => c.length - g.1) ((0, 0)) ?_ ?_ ?_ ?_
  · exact ⟨Nat.zero_le _, rfl⟩
  · exact ⟨rfl, rfl, rfl, rfl, rfl, trivial⟩
  · rfl
  rintro ⟨i, op⟩ ⟨hi, hu⟩
  dsimp only at hi hu
  show WC _ _ _ _ _ _ _ [(2, pp b2), (6, .int .i64 op), (9, .slice a c.length cap), (10, .int .i64 (c.length : Int)), (11, .int .i64 (i : Int))] [pt b2 [.int .u32 (k.1 : Int), .int .u32 (k.2 : Int)] 103]
  refine WC.seq ?_
  refine WC.region ?_
  refine WL.step ?_
  refine WL.ltI rfl rfl rfl ?_
  refine WL.nil ?_
  refine WQ.then_normal ?_
  refine WC.seq ?_
  refine WC.cond rfl (fun h12 => ?_) (fun h12 => ?_)
  · skip
    have hlt : i < c.length := by simpa using h12
    obtain ⟨x, hx⟩ : ∃ x, c[i]? = some x := ⟨_, List.getElem?_eq_getElem hlt⟩
    obtain ⟨b, off, rfl, hcell⟩ := hr i x hx
    have hxl := hc x (List.mem_of_getElem? hx)
    have hxn : Lit (-x) := ⟨by omega, by omega, by omega⟩
    have hu2 := hu
    rw [unitG_drop hx] at hu2
    refine WC.skip ?_
    refine WQ.then_normal ?_
    refine WC.seq ?_
    refine WC.block ?_
    refine WC.seq ?_
    refine WC.region ?_
    refine WL.step ?_
    refine WL.indexAddr F.sl54 rfl rfl rfl hlt ?_
    refine WL.step ?_
    refine WL.load1 F.one3 rfl rfl (v := .int .i64 x) (fun w hS => hS.oldc (by simpa using hcell) (by simp)) ?_
    refine WL.step ?_
    refine WL.assign rfl rfl ?_
    refine WL.nil ?_
    refine WQ.then_normal ?_
    refine WC.block ?_
    refine WC.seq ?_
    refine WC.region ?_
    refine WL.step ?_
    refine WL.loadW F.agg103 rfl rfl (by repeat (first | exact List.Mem.head _ | apply List.Mem.tail)) rfl ?_
    refine WL.step ?_
    refine WL.move rfl rfl ?_
    refine WL.step ?_
    refine WL.callV F.fun65 rfl rfl (fun w _ => has_c k x hk hxl w) ?_
    refine WL.step ?_
    refine WL.assign rfl rfl ?_
    refine WL.nil ?_
    refine WQ.then_normal ?_
    refine WC.cond rfl (fun h16 => ?_) (fun h16 => ?_)
    · skip
      rw [h16] at hu2
      refine WC.seq ?_
      refine WC.region ?_
      refine WL.step ?_
      refine WL.assign rfl rfl ?_
      refine WL.step ?_
      refine WL.assign rfl rfl ?_
      refine WL.nil ?_
      refine WQ.then_normal ?_
      refine WC.ret ?_
      refine WQ.block_ret ?_
      refine WQ.block_ret ?_
      refine WQ.then_ret ?_
      refine WQ.then_ret ?_
      refine WQ.block_ret ?_
      refine WQ.then_ret ?_
      refine WQ.ret (rs := [.tmp 4, .tmp 5]) rfl (.tmp rfl (.tmp rfl .nil)) (fun w hS => ⟨?_, hS.drop⟩)
      rw [← hu2]; rfl
    · skip
      rw [h16] at hu2
      simp only [Bool.false_eq_true, if_false] at hu2
      refine WC.seq ?_
      refine WC.region ?_
      refine WL.step ?_
      refine WL.loadW F.agg103 rfl rfl (by repeat (first | exact List.Mem.head _ | apply List.Mem.tail)) rfl ?_
      refine WL.step ?_
      refine WL.move rfl rfl ?_
      refine WL.step ?_
      refine WL.negI rfl rfl (by omega) ?_
      refine WL.step ?_
      refine WL.callV F.fun65 rfl rfl (fun w _ => has_c k (-x) hk hxn w) ?_
      refine WL.step ?_
      refine WL.move rfl rfl ?_
      refine WA.splitB (i := 25) rfl (fun h25 => ?_) (fun h25 => ?_)
      · skip
        rw [h25] at hu2
        simp only [Bool.true_or, if_true] at hu2
        refine WL.step (WL.guardF rfl rfl rfl rfl rfl rfl ?_)
        refine WL.step (WL.guardF rfl rfl rfl rfl rfl rfl ?_)
        refine WL.step (WL.guardF rfl rfl rfl rfl rfl rfl ?_)
        refine WL.step ?_
        refine WL.pickT rfl rfl rfl ?_
        refine WL.step ?_
        refine WL.assign rfl rfl ?_
        refine WL.nil ?_
        refine WQ.then_normal ?_
        refine WC.condT rfl ?_
        refine WC.skip ?_
        refine WQ.block_normal ?_
        refine WQ.block_normal ?_
        refine WQ.then_normal ?_
        refine WC.region ?_
        refine WL.step ?_
        refine WL.add rfl rfl rfl ⟨by omega, by omega⟩ ?_
        refine WL.step ?_
        refine WL.move rfl rfl ?_
        refine WL.nil ?_
        refine WQ.back ((i + 1, op)) ?_ ?_ ?_ ?_
        · exact ⟨by show i + 1 ≤ c.length; omega, hu2⟩
        · (show c.length - (i + 1) < c.length - i; omega)
        · exact ⟨rfl, rfl, rfl, rfl, rfl, trivial⟩
        · rfl
      · skip
        rw [h25] at hu2
        simp only [Bool.false_or] at hu2
        refine WL.step (WL.guardT rfl rfl rfl ?_)
        refine WL.move rfl rfl ?_
        refine WL.step (WL.guardT rfl rfl rfl ?_)
        refine WL.move rfl rfl ?_
        refine WL.step (WL.guardT rfl rfl rfl ?_)
        refine WL.eqI rfl rfl rfl ?_
        refine WL.step ?_
        refine WL.pickF rfl rfl rfl ?_
        refine WL.step ?_
        refine WL.assign rfl rfl ?_
        refine WL.nil ?_
        refine WQ.then_normal ?_
        refine WC.cond rfl (fun h20 => ?_) (fun h20 => ?_)
        · skip
          have h20b : (x == op) = true := h20
          rw [h20b] at hu2
          simp only [if_true] at hu2
          refine WC.skip ?_
          refine WQ.block_normal ?_
          refine WQ.block_normal ?_
          refine WQ.then_normal ?_
          refine WC.region ?_
          refine WL.step ?_
          refine WL.add rfl rfl rfl ⟨by omega, by omega⟩ ?_
          refine WL.step ?_
          refine WL.move rfl rfl ?_
          refine WL.nil ?_
          refine WQ.back ((i + 1, op)) ?_ ?_ ?_ ?_
          · exact ⟨by show i + 1 ≤ c.length; omega, hu2⟩
          · (show c.length - (i + 1) < c.length - i; omega)
          · exact ⟨rfl, rfl, rfl, rfl, rfl, trivial⟩
          · rfl
        · skip
          have h20b : (x == op) = false := h20
          rw [h20b] at hu2
          simp only [Bool.false_eq_true, if_false] at hu2
          refine WC.seq ?_
          refine WC.region ?_
          refine WL.step ?_
          refine WL.move rfl rfl ?_
          refine WL.step ?_
          refine WL.neI rfl rfl rfl ?_
          refine WL.step ?_
          refine WL.assign rfl rfl ?_
          refine WL.nil ?_
          refine WQ.then_normal ?_
          refine WC.cond rfl (fun h30 => ?_) (fun h30 => ?_)
          · skip
            have hop : op ≠ 0 := by simpa using h30
            rw [if_pos hop] at hu2
            refine WC.seq ?_
            refine WC.region ?_
            refine WL.step ?_
            refine WL.assign rfl rfl ?_
            refine WL.step ?_
            refine WL.assign rfl rfl ?_
            refine WL.nil ?_
            refine WQ.then_normal ?_
            refine WC.ret ?_
            refine WQ.block_ret ?_
            refine WQ.block_ret ?_
            refine WQ.then_ret ?_
            refine WQ.then_ret ?_
            refine WQ.block_ret ?_
            refine WQ.then_ret ?_
            refine WQ.ret (rs := [.tmp 4, .tmp 5]) rfl (.tmp rfl (.tmp rfl .nil)) (fun w hS => ⟨?_, hS.drop⟩)
            rw [← hu2]; rfl
          · skip
            have hop : op = 0 := by simpa using h30
            rw [if_neg (by simpa using hop)] at hu2
            refine WC.region ?_
            refine WL.step ?_
            refine WL.move rfl rfl ?_
            refine WL.step ?_
            refine WL.assign rfl rfl ?_
            refine WL.nil ?_
            refine WQ.block_normal ?_
            refine WQ.block_normal ?_
            refine WQ.then_normal ?_
            refine WC.region ?_
            refine WL.step ?_
            refine WL.add rfl rfl rfl ⟨by omega, by omega⟩ ?_
            refine WL.step ?_
            refine WL.move rfl rfl ?_
            refine WL.nil ?_
            refine WQ.back ((i + 1, x)) ?_ ?_ ?_ ?_
            · exact ⟨by show i + 1 ≤ c.length; omega, hu2⟩
            · (show c.length - (i + 1) < c.length - i; omega)
            · exact ⟨rfl, rfl, rfl, rfl, rfl, trivial⟩
            · rfl
  · skip
    have hie : i = c.length := by simp at h12; omega
    subst hie
    rw [List.drop_length] at hu
    refine WC.exit ?_
    refine WQ.then_exit ?_
    refine WQ.then_exit ?_
    refine WQ.block_exit ?_
    refine WQ.then_normal ?_
    refine WC.seq ?_
    refine WC.region ?_
    refine WL.step ?_
    refine WL.move rfl rfl ?_
    refine WL.step ?_
    refine WL.assign rfl rfl ?_
    refine WL.step ?_
    refine WL.assign rfl rfl ?_
    refine WL.nil ?_
    refine WQ.then_normal ?_
    refine WC.ret ?_
    refine WQ.ret (rs := [.tmp 4, .tmp 5]) rfl (.tmp rfl (.tmp rfl .nil)) (fun w hS => ⟨?_, hS.drop⟩)
    rw [← hu]; rfl

end Go.Proofs.Ytbippghgkbapnaa
