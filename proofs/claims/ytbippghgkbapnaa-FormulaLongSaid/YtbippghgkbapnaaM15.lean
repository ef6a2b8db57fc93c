import Derived.Test.YtbippghgkbapnaaM14
import Derived.Test.YtbippghgkbapnaaSpec
import Derived.Test.YtbippghgkbapnaaFacts
set_option linter.unusedSimpArgs false
set_option linter.unusedVariables false
namespace Go.Proofs.Ytbippghgkbapnaa
open Go Go.Eng Go.Proofs
theorem passK_drop {ls : List (List Int)} {i : Nat} {c : List Int} {k : Fm.Kn} {ag : Bool} (h : ls[i]? = some c) :
    Fm.passK (ls.drop i) k ag = if Fm.clash k then .inl k else if (Fm.unitK k c).2 && (Fm.unitK k c).1 == 0 then .inl k else if (Fm.unitK k c).2 then Fm.passK (ls.drop (i + 1)) (Fm.withK k (Fm.unitK k c).1) true else Fm.passK (ls.drop (i + 1)) k ag := by
  obtain ⟨hi, he⟩ := List.getElem?_eq_some_iff.1 h
  rw [List.drop_eq_getElem_cons hi, he]
  simp only [Fm.passK]
theorem clash_ne {k : Fm.Kn} : (((k.1 &&& k.2 : Nat) : Int) != 0) = Fm.clash k := by
  unfold Fm.clash
  rw [bne, Bool.eq_iff_iff]
  simp
theorem clash_eq {k : Fm.Kn} : (((k.1 &&& k.2 : Nat) : Int) == 0) = !Fm.clash k := by
  rw [← clash_ne, bne, Bool.not_not]

theorem closed_c (ls : List (List Int)) (a : Option Addr) (cap : Nat) (us : List Value) (k : Fm.Kn) (f : Nat) (r : Fm.Kn × Bool) (hk : KB k) (hls : ∀ c ∈ ls, ∀ x ∈ c, Lit x) (hcl : ∀ c ∈ ls, c.length ≤ 1099511627776) (hlen : ls.length ≤ 1099511627776)
    (w : World) (hr : RdLL w ls a us) (h : Fm.closedF f ls k = some r) : Pure Try.prog 64 [.slice a ls.length cap, kv k] w (.tuple #[kv r.1, .bool r.2]) := by
  refine enter Try.func64 rfl Try.ntmps64 rfl (St.init _) ?_
  refine WC.seq ?_
  refine WC.region ?_
  refine WL.step ?_
  refine WL.boxN rfl rfl (fun b3 => ?_)
  refine WL.step ?_
  refine WL.alloc F.zero103 rfl (fun b4 => ?_)
  refine WL.step ?_
  refine WL.assign rfl rfl ?_
  refine WL.nil ?_
  refine WQ.then_normal ?_
  refine WC.seq ?_
  refine WC.seq ?_
  refine WC.region ?_
  refine WL.step ?_
  refine WL.assign rfl rfl ?_
  refine WL.nil ?_
  refine WQ.then_normal ?_
  refine WC.block ?_
  refine WC.loop (α := Nat × Fm.Kn × Bool) (fun g => KB g.2.1 ∧ (g.2.2 = true → Fm.closedF g.1 ls g.2.1 = some r) ∧ (g.2.2 = false → r = (g.2.1, !Fm.clash g.2.1))) (fun g => [(0, .slice a ls.length cap), (3, pp b3), (4, pp b4), (6, .bool g.2.2)]) (fun g => [pt b4 [.int .u32 0, .int .u32 0] 103, pt b3 [.int .u32 (g.2.1.1 : Int), .int .u32 (g.2.1.2 : Int)] 103]) (fun g => if g.2.2 then g.1 + 1 else 0) ((f, k, true)) ?_ ?_ ?_ ?_
  · exact ⟨hk, fun _ => h, fun h0 => by cases h0⟩
  · exact ⟨rfl, rfl, rfl, rfl, trivial⟩
  · rfl
  rintro ⟨f, k, ag⟩ ⟨hk, hT, hF⟩
  dsimp only at hk hT hF
  show WC _ _ _ _ _ _ _ [(0, .slice a ls.length cap), (3, pp b3), (4, pp b4), (6, .bool ag)] [pt b4 [.int .u32 0, .int .u32 0] 103, pt b3 [.int .u32 (k.1 : Int), .int .u32 (k.2 : Int)] 103]
  refine WC.seq ?_
  refine WC.seq ?_
  refine WC.region ?_
  refine WL.step ?_
  refine WL.move rfl rfl ?_
  refine WL.nil ?_
  refine WQ.then_normal ?_
  refine WC.cond rfl (fun h11 => ?_) (fun h11 => ?_)
  · skip
    subst h11
    have hcf := hT rfl
    obtain ⟨f, rfl⟩ : ∃ f2, f = f2 + 1 := by cases f with | zero => simp [Fm.closedF] at hcf | succ f => exact ⟨f, rfl⟩
    simp only [Fm.closedF] at hcf
    obtain ⟨pr, hpr⟩ : ∃ pr, pr = Fm.passK ls k false := ⟨_, rfl⟩
    rw [← hpr] at hcf
    refine WC.skip ?_
    refine WQ.then_normal ?_
    refine WC.block ?_
    refine WC.seq ?_
    refine WC.region ?_
    refine WL.step ?_
    refine WL.assign rfl rfl ?_
    refine WL.nil ?_
    refine WQ.then_normal ?_
    refine WC.seq ?_
    refine WC.region ?_
    refine WL.step ?_
    refine WL.move rfl rfl ?_
    refine WL.step ?_
    refine WL.lenSl F.und38 rfl rfl ?_
    refine WL.step ?_
    refine WL.move rfl rfl ?_
    refine WL.nil ?_
    refine WQ.then_normal ?_
    refine WC.block ?_
    refine WC.loop (α := Nat × Fm.Kn × Bool) (fun g => g.1 ≤ ls.length ∧ KB g.2.1 ∧ Fm.passK (ls.drop g.1) g.2.1 g.2.2 = pr) (fun g => [(0, .slice a ls.length cap), (3, pp b3), (4, pp b4), (6, .bool g.2.2), (12, .slice a ls.length cap), (13, .int .i64 (ls.length : Int)), (14, .int .i64 (g.1 : Int))]) (fun g => [pt b4 [.int .u32 0, .int .u32 0] 103, pt b3 [.int .u32 (g.2.1.1 : Int), .int .u32 (g.2.1.2 : Int)] 103]) (fun g => ls.length - g.1) ((0, k, false)) ?_ ?_ ?_ ?_
    · exact ⟨Nat.zero_le _, hk, hpr.symm⟩
    · exact ⟨rfl, rfl, rfl, rfl, rfl, rfl, rfl, trivial⟩
    · rfl
    rintro ⟨i, k, ag⟩ ⟨hi, hk, hpass⟩
    dsimp only at hi hk hpass
    show WC _ _ _ _ _ _ _ [(0, .slice a ls.length cap), (3, pp b3), (4, pp b4), (6, .bool ag), (12, .slice a ls.length cap), (13, .int .i64 (ls.length : Int)), (14, .int .i64 (i : Int))] [pt b4 [.int .u32 0, .int .u32 0] 103, pt b3 [.int .u32 (k.1 : Int), .int .u32 (k.2 : Int)] 103]
    refine WC.seq ?_
    refine WC.region ?_
    refine WL.step ?_
    refine WL.ltI rfl rfl rfl ?_
    refine WL.nil ?_
    refine WQ.then_normal ?_
    refine WC.seq ?_
    refine WC.cond rfl (fun h15 => ?_) (fun h15 => ?_)
    · skip
      have hlt : i < ls.length := by simpa using h15
      obtain ⟨c, b, off, a1, cap1, hc, rfl, hcell, hrc⟩ := hr.at hlt
      have hpass2 := hpass
      rw [passK_drop hc] at hpass2
      have hcm := List.mem_of_getElem? hc
      refine WC.skip ?_
      refine WQ.then_normal ?_
      refine WC.seq ?_
      refine WC.block ?_
      refine WC.seq ?_
      refine WC.region ?_
      refine WL.step ?_
      refine WL.indexAddr F.sl38 rfl rfl rfl hlt ?_
      refine WL.step ?_
      refine WL.load1 F.one54 rfl rfl (v := .slice a1 c.length cap1) (fun w hS => hS.oldc (by simpa using hcell) (by simp)) ?_
      refine WL.step ?_
      refine WL.assign rfl rfl ?_
      refine WL.nil ?_
      refine WQ.then_normal ?_
      refine WC.seq ?_
      refine WC.seq ?_
      refine WC.region ?_
      refine WL.step ?_
      refine WL.fieldAddr0 F.fld103_0 rfl rfl ?_
      refine WL.step ?_
      refine WL.loadP F.one41 rfl rfl (by repeat (first | exact List.Mem.head _ | apply List.Mem.tail)) rfl ?_
      refine WL.step ?_
      refine WL.fieldAddr0 F.fld103_1 rfl rfl ?_
      refine WL.step ?_
      refine WL.loadP F.one41 rfl rfl (by repeat (first | exact List.Mem.head _ | apply List.Mem.tail)) rfl ?_
      refine WL.step ?_
      refine WL.bin (v := .int .u32 ((k.1 &&& k.2 : Nat) : Int)) rfl rfl rfl (fun w => run_and hk.1 hk.2 _ _ _ w) ?_
      refine WL.step ?_
      refine WL.neI rfl rfl rfl ?_
      refine WL.nil ?_
      refine WQ.then_normal ?_
      refine WC.cond rfl (fun h23 => ?_) (fun h23 => ?_)
      · skip
        rw [clash_ne] at h23
        rw [if_pos h23] at hpass2
        rw [← hpass2] at hcf
        have hr3 : (k, false) = r := by simpa using hcf
        subst hr3
        refine WC.seq ?_
        refine WC.region ?_
        refine WL.step ?_
        refine WL.loadW F.agg103 rfl rfl (by repeat (first | exact List.Mem.head _ | apply List.Mem.tail)) rfl ?_
        refine WL.step ?_
        refine WL.storeN F.agg103 rfl rfl rfl (by simp [Value.oneCell']) (by repeat (first | exact Upd.here | apply Upd.there)) (by repeat constructor) ?_
        refine WL.step ?_
        refine WL.assign rfl rfl ?_
        refine WL.nil ?_
        refine WQ.then_normal ?_
        refine WC.ret ?_
        refine WQ.then_ret ?_
        refine WQ.block_ret ?_
        refine WQ.then_ret ?_
        refine WQ.then_ret ?_
        refine WQ.block_ret ?_
        refine WQ.block_ret ?_
        refine WQ.then_ret ?_
        refine WQ.block_ret ?_
        refine WQ.then_ret ?_
        refine WQ.ret (rs := [.cell 4 103, .tmp 5]) rfl (.cellN F.agg103 rfl (by repeat (first | exact List.Mem.head _ | apply List.Mem.tail)) rfl (.tmp rfl .nil)) (fun w hS => ⟨?_, hS.drop.drop⟩)
        rfl
      · skip
        rw [clash_ne] at h23
        rw [if_neg (by rw [h23]; decide)] at hpass2
        refine WC.skip ?_
        refine WQ.then_normal ?_
        refine WC.seq ?_
        refine WC.region ?_
        refine WL.step ?_
        refine WL.loadW F.agg103 rfl rfl (by repeat (first | exact List.Mem.head _ | apply List.Mem.tail)) rfl ?_
        refine WL.step ?_
        refine WL.move rfl rfl ?_
        refine WL.step ?_
        refine WL.callV F.fun95 rfl rfl (fun w hS => unit_c k c a1 cap1 hk (hls c hcm) (hcl c hcm) w (hrc.next hS)) ?_
        refine WL.step ?_
        refine WL.move rfl rfl ?_
        refine WL.step ?_
        refine WL.extract rfl rfl rfl ?_
        refine WL.step ?_
        refine WL.extract rfl rfl rfl ?_
        refine WL.step ?_
        refine WL.assign rfl rfl ?_
        refine WL.step ?_
        refine WL.assign rfl rfl ?_
        refine WL.nil ?_
        refine WQ.then_normal ?_
        refine WC.seq ?_
        refine WC.seq ?_
        refine WC.region ?_
        refine WL.step ?_
        refine WL.move rfl rfl ?_
        refine WL.step ?_
        refine WL.move rfl rfl ?_
        refine WA.splitB (i := 32) rfl (fun h32 => ?_) (fun h32 => ?_)
        · skip
          refine WL.step (WL.guardT rfl rfl rfl ?_)
          refine WL.move rfl rfl ?_
          refine WL.step (WL.guardT rfl rfl rfl ?_)
          refine WL.eqI rfl rfl rfl ?_
          refine WL.step ?_
          refine WL.pickT rfl rfl rfl ?_
          refine WL.nil ?_
          refine WQ.then_normal ?_
          refine WC.cond rfl (fun h35 => ?_) (fun h35 => ?_)
          · skip
            rw [if_pos (by rw [h32]; exact h35)] at hpass2
            rw [← hpass2] at hcf
            have hr3 : (k, false) = r := by simpa using hcf
            subst hr3
            refine WC.seq ?_
            refine WC.region ?_
            refine WL.step ?_
            refine WL.loadW F.agg103 rfl rfl (by repeat (first | exact List.Mem.head _ | apply List.Mem.tail)) rfl ?_
            refine WL.step ?_
            refine WL.storeN F.agg103 rfl rfl rfl (by simp [Value.oneCell']) (by repeat (first | exact Upd.here | apply Upd.there)) (by repeat constructor) ?_
            refine WL.step ?_
            refine WL.assign rfl rfl ?_
            refine WL.nil ?_
            refine WQ.then_normal ?_
            refine WC.ret ?_
            refine WQ.then_ret ?_
            refine WQ.block_ret ?_
            refine WQ.then_ret ?_
            refine WQ.then_ret ?_
            refine WQ.block_ret ?_
            refine WQ.block_ret ?_
            refine WQ.then_ret ?_
            refine WQ.block_ret ?_
            refine WQ.then_ret ?_
            refine WQ.ret (rs := [.cell 4 103, .tmp 5]) rfl (.cellN F.agg103 rfl (by repeat (first | exact List.Mem.head _ | apply List.Mem.tail)) rfl (.tmp rfl .nil)) (fun w hS => ⟨?_, hS.drop.drop⟩)
            rfl
          · skip
            refine WC.skip ?_
            refine WQ.then_normal ?_
            refine WC.seq ?_
            refine WC.region ?_
            refine WL.step ?_
            refine WL.move rfl rfl ?_
            refine WL.nil ?_
            refine WQ.then_normal ?_
            refine WC.cond rfl (fun h37 => ?_) (fun h37 => ?_)
            · skip
              have hx0 : (Fm.unitK k c).1 ≠ 0 := by first | (simpa using h35) | (exact absurd h37 (by rw [h32]; decide))
              have hxl : Lit (Fm.unitK k c).1 := by
                rcases unitG_mem (x := (Fm.unitK k c).1) (c := c) (op := 0) (k := k) (by have := h37; unfold Fm.unitK at this ⊢; rw [← this]) with h0 | h0
                · exact absurd h0 hx0
                · exact hls c hcm _ h0
              have hpass3 : Fm.passK (ls.drop (i + 1)) (Fm.withK k (Fm.unitK k c).1) true = pr := by
                rw [if_neg, if_pos h37] at hpass2
                · exact hpass2
                · simp [hx0]
              refine WC.seq ?_
              refine WC.region ?_
              refine WL.step ?_
              refine WL.loadW F.agg103 rfl rfl (by repeat (first | exact List.Mem.head _ | apply List.Mem.tail)) rfl ?_
              refine WL.step ?_
              refine WL.move rfl rfl ?_
              refine WL.step ?_
              refine WL.callV F.fun63 rfl rfl (fun w _ => with_c k _ hk hxl w) ?_
              refine WL.step ?_
              refine WL.storeN F.agg103 rfl rfl rfl (by simp [Value.oneCell']) (by repeat (first | exact Upd.here | apply Upd.there)) (by repeat constructor) ?_
              refine WL.nil ?_
              refine WQ.then_normal ?_
              refine WC.region ?_
              refine WL.step ?_
              refine WL.assign rfl rfl ?_
              refine WL.nil ?_
              refine WQ.block_normal ?_
              refine WQ.then_normal ?_
              refine WC.region ?_
              refine WL.step ?_
              refine WL.add rfl rfl rfl ⟨by omega, by omega⟩ ?_
              refine WL.step ?_
              refine WL.move rfl rfl ?_
              refine WL.nil ?_
              refine WQ.back ((i + 1, Fm.withK k (Fm.unitK k c).1, true)) ?_ ?_ ?_ ?_
              · exact ⟨by show i + 1 ≤ ls.length; omega, hk.with hxl, hpass3⟩
              · (show ls.length - (i + 1) < ls.length - i; omega)
              · exact ⟨rfl, rfl, rfl, rfl, rfl, rfl, rfl, trivial⟩
              · rfl
            · skip
              have hpass3 : Fm.passK (ls.drop (i + 1)) k ag = pr := by
                rw [if_neg, if_neg] at hpass2
                · exact hpass2
                · rw [h37]; decide
                · rw [h37]; simp
              refine WC.skip ?_
              refine WQ.block_normal ?_
              refine WQ.then_normal ?_
              refine WC.region ?_
              refine WL.step ?_
              refine WL.add rfl rfl rfl ⟨by omega, by omega⟩ ?_
              refine WL.step ?_
              refine WL.move rfl rfl ?_
              refine WL.nil ?_
              refine WQ.back ((i + 1, k, ag)) ?_ ?_ ?_ ?_
              · exact ⟨by show i + 1 ≤ ls.length; omega, hk, hpass3⟩
              · (show ls.length - (i + 1) < ls.length - i; omega)
              · exact ⟨rfl, rfl, rfl, rfl, rfl, rfl, rfl, trivial⟩
              · rfl
        · skip
          refine WL.step (WL.guardF rfl rfl rfl rfl rfl rfl ?_)
          refine WL.step (WL.guardF rfl rfl rfl rfl rfl rfl ?_)
          refine WL.step ?_
          refine WL.pickF rfl rfl rfl ?_
          refine WL.nil ?_
          refine WQ.then_normal ?_
          refine WC.condF rfl ?_
          refine WC.skip ?_
          refine WQ.then_normal ?_
          refine WC.seq ?_
          refine WC.region ?_
          refine WL.step ?_
          refine WL.move rfl rfl ?_
          refine WL.nil ?_
          refine WQ.then_normal ?_
          refine WC.cond rfl (fun h37 => ?_) (fun h37 => ?_)
          · skip
            have hx0 : (Fm.unitK k c).1 ≠ 0 := by first | (simpa using h35) | (exact absurd h37 (by rw [h32]; decide))
            have hxl : Lit (Fm.unitK k c).1 := by
              rcases unitG_mem (x := (Fm.unitK k c).1) (c := c) (op := 0) (k := k) (by have := h37; unfold Fm.unitK at this ⊢; rw [← this]) with h0 | h0
              · exact absurd h0 hx0
              · exact hls c hcm _ h0
            have hpass3 : Fm.passK (ls.drop (i + 1)) (Fm.withK k (Fm.unitK k c).1) true = pr := by
              rw [if_neg, if_pos h37] at hpass2
              · exact hpass2
              · simp [hx0]
            refine WC.seq ?_
            refine WC.region ?_
            refine WL.step ?_
            refine WL.loadW F.agg103 rfl rfl (by repeat (first | exact List.Mem.head _ | apply List.Mem.tail)) rfl ?_
            refine WL.step ?_
            refine WL.move rfl rfl ?_
            refine WL.step ?_
            refine WL.callV F.fun63 rfl rfl (fun w _ => with_c k _ hk hxl w) ?_
            refine WL.step ?_
            refine WL.storeN F.agg103 rfl rfl rfl (by simp [Value.oneCell']) (by repeat (first | exact Upd.here | apply Upd.there)) (by repeat constructor) ?_
            refine WL.nil ?_
            refine WQ.then_normal ?_
            refine WC.region ?_
            refine WL.step ?_
            refine WL.assign rfl rfl ?_
            refine WL.nil ?_
            refine WQ.block_normal ?_
            refine WQ.then_normal ?_
            refine WC.region ?_
            refine WL.step ?_
            refine WL.add rfl rfl rfl ⟨by omega, by omega⟩ ?_
            refine WL.step ?_
            refine WL.move rfl rfl ?_
            refine WL.nil ?_
            refine WQ.back ((i + 1, Fm.withK k (Fm.unitK k c).1, true)) ?_ ?_ ?_ ?_
            · exact ⟨by show i + 1 ≤ ls.length; omega, hk.with hxl, hpass3⟩
            · (show ls.length - (i + 1) < ls.length - i; omega)
            · exact ⟨rfl, rfl, rfl, rfl, rfl, rfl, rfl, trivial⟩
            · rfl
          · skip
            have hpass3 : Fm.passK (ls.drop (i + 1)) k ag = pr := by
              rw [if_neg, if_neg] at hpass2
              · exact hpass2
              · rw [h37]; decide
              · rw [h37]; simp
            refine WC.skip ?_
            refine WQ.block_normal ?_
            refine WQ.then_normal ?_
            refine WC.region ?_
            refine WL.step ?_
            refine WL.add rfl rfl rfl ⟨by omega, by omega⟩ ?_
            refine WL.step ?_
            refine WL.move rfl rfl ?_
            refine WL.nil ?_
            refine WQ.back ((i + 1, k, ag)) ?_ ?_ ?_ ?_
            · exact ⟨by show i + 1 ≤ ls.length; omega, hk, hpass3⟩
            · (show ls.length - (i + 1) < ls.length - i; omega)
            · exact ⟨rfl, rfl, rfl, rfl, rfl, rfl, rfl, trivial⟩
            · rfl
    · skip
      have hie : i = ls.length := by simp at h15; omega
      subst hie
      refine WC.exit ?_
      refine WQ.then_exit ?_
      refine WQ.then_exit ?_
      refine WQ.block_exit ?_
      refine WQ.block_normal ?_
      rw [List.drop_length] at hpass
      have hpr2 : pr = .inr (k, ag) := hpass.symm
      rw [hpr2] at hcf
      simp only at hcf
      refine WQ.back ((f, k, ag)) ?_ ?_ ?_ ?_
      · exact ⟨hk, fun h0 => by rw [show ag = true from h0] at hcf; simpa using hcf, fun h0 => by rw [show ag = false from h0] at hcf; simpa using hcf.symm⟩
      · (show (if ag = true then f + 1 else 0) < f + 1 + 1; split <;> omega)
      · exact ⟨rfl, rfl, rfl, rfl, trivial⟩
      · rfl
  · skip
    have hres := hF h11
    refine WC.exit ?_
    refine WQ.then_exit ?_
    refine WQ.then_exit ?_
    refine WQ.block_exit ?_
    refine WQ.then_normal ?_
    refine WC.seq ?_
    refine WC.draws [([7], fun w => ∀ j v, [Value.int .u32 (k.1 : Int), .int .u32 (k.2 : Int)][j]? = some v → w.cell? ⟨b3, 0 + j, none⟩ = some v), ([], fun w => w.cell? ⟨b3, 0, none⟩ = some (.int .u32 (k.1 : Int))), ([], fun w => w.cell? ⟨b3, 1, none⟩ = some (.int .u32 (k.2 : Int)))] (by kernel_rfl) (fun w hS => facts_cons (fun j v hv => by rw [Nat.zero_add]; exact hS.cell (by repeat (first | exact List.Mem.head _ | apply List.Mem.tail)) hv) (facts_cons (hS.cell (by repeat (first | exact List.Mem.head _ | apply List.Mem.tail)) rfl) (facts_cons (hS.cell (by repeat (first | exact List.Mem.head _ | apply List.Mem.tail)) rfl) (facts_nil)))) ?_
    refine WD.take (i := 0) rfl rfl rfl rfl (by kernel_rfl) (by kernel_rfl) (by kernel_rfl) (fun _ _ _ h => h) (by kernel_rfl) (need_at 0 9 rfl (by kernel_rfl)) (Yl.loadN F.agg103 rfl rfl) ?_
    refine WD.take (i := 1) rfl rfl rfl rfl (by kernel_rfl) (by kernel_rfl) (by kernel_rfl) (fun _ _ _ h => h) (by kernel_rfl) need_none (Yl.fieldAddr0 F.fld103_0 rfl) ?_
    refine WD.take (i := 2) rfl rfl rfl rfl (by kernel_rfl) (by kernel_rfl) (by kernel_rfl) (fun _ _ _ h => h) (by kernel_rfl) (need_at 1 9 rfl (by kernel_rfl)) (Yl.load1 F.one41 rfl) ?_
    refine WD.take (i := 3) rfl rfl rfl rfl (by kernel_rfl) (by kernel_rfl) (by kernel_rfl) (fun _ _ _ h => h) (by kernel_rfl) need_none (Yl.fieldAddr0 F.fld103_1 rfl) ?_
    refine WD.take (i := 4) rfl rfl rfl rfl (by kernel_rfl) (by kernel_rfl) (by kernel_rfl) (fun _ _ _ h => h) (by kernel_rfl) (need_at 2 9 rfl (by kernel_rfl)) (Yl.load1 F.one41 rfl) ?_
    refine WD.take (i := 5) rfl rfl rfl rfl (by kernel_rfl) (by kernel_rfl) (by kernel_rfl) (fun _ _ _ h => h) (by kernel_rfl) need_none (Yl.bin (v := .int .u32 ((k.1 &&& k.2 : Nat) : Int)) rfl rfl (fun w => run_and hk.1 hk.2 _ _ _ w)) ?_
    refine WD.take (i := 6) rfl rfl rfl rfl (by kernel_rfl) (by kernel_rfl) (by kernel_rfl) (fun _ _ _ h => h) (by kernel_rfl) need_none (Yl.eqI rfl rfl) ?_
    refine WD.one (i := 7) (by kernel_rfl) rfl ?_
    refine WL.storeN F.agg103 rfl rfl rfl (by simp [Value.oneCell']) (by repeat (first | exact Upd.here | apply Upd.there)) (by repeat constructor) ?_
    refine WD.on (closed_of (by kernel_rfl)) (fun w hS => Sx.gone rfl (Sx.keep (hS.cell (by repeat (first | exact List.Mem.head _ | apply List.Mem.tail)) rfl) (Sx.keep (hS.cell (by repeat (first | exact List.Mem.head _ | apply List.Mem.tail)) rfl) (Sx.none)))) ?_
    refine WD.take (i := 8) rfl rfl rfl rfl (by kernel_rfl) (by kernel_rfl) (by kernel_rfl) (fun _ _ _ h => h) (by kernel_rfl) need_none (Yl.assign rfl) ?_
    refine WD.done (by kernel_rfl) ?_
    refine WQ.then_normal ?_
    refine WC.ret ?_
    refine WQ.ret (rs := [.cell 4 103, .tmp 5]) rfl (.cellN F.agg103 rfl (by repeat (first | exact List.Mem.head _ | apply List.Mem.tail)) rfl (.tmp rfl .nil)) (fun w hS => ⟨?_, hS.drop.drop⟩)
    rw [hres]
    exact congrArg (fun b => Ending.returned (Value.tuple #[kv k, Value.bool b])) clash_eq

end Go.Proofs.Ytbippghgkbapnaa
