import Derived.Test.YtbippghgkbapnaaM9
import Derived.Test.YtbippghgkbapnaaSpec
import Derived.Test.YtbippghgkbapnaaFacts
set_option linter.unusedSimpArgs false
set_option linter.unusedVariables false
namespace Go.Proofs.Ytbippghgkbapnaa
open Go Go.Eng Go.Proofs
/-- The bytes of a slice that lies in the older world's memory. -/
def Bare (w : World) (O : List Nat) (a : Option Addr) (bs : List Int) : Prop := ∀ i u, bs[i]? = some u → ∃ b off, a = some ⟨b, off, none⟩ ∧ b ∉ O ∧ w.cell? ⟨b, off + i, none⟩ = some (.int .u8 u)
theorem contains_take {bs : List Int} {v u : Int} {i : Nat} (h : bs[i]? = some u) : (bs.take (i + 1)).contains v = ((bs.take i).contains v || (v == u)) := by
  rw [List.take_add_one, h]
  rw [Bool.eq_iff_iff]
  simp [List.contains_eq_mem]

theorem indexU_c (bs : List Int) (a : Option Addr) (c : Nat) (v : Int) (hlen : bs.length ≤ 1000) (w : World) (hb : Bare w [] a bs) :
    Calls Try.prog 93 [.slice a bs.length c, .int .u8 v].toArray w fun e w' => ∃ r : { r : Int // decide (0 ≤ r) = bs.contains v }, e = .returned (.int .i64 r.1) ∧ St w [] [] w' := by
  refine enter Try.func93 rfl Try.ntmps93 rfl (St.init _) ?_
  refine WC.seq ?_
  refine WC.region ?_
  refine WL.step ?_
  refine WL.assign rfl rfl ?_
  refine WL.nil ?_
  refine WQ.then_normal ?_
  refine WC.seq ?_
  refine WC.seq ?_
  refine WC.region ?_
  refine WL.step ?_
  refine WL.move rfl rfl ?_
  refine WL.step ?_
  refine WL.lenSl F.und89 rfl rfl ?_
  refine WL.step ?_
  refine WL.move rfl rfl ?_
  refine WL.nil ?_
  refine WQ.then_normal ?_
  refine WC.block ?_
  refine WC.loop (α := Nat) (fun i => i ≤ bs.length ∧ (bs.take i).contains v = false) (fun i => [(0, .slice a bs.length c), (1, .int .u8 v), (7, .int .i64 (bs.length : Int)), (8, .int .i64 (i : Int))]) (fun _ => []) (fun i => bs.length - i) (0) ?_ ?_ ?_ ?_
  · exact ⟨Nat.zero_le _, rfl⟩
  · exact ⟨rfl, rfl, rfl, rfl, trivial⟩
  · rfl
  rintro i ⟨hi, hno⟩
  refine WC.seq ?_
  refine WC.region ?_
  refine WL.step ?_
  refine WL.ltI rfl rfl rfl ?_
  refine WL.nil ?_
  refine WQ.then_normal ?_
  refine WC.seq ?_
  refine WC.cond rfl (fun h9 => ?_) (fun h9 => ?_)
  · skip
    have hlt : i < bs.length := by simpa using h9
    obtain ⟨u, hu⟩ : ∃ u, bs[i]? = some u := ⟨_, List.getElem?_eq_getElem hlt⟩
    obtain ⟨b, off, rfl, hbo, hcell⟩ := hb i u hu
    refine WC.skip ?_
    refine WQ.then_normal ?_
    refine WC.seq ?_
    refine WC.block ?_
    refine WC.seq ?_
    refine WC.region ?_
    refine WL.step ?_
    refine WL.move rfl rfl ?_
    refine WL.step ?_
    refine WL.assign rfl rfl ?_
    refine WL.nil ?_
    refine WQ.then_normal ?_
    refine WC.seq ?_
    refine WC.region ?_
    refine WL.step ?_
    refine WL.move rfl rfl ?_
    refine WL.step ?_
    refine WL.move rfl rfl ?_
    refine WL.step ?_
    refine WL.move rfl rfl ?_
    refine WL.step ?_
    refine WL.indexAddr F.sl89 rfl rfl rfl hlt ?_
    refine WL.step ?_
    refine WL.load1 F.one5 rfl rfl (v := .int .u8 u) (fun w hS => hS.oldc (by simpa using hcell) (by simp)) ?_
    refine WL.step ?_
    refine WL.eqI rfl rfl rfl ?_
    refine WL.nil ?_
    refine WQ.then_normal ?_
    refine WC.cond rfl (fun h16 => ?_) (fun h16 => ?_)
    · skip
      refine WC.seq ?_
      refine WC.region ?_
      refine WL.step ?_
      refine WL.move rfl rfl ?_
      refine WL.step ?_
      refine WL.assign rfl rfl ?_
      refine WL.nil ?_
      refine WQ.then_normal ?_
      refine WC.ret ?_
      refine WQ.block_ret ?_
      refine WQ.then_ret ?_
      refine WQ.then_ret ?_
      refine WQ.block_ret ?_
      refine WQ.then_ret ?_
      refine WQ.ret (rs := [.tmp 4]) rfl (.tmp rfl .nil) (fun w hS => ⟨⟨(i : Int), ?_⟩, rfl, hS⟩)
      have h2 : bs.contains v = true := by
        have hvu : v = u := by simpa using h16
        subst hvu
        simpa using List.mem_of_getElem? hu
      rw [h2]; simp
    · skip
      refine WC.skip ?_
      refine WQ.block_normal ?_
      refine WQ.then_normal ?_
      refine WC.region ?_
      refine WL.step ?_
      refine WL.add rfl rfl rfl ⟨by omega, by omega⟩ ?_
      refine WL.step ?_
      refine WL.move rfl rfl ?_
      refine WL.nil ?_
      refine WQ.back (i + 1) ?_ ?_ ?_ ?_
      · exact ⟨by omega, by rw [contains_take hu, hno, h16]; rfl⟩
      · omega
      · exact ⟨rfl, rfl, rfl, rfl, trivial⟩
      · rfl
  · skip
    have hie : i = bs.length := by simp at h9; omega
    subst hie
    rw [List.take_length] at hno
    refine WC.exit ?_
    refine WQ.then_exit ?_
    refine WQ.then_exit ?_
    refine WQ.block_exit ?_
    refine WQ.then_normal ?_
    refine WC.seq ?_
    refine WC.region ?_
    refine WL.step ?_
    refine WL.assign rfl rfl ?_
    refine WL.nil ?_
    refine WQ.then_normal ?_
    refine WC.ret ?_
    refine WQ.ret (rs := [.tmp 4]) rfl (.tmp rfl .nil) (fun w hS => ⟨⟨-1, ?_⟩, rfl, hS⟩)
    rw [hno]; rfl

theorem containsU_c (bs : List Int) (a : Option Addr) (c : Nat) (v : Int) (hlen : bs.length ≤ 1000) (w : World) (hb : Bare w [] a bs) : Pure Try.prog 52 [.slice a bs.length c, .int .u8 v] w (.bool (bs.contains v)) := by
  refine enter Try.func52 rfl Try.ntmps52 rfl (St.init _) ?_
  refine WC.seq ?_
  refine WC.region ?_
  refine WL.step ?_
  refine WL.assign rfl rfl ?_
  refine WL.nil ?_
  refine WQ.then_normal ?_
  refine WC.seq ?_
  refine WC.region ?_
  refine WL.step ?_
  refine WL.move rfl rfl ?_
  refine WL.step ?_
  refine WL.move rfl rfl ?_
  refine WL.step ?_
  refine WL.callC (β := { r : Int // decide (0 ≤ r) = bs.contains v }) (res := fun r => .int .i64 r.1) (cs := fun _ => []) (Cs := []) (O' := []) F.fun93 (fun d h => by cases h; rfl) rfl (List.Perm.refl _) (by simp) (by simp) (fun w hS _ => indexU_c bs a c v hlen w (fun i u hu => ?_)) (fun r => ?_)
  · obtain ⟨b, off, h1, h2, h3⟩ := hb i u hu
    exact ⟨b, off, h1, by simp, hS.oldc h3 (by simp)⟩
  refine WL.step ?_
  refine WL.geI rfl rfl rfl ?_
  refine WL.step ?_
  refine WL.assign rfl rfl ?_
  refine WL.nil ?_
  refine WQ.then_normal ?_
  refine WC.ret ?_
  refine WQ.ret (rs := [.tmp 4]) rfl (.tmp rfl .nil) (fun w hS => ⟨?_, hS⟩)
  exact congrArg (fun b => Ending.returned (Value.bool b)) r.2

theorem sign_c (op i : Int) (w : World) : Pure Try.prog 55 [.int .u8 op, .int .i64 i] w (.string (str (Fm.signS op i))) := by
  refine enter Try.func55 rfl Try.ntmps55 rfl (St.init _) ?_
  refine WC.seq ?_
  refine WC.region ?_
  refine WL.step ?_
  refine WL.assign rfl rfl ?_
  refine WL.nil ?_
  refine WQ.then_normal ?_
  refine WC.seq ?_
  refine WC.seq ?_
  refine WC.region ?_
  refine WL.step ?_
  refine WL.move rfl rfl ?_
  refine WL.nil ?_
  refine WQ.then_normal ?_
  refine WC.block ?_
  refine WC.seq ?_
  refine WC.region ?_
  refine WL.step ?_
  refine WL.eqI rfl rfl rfl ?_
  refine WL.step ?_
  refine WL.assign rfl rfl ?_
  refine WL.nil ?_
  refine WQ.then_normal ?_
  refine WC.cond rfl (fun h6 => ?_) (fun h6 => ?_)
  · skip
    refine WC.seq ?_
    refine WC.region ?_
    refine WL.step ?_
    refine WL.assign rfl rfl ?_
    refine WL.nil ?_
    refine WQ.then_normal ?_
    refine WC.ret ?_
    refine WQ.block_ret ?_
    refine WQ.then_ret ?_
    exact WQ.ret (rs := [.tmp 4]) rfl (.tmp rfl .nil) (fun w hS => ⟨by simp_all [tup, Fm.signS, str], hS⟩)
  · skip
    refine WC.seq ?_
    refine WC.region ?_
    refine WL.step ?_
    refine WL.eqI rfl rfl rfl ?_
    refine WL.step ?_
    refine WL.assign rfl rfl ?_
    refine WL.nil ?_
    refine WQ.then_normal ?_
    refine WC.cond rfl (fun h8 => ?_) (fun h8 => ?_)
    · skip
      refine WC.seq ?_
      refine WC.region ?_
      refine WL.step ?_
      refine WL.assign rfl rfl ?_
      refine WL.nil ?_
      refine WQ.then_normal ?_
      refine WC.ret ?_
      refine WQ.block_ret ?_
      refine WQ.then_ret ?_
      exact WQ.ret (rs := [.tmp 4]) rfl (.tmp rfl .nil) (fun w hS => ⟨by simp_all [tup, Fm.signS, str], hS⟩)
    · skip
      refine WC.seq ?_
      refine WC.region ?_
      refine WL.step ?_
      refine WL.eqI rfl rfl rfl ?_
      refine WL.step ?_
      refine WL.assign rfl rfl ?_
      refine WL.nil ?_
      refine WQ.then_normal ?_
      refine WC.cond rfl (fun h10 => ?_) (fun h10 => ?_)
      · skip
        refine WC.seq ?_
        refine WC.region ?_
        refine WL.step ?_
        refine WL.assign rfl rfl ?_
        refine WL.nil ?_
        refine WQ.then_normal ?_
        refine WC.ret ?_
        refine WQ.block_ret ?_
        refine WQ.then_ret ?_
        exact WQ.ret (rs := [.tmp 4]) rfl (.tmp rfl .nil) (fun w hS => ⟨by simp_all [tup, Fm.signS, str], hS⟩)
      · skip
        refine WC.seq ?_
        refine WC.region ?_
        refine WL.step ?_
        refine WL.eqI rfl rfl rfl ?_
        refine WL.step ?_
        refine WL.assign rfl rfl ?_
        refine WL.nil ?_
        refine WQ.then_normal ?_
        refine WC.cond rfl (fun h12 => ?_) (fun h12 => ?_)
        · skip
          refine WC.seq ?_
          refine WC.region ?_
          refine WL.step ?_
          refine WL.assign rfl rfl ?_
          refine WL.nil ?_
          refine WQ.then_normal ?_
          refine WC.ret ?_
          refine WQ.block_ret ?_
          refine WQ.then_ret ?_
          exact WQ.ret (rs := [.tmp 4]) rfl (.tmp rfl .nil) (fun w hS => ⟨by simp_all [tup, Fm.signS, str], hS⟩)
        · skip
          refine WC.seq ?_
          refine WC.region ?_
          refine WL.step ?_
          refine WL.eqI rfl rfl rfl ?_
          refine WL.step ?_
          refine WL.assign rfl rfl ?_
          refine WL.nil ?_
          refine WQ.then_normal ?_
          refine WC.cond rfl (fun h14 => ?_) (fun h14 => ?_)
          · skip
            refine WC.seq ?_
            refine WC.region ?_
            refine WL.step ?_
            refine WL.assign rfl rfl ?_
            refine WL.nil ?_
            refine WQ.then_normal ?_
            refine WC.ret ?_
            refine WQ.block_ret ?_
            refine WQ.then_ret ?_
            exact WQ.ret (rs := [.tmp 4]) rfl (.tmp rfl .nil) (fun w hS => ⟨by simp_all [tup, Fm.signS, str], hS⟩)
          · skip
            refine WC.skip ?_
            refine WQ.block_normal ?_
            refine WQ.then_normal ?_
            refine WC.seq ?_
            refine WC.seq ?_
            refine WC.region ?_
            refine WL.step ?_
            refine WL.move rfl rfl ?_
            refine WL.step ?_
            refine WL.eqI rfl rfl rfl ?_
            refine WL.nil ?_
            refine WQ.then_normal ?_
            refine WC.cond rfl (fun h17 => ?_) (fun h17 => ?_)
            · skip
              refine WC.seq ?_
              refine WC.region ?_
              refine WL.step ?_
              refine WL.assign rfl rfl ?_
              refine WL.nil ?_
              refine WQ.then_normal ?_
              refine WC.ret ?_
              refine WQ.then_ret ?_
              exact WQ.ret (rs := [.tmp 4]) rfl (.tmp rfl .nil) (fun w hS => ⟨by simp_all [tup, Fm.signS, str], hS⟩)
            · skip
              refine WC.skip ?_
              refine WQ.then_normal ?_
              refine WC.seq ?_
              refine WC.region ?_
              refine WL.step ?_
              refine WL.assign rfl rfl ?_
              refine WL.nil ?_
              refine WQ.then_normal ?_
              refine WC.ret ?_
              exact WQ.ret (rs := [.tmp 4]) rfl (.tmp rfl .nil) (fun w hS => ⟨by simp_all [tup, Fm.signS, str], hS⟩)

theorem bare_c (op i : Int) (w : World) :
    Calls Try.prog 56 [.int .u8 op, .int .i64 i].toArray w fun e w' => ∃ x : Nat × Option Addr × Nat, (x.2.1 = some ⟨x.1, 0, none⟩ ∨ Fm.bareN op i = 0) ∧ e = .returned (.slice x.2.1 (Fm.bareL.take (Fm.bareN op i)).length x.2.2) ∧ St w [] [pt x.1 (Fm.bareL.map (Value.int .u8)) 5] w' := by
  refine enter Try.func56 rfl Try.ntmps56 rfl (St.init _) ?_
  refine WC.seq ?_
  refine WC.region ?_
  refine WL.step ?_
  refine WL.assign rfl rfl ?_
  refine WL.nil ?_
  refine WQ.then_normal ?_
  refine WC.seq ?_
  refine WC.region ?_
  refine WL.step ?_
  refine WL.buildSlice F.sl89 F.ez89 rfl rfl rfl rfl (by repeat (first | exact Built.nil | apply Built.one rfl rfl (by repeat constructor) | apply Built.agg rfl rfl (by repeat constructor))) rfl (fun b6 => ?_)
  refine WL.step ?_
  refine WL.assign rfl rfl ?_
  refine WL.nil ?_
  refine WQ.then_normal ?_
  refine WC.seq ?_
  refine WC.block ?_
  refine WC.seq ?_
  refine WC.region ?_
  refine WL.step ?_
  refine WL.move rfl rfl ?_
  refine WL.step ?_
  refine WL.eqI rfl rfl rfl ?_
  refine WL.step ?_
  refine WL.assign rfl rfl ?_
  refine WL.nil ?_
  refine WQ.then_normal ?_
  refine WC.cond rfl (fun h7 => ?_) (fun h7 => ?_)
  · skip
    refine WC.seq ?_
    refine WC.region ?_
    refine WL.step ?_
    refine WL.assign rfl rfl ?_
    refine WL.nil ?_
    refine WQ.then_normal ?_
    refine WC.ret ?_
    refine WQ.block_ret ?_
    refine WQ.then_ret ?_
    refine WQ.ret (rs := [.tmp 4]) rfl (.tmp rfl .nil) (fun w hS => ?_)
    first | (refine ⟨(b6, some ⟨b6, 0, none⟩, 6), .inl rfl, ?_, hS⟩; simp_all [tup, Fm.bareN, Fm.bareL]; done) | (refine ⟨(b6, none, 0), .inr ?_, ?_, hS⟩ <;> simp_all [tup, Fm.bareN, Fm.bareL]; done)
  · skip
    refine WC.seq ?_
    refine WC.region ?_
    refine WL.step ?_
    refine WL.move rfl rfl ?_
    refine WL.step ?_
    refine WL.eqI rfl rfl rfl ?_
    refine WL.step ?_
    refine WL.assign rfl rfl ?_
    refine WL.nil ?_
    refine WQ.then_normal ?_
    refine WC.cond rfl (fun h10 => ?_) (fun h10 => ?_)
    · skip
      refine WC.seq ?_
      refine WC.region ?_
      refine WL.step ?_
      refine WL.move rfl rfl ?_
      refine WL.step ?_
      refine WL.y (F := fun _ => True) (Yl.sliceSlTo (n := 1) F.sl89 rfl rfl (by decide)) rfl (fun _ _ => trivial) ?_
      refine WL.step ?_
      refine WL.assign rfl rfl ?_
      refine WL.nil ?_
      refine WQ.then_normal ?_
      refine WC.ret ?_
      refine WQ.block_ret ?_
      refine WQ.then_ret ?_
      refine WQ.ret (rs := [.tmp 4]) rfl (.tmp rfl .nil) (fun w hS => ?_)
      first | (refine ⟨(b6, some ⟨b6, 0, none⟩, 6), .inl rfl, ?_, hS⟩; simp_all [tup, Fm.bareN, Fm.bareL]; done) | (refine ⟨(b6, none, 0), .inr ?_, ?_, hS⟩ <;> simp_all [tup, Fm.bareN, Fm.bareL]; done)
    · skip
      refine WC.seq ?_
      refine WC.region ?_
      refine WL.step ?_
      refine WL.move rfl rfl ?_
      refine WL.step ?_
      refine WL.eqI rfl rfl rfl ?_
      refine WL.step ?_
      refine WL.assign rfl rfl ?_
      refine WL.nil ?_
      refine WQ.then_normal ?_
      refine WC.cond rfl (fun h15 => ?_) (fun h15 => ?_)
      · skip
        refine WC.seq ?_
        refine WC.region ?_
        refine WL.step ?_
        refine WL.move rfl rfl ?_
        refine WL.step ?_
        refine WL.y (F := fun _ => True) (Yl.sliceSlTo (n := 2) F.sl89 rfl rfl (by decide)) rfl (fun _ _ => trivial) ?_
        refine WL.step ?_
        refine WL.assign rfl rfl ?_
        refine WL.nil ?_
        refine WQ.then_normal ?_
        refine WC.ret ?_
        refine WQ.block_ret ?_
        refine WQ.then_ret ?_
        refine WQ.ret (rs := [.tmp 4]) rfl (.tmp rfl .nil) (fun w hS => ?_)
        first | (refine ⟨(b6, some ⟨b6, 0, none⟩, 6), .inl rfl, ?_, hS⟩; simp_all [tup, Fm.bareN, Fm.bareL]; done) | (refine ⟨(b6, none, 0), .inr ?_, ?_, hS⟩ <;> simp_all [tup, Fm.bareN, Fm.bareL]; done)
      · skip
        refine WC.seq ?_
        refine WC.region ?_
        refine WL.step ?_
        refine WL.move rfl rfl ?_
        refine WL.step ?_
        refine WL.eqI rfl rfl rfl ?_
        refine WL.step ?_
        refine WL.move rfl rfl ?_
        refine WA.splitB (i := 23) rfl (fun h23 => ?_) (fun h23 => ?_)
        · skip
          refine WL.step (WL.guardT rfl rfl rfl ?_)
          refine WL.move rfl rfl ?_
          refine WL.step (WL.guardT rfl rfl rfl ?_)
          refine WL.eqI rfl rfl rfl ?_
          refine WL.step ?_
          refine WL.pickT rfl rfl rfl ?_
          refine WL.step ?_
          refine WL.assign rfl rfl ?_
          refine WL.nil ?_
          refine WQ.then_normal ?_
          refine WC.cond rfl (fun h20 => ?_) (fun h20 => ?_)
          · skip
            refine WC.seq ?_
            refine WC.region ?_
            refine WL.step ?_
            refine WL.move rfl rfl ?_
            refine WL.step ?_
            refine WL.y (F := fun _ => True) (Yl.sliceSlTo (n := 3) F.sl89 rfl rfl (by decide)) rfl (fun _ _ => trivial) ?_
            refine WL.step ?_
            refine WL.assign rfl rfl ?_
            refine WL.nil ?_
            refine WQ.then_normal ?_
            refine WC.ret ?_
            refine WQ.block_ret ?_
            refine WQ.then_ret ?_
            refine WQ.ret (rs := [.tmp 4]) rfl (.tmp rfl .nil) (fun w hS => ?_)
            first | (refine ⟨(b6, some ⟨b6, 0, none⟩, 6), .inl rfl, ?_, hS⟩; simp_all [tup, Fm.bareN, Fm.bareL]; done) | (refine ⟨(b6, none, 0), .inr ?_, ?_, hS⟩ <;> simp_all [tup, Fm.bareN, Fm.bareL]; done)
          · skip
            refine WC.seq ?_
            refine WC.region ?_
            refine WL.step ?_
            refine WL.move rfl rfl ?_
            refine WL.step ?_
            refine WL.eqI rfl rfl rfl ?_
            refine WL.step ?_
            refine WL.move rfl rfl ?_
            refine WA.splitB (i := 32) rfl (fun h32 => ?_) (fun h32 => ?_)
            · skip
              refine WL.step (WL.guardF rfl rfl rfl rfl rfl rfl ?_)
              refine WL.step (WL.guardF rfl rfl rfl rfl rfl rfl ?_)
              refine WL.step ?_
              refine WL.pickT rfl rfl rfl ?_
              refine WL.step ?_
              refine WL.assign rfl rfl ?_
              refine WL.nil ?_
              refine WQ.then_normal ?_
              refine WC.condT rfl ?_
              refine WC.seq ?_
              refine WC.region ?_
              refine WL.step ?_
              refine WL.move rfl rfl ?_
              refine WL.step ?_
              refine WL.y (F := fun _ => True) (Yl.sliceSlTo (n := 4) F.sl89 rfl rfl (by decide)) rfl (fun _ _ => trivial) ?_
              refine WL.step ?_
              refine WL.assign rfl rfl ?_
              refine WL.nil ?_
              refine WQ.then_normal ?_
              refine WC.ret ?_
              refine WQ.block_ret ?_
              refine WQ.then_ret ?_
              refine WQ.ret (rs := [.tmp 4]) rfl (.tmp rfl .nil) (fun w hS => ?_)
              first | (refine ⟨(b6, some ⟨b6, 0, none⟩, 6), .inl rfl, ?_, hS⟩; simp_all [tup, Fm.bareN, Fm.bareL]; done) | (refine ⟨(b6, none, 0), .inr ?_, ?_, hS⟩ <;> simp_all [tup, Fm.bareN, Fm.bareL]; done)
            · skip
              refine WL.step (WL.guardT rfl rfl rfl ?_)
              refine WL.move rfl rfl ?_
              refine WL.step (WL.guardT rfl rfl rfl ?_)
              refine WL.eqI rfl rfl rfl ?_
              refine WL.step ?_
              refine WL.pickF rfl rfl rfl ?_
              refine WL.step ?_
              refine WL.assign rfl rfl ?_
              refine WL.nil ?_
              refine WQ.then_normal ?_
              refine WC.cond rfl (fun h29 => ?_) (fun h29 => ?_)
              · skip
                refine WC.seq ?_
                refine WC.region ?_
                refine WL.step ?_
                refine WL.move rfl rfl ?_
                refine WL.step ?_
                refine WL.y (F := fun _ => True) (Yl.sliceSlTo (n := 4) F.sl89 rfl rfl (by decide)) rfl (fun _ _ => trivial) ?_
                refine WL.step ?_
                refine WL.assign rfl rfl ?_
                refine WL.nil ?_
                refine WQ.then_normal ?_
                refine WC.ret ?_
                refine WQ.block_ret ?_
                refine WQ.then_ret ?_
                refine WQ.ret (rs := [.tmp 4]) rfl (.tmp rfl .nil) (fun w hS => ?_)
                first | (refine ⟨(b6, some ⟨b6, 0, none⟩, 6), .inl rfl, ?_, hS⟩; simp_all [tup, Fm.bareN, Fm.bareL]; done) | (refine ⟨(b6, none, 0), .inr ?_, ?_, hS⟩ <;> simp_all [tup, Fm.bareN, Fm.bareL]; done)
              · skip
                refine WC.seq ?_
                refine WC.region ?_
                refine WL.step ?_
                refine WL.move rfl rfl ?_
                refine WL.step ?_
                refine WL.eqI rfl rfl rfl ?_
                refine WL.step ?_
                refine WL.assign rfl rfl ?_
                refine WL.nil ?_
                refine WQ.then_normal ?_
                refine WC.cond rfl (fun h38 => ?_) (fun h38 => ?_)
                · skip
                  refine WC.seq ?_
                  refine WC.region ?_
                  refine WL.step ?_
                  refine WL.move rfl rfl ?_
                  refine WL.step ?_
                  refine WL.y (F := fun _ => True) (Yl.sliceSlTo (n := 5) F.sl89 rfl rfl (by decide)) rfl (fun _ _ => trivial) ?_
                  refine WL.step ?_
                  refine WL.assign rfl rfl ?_
                  refine WL.nil ?_
                  refine WQ.then_normal ?_
                  refine WC.ret ?_
                  refine WQ.block_ret ?_
                  refine WQ.then_ret ?_
                  refine WQ.ret (rs := [.tmp 4]) rfl (.tmp rfl .nil) (fun w hS => ?_)
                  first | (refine ⟨(b6, some ⟨b6, 0, none⟩, 6), .inl rfl, ?_, hS⟩; simp_all [tup, Fm.bareN, Fm.bareL]; done) | (refine ⟨(b6, none, 0), .inr ?_, ?_, hS⟩ <;> simp_all [tup, Fm.bareN, Fm.bareL]; done)
                · skip
                  refine WC.skip ?_
                  refine WQ.block_normal ?_
                  refine WQ.then_normal ?_
                  refine WC.seq ?_
                  refine WC.region ?_
                  refine WL.step ?_
                  refine WL.move rfl rfl ?_
                  refine WL.step ?_
                  refine WL.assign rfl rfl ?_
                  refine WL.nil ?_
                  refine WQ.then_normal ?_
                  refine WC.ret ?_
                  refine WQ.ret (rs := [.tmp 4]) rfl (.tmp rfl .nil) (fun w hS => ?_)
                  first | (refine ⟨(b6, some ⟨b6, 0, none⟩, 6), .inl rfl, ?_, hS⟩; simp_all [tup, Fm.bareN, Fm.bareL]; done) | (refine ⟨(b6, none, 0), .inr ?_, ?_, hS⟩ <;> simp_all [tup, Fm.bareN, Fm.bareL]; done)
        · skip
          refine WL.step (WL.guardF rfl rfl rfl rfl rfl rfl ?_)
          refine WL.step (WL.guardF rfl rfl rfl rfl rfl rfl ?_)
          refine WL.step ?_
          refine WL.pickF rfl rfl rfl ?_
          refine WL.step ?_
          refine WL.assign rfl rfl ?_
          refine WL.nil ?_
          refine WQ.then_normal ?_
          refine WC.condF rfl ?_
          refine WC.seq ?_
          refine WC.region ?_
          refine WL.step ?_
          refine WL.move rfl rfl ?_
          refine WL.step ?_
          refine WL.eqI rfl rfl rfl ?_
          refine WL.step ?_
          refine WL.move rfl rfl ?_
          refine WA.splitB (i := 32) rfl (fun h32 => ?_) (fun h32 => ?_)
          · skip
            refine WL.step (WL.guardF rfl rfl rfl rfl rfl rfl ?_)
            refine WL.step (WL.guardF rfl rfl rfl rfl rfl rfl ?_)
            refine WL.step ?_
            refine WL.pickT rfl rfl rfl ?_
            refine WL.step ?_
            refine WL.assign rfl rfl ?_
            refine WL.nil ?_
            refine WQ.then_normal ?_
            refine WC.condT rfl ?_
            refine WC.seq ?_
            refine WC.region ?_
            refine WL.step ?_
            refine WL.move rfl rfl ?_
            refine WL.step ?_
            refine WL.y (F := fun _ => True) (Yl.sliceSlTo (n := 4) F.sl89 rfl rfl (by decide)) rfl (fun _ _ => trivial) ?_
            refine WL.step ?_
            refine WL.assign rfl rfl ?_
            refine WL.nil ?_
            refine WQ.then_normal ?_
            refine WC.ret ?_
            refine WQ.block_ret ?_
            refine WQ.then_ret ?_
            refine WQ.ret (rs := [.tmp 4]) rfl (.tmp rfl .nil) (fun w hS => ?_)
            first | (refine ⟨(b6, some ⟨b6, 0, none⟩, 6), .inl rfl, ?_, hS⟩; simp_all [tup, Fm.bareN, Fm.bareL]; done) | (refine ⟨(b6, none, 0), .inr ?_, ?_, hS⟩ <;> simp_all [tup, Fm.bareN, Fm.bareL]; done)
          · skip
            refine WL.step (WL.guardT rfl rfl rfl ?_)
            refine WL.move rfl rfl ?_
            refine WL.step (WL.guardT rfl rfl rfl ?_)
            refine WL.eqI rfl rfl rfl ?_
            refine WL.step ?_
            refine WL.pickF rfl rfl rfl ?_
            refine WL.step ?_
            refine WL.assign rfl rfl ?_
            refine WL.nil ?_
            refine WQ.then_normal ?_
            refine WC.cond rfl (fun h29 => ?_) (fun h29 => ?_)
            · skip
              refine WC.seq ?_
              refine WC.region ?_
              refine WL.step ?_
              refine WL.move rfl rfl ?_
              refine WL.step ?_
              refine WL.y (F := fun _ => True) (Yl.sliceSlTo (n := 4) F.sl89 rfl rfl (by decide)) rfl (fun _ _ => trivial) ?_
              refine WL.step ?_
              refine WL.assign rfl rfl ?_
              refine WL.nil ?_
              refine WQ.then_normal ?_
              refine WC.ret ?_
              refine WQ.block_ret ?_
              refine WQ.then_ret ?_
              refine WQ.ret (rs := [.tmp 4]) rfl (.tmp rfl .nil) (fun w hS => ?_)
              first | (refine ⟨(b6, some ⟨b6, 0, none⟩, 6), .inl rfl, ?_, hS⟩; simp_all [tup, Fm.bareN, Fm.bareL]; done) | (refine ⟨(b6, none, 0), .inr ?_, ?_, hS⟩ <;> simp_all [tup, Fm.bareN, Fm.bareL]; done)
            · skip
              refine WC.seq ?_
              refine WC.region ?_
              refine WL.step ?_
              refine WL.move rfl rfl ?_
              refine WL.step ?_
              refine WL.eqI rfl rfl rfl ?_
              refine WL.step ?_
              refine WL.assign rfl rfl ?_
              refine WL.nil ?_
              refine WQ.then_normal ?_
              refine WC.cond rfl (fun h38 => ?_) (fun h38 => ?_)
              · skip
                refine WC.seq ?_
                refine WC.region ?_
                refine WL.step ?_
                refine WL.move rfl rfl ?_
                refine WL.step ?_
                refine WL.y (F := fun _ => True) (Yl.sliceSlTo (n := 5) F.sl89 rfl rfl (by decide)) rfl (fun _ _ => trivial) ?_
                refine WL.step ?_
                refine WL.assign rfl rfl ?_
                refine WL.nil ?_
                refine WQ.then_normal ?_
                refine WC.ret ?_
                refine WQ.block_ret ?_
                refine WQ.then_ret ?_
                refine WQ.ret (rs := [.tmp 4]) rfl (.tmp rfl .nil) (fun w hS => ?_)
                first | (refine ⟨(b6, some ⟨b6, 0, none⟩, 6), .inl rfl, ?_, hS⟩; simp_all [tup, Fm.bareN, Fm.bareL]; done) | (refine ⟨(b6, none, 0), .inr ?_, ?_, hS⟩ <;> simp_all [tup, Fm.bareN, Fm.bareL]; done)
              · skip
                refine WC.skip ?_
                refine WQ.block_normal ?_
                refine WQ.then_normal ?_
                refine WC.seq ?_
                refine WC.region ?_
                refine WL.step ?_
                refine WL.move rfl rfl ?_
                refine WL.step ?_
                refine WL.assign rfl rfl ?_
                refine WL.nil ?_
                refine WQ.then_normal ?_
                refine WC.ret ?_
                refine WQ.ret (rs := [.tmp 4]) rfl (.tmp rfl .nil) (fun w hS => ?_)
                first | (refine ⟨(b6, some ⟨b6, 0, none⟩, 6), .inl rfl, ?_, hS⟩; simp_all [tup, Fm.bareN, Fm.bareL]; done) | (refine ⟨(b6, none, 0), .inr ?_, ?_, hS⟩ <;> simp_all [tup, Fm.bareN, Fm.bareL]; done)

end Go.Proofs.Ytbippghgkbapnaa
