import Derived.Test.YtbippghgkbapnaaEng12
import Derived.Test.YtbippghgkbapnaaM12
import Derived.Test.YtbippghgkbapnaaSpec
import Derived.Test.YtbippghgkbapnaaFacts
set_option linter.unusedSimpArgs false
set_option linter.unusedVariables false
namespace Go.Proofs.Ytbippghgkbapnaa
open Go Go.Eng Go.Proofs
theorem _root_.Go.Eng.Yl.as {P : Program} {N : Nat} {D : List Deferred} {L : FL} {F : World → Prop} {o : Oper} {v v' : Value} (h : Yl P N D L F o v) (e : v = v') : Yl P N D L F o v' := e ▸ h
abbrev kv (k : Fm.Kn) : Value := .agg [.int .u32 (k.1 : Int), .int .u32 (k.2 : Int)].toArray
def KB (k : Fm.Kn) : Prop := k.1 < 4294967296 ∧ k.2 < 4294967296
/-- A clause in memory. -/
def RdC (w : World) (c : List Int) (a : Option Addr) : Prop := ∀ j x, c[j]? = some x → ∃ b off, a = some ⟨b, off, none⟩ ∧ w.cell? ⟨b, off + j, none⟩ = some (.int .i64 x)
theorem RdC.next {w0 w : World} {C : List Chunk} {c : List Int} {a : Option Addr} (h : RdC w0 c a) (hS : St w0 [] C w) : RdC w c a := fun j x hx => by
  obtain ⟨b, off, ha, hc⟩ := h j x hx
  exact ⟨b, off, ha, hS.oldc hc (by simp)⟩
/-- A list of clauses in memory, by their headers. -/
structure RdLL (w : World) (ls : List (List Int)) (a : Option Addr) (us : List Value) : Prop where
  len : us.length = ls.length
  hd : ∀ (i : Nat) (u : Value), us[i]? = some u → ∃ b off, a = some ⟨b, off, none⟩ ∧ w.cell? ⟨b, off + i, none⟩ = some u
  rd : ∀ (i : Nat) (c : List Int) (u : Value), ls[i]? = some c → us[i]? = some u → ∃ (a1 : Option Addr) (cap : Nat), u = Value.slice a1 c.length cap ∧ RdC w c a1
theorem RdLL.next {w0 w : World} {C : List Chunk} {ls : List (List Int)} {a : Option Addr} {us : List Value} (h : RdLL w0 ls a us) (hS : St w0 [] C w) : RdLL w ls a us :=
  ⟨h.len, fun i u hu => by
    obtain ⟨b, off, ha, hc⟩ := h.hd i u hu
    exact ⟨b, off, ha, hS.oldc hc (by simp)⟩, fun i c u hc hu => by
    obtain ⟨a1, cap, h1, h2⟩ := h.rd i c u hc hu
    exact ⟨a1, cap, h1, h2.next hS⟩⟩
theorem RdLL.at {w : World} {ls : List (List Int)} {a : Option Addr} {us : List Value} {i : Nat} (h : RdLL w ls a us) (hi : i < ls.length) : ∃ c b off a1 cap, ls[i]? = some c ∧ a = some ⟨b, off, none⟩ ∧ w.cell? ⟨b, off + i, none⟩ = some (.slice a1 c.length cap) ∧ RdC w c a1 := by
  have hi' : i < us.length := by rw [h.len]; exact hi
  have h1 : us[i]? = some us[i] := List.getElem?_eq_getElem hi'
  have h2 : ls[i]? = some ls[i] := List.getElem?_eq_getElem hi
  obtain ⟨b, off, ha, hc⟩ := h.hd i _ h1
  obtain ⟨a1, cap, hu, hr⟩ := h.rd i _ _ h2 h1
  exact ⟨ls[i], b, off, a1, cap, h2, ha, by rw [hc, hu], hr⟩

theorem literal_c (n l : Int) (hn : -1000 ≤ n ∧ n ≤ 1000) (w : World) : Pure Try.prog 73 [.int .i64 n, .int .i64 l] w (.bool (Fm.litB n l)) := by
  refine enter Try.func73 rfl Try.ntmps73 rfl (St.init _) ?_
  refine WC.seq ?_
  refine WC.region ?_
  refine WL.step ?_
  refine WL.assign rfl rfl ?_
  refine WL.nil ?_
  refine WQ.then_normal ?_
  refine WC.seq ?_
  refine WC.region ?_
  refine WL.step ?_
  refine WL.move rfl rfl ?_
  refine WL.step ?_
  refine WL.neI rfl rfl rfl ?_
  refine WL.step ?_
  refine WL.move rfl rfl ?_
  refine WA.splitB (i := 7) rfl (fun h7 => ?_) (fun h7 => ?_)
  · skip
    refine WL.step (WL.guardT rfl rfl rfl ?_)
    refine WL.move rfl rfl ?_
    refine WL.step (WL.guardT rfl rfl rfl ?_)
    refine WL.move rfl rfl ?_
    refine WL.step (WL.guardT rfl rfl rfl ?_)
    refine WL.negI rfl rfl (by omega) ?_
    refine WL.step (WL.guardT rfl rfl rfl ?_)
    refine WL.geI rfl rfl rfl ?_
    refine WL.step ?_
    refine WL.pickT rfl rfl rfl ?_
    refine WL.step ?_
    refine WL.move rfl rfl ?_
    refine WA.splitB (i := 13) rfl (fun h13 => ?_) (fun h13 => ?_)
    · skip
      refine WL.step (WL.guardT rfl rfl rfl ?_)
      refine WL.move rfl rfl ?_
      refine WL.step (WL.guardT rfl rfl rfl ?_)
      refine WL.move rfl rfl ?_
      refine WL.step (WL.guardT rfl rfl rfl ?_)
      refine WL.leI rfl rfl rfl ?_
      refine WL.step ?_
      refine WL.pickT rfl rfl rfl ?_
      refine WL.step ?_
      refine WL.assign rfl rfl ?_
      refine WL.nil ?_
      refine WQ.then_normal ?_
      refine WC.ret ?_
      refine WQ.ret (rs := [.tmp 4]) rfl (.tmp rfl .nil) (fun w hS => ⟨?_, hS⟩)
      first | (simp_all [tup, Fm.litB]; done) | (simp_all [tup, Fm.litB]; omega)
    · skip
      refine WL.step (WL.guardF rfl rfl rfl rfl rfl rfl ?_)
      refine WL.step (WL.guardF rfl rfl rfl rfl rfl rfl ?_)
      refine WL.step (WL.guardF rfl rfl rfl rfl rfl rfl ?_)
      refine WL.step ?_
      refine WL.pickF rfl rfl rfl ?_
      refine WL.step ?_
      refine WL.assign rfl rfl ?_
      refine WL.nil ?_
      refine WQ.then_normal ?_
      refine WC.ret ?_
      refine WQ.ret (rs := [.tmp 4]) rfl (.tmp rfl .nil) (fun w hS => ⟨?_, hS⟩)
      first | (simp_all [tup, Fm.litB]; done) | (simp_all [tup, Fm.litB]; omega)
  · skip
    refine WL.step (WL.guardF rfl rfl rfl rfl rfl rfl ?_)
    refine WL.step (WL.guardF rfl rfl rfl rfl rfl rfl ?_)
    refine WL.step (WL.guardF rfl rfl rfl rfl rfl rfl ?_)
    refine WL.step (WL.guardF rfl rfl rfl rfl rfl rfl ?_)
    refine WL.step ?_
    refine WL.pickF rfl rfl rfl ?_
    refine WL.step ?_
    refine WL.move rfl rfl ?_
    refine WL.step (WL.guardF rfl rfl rfl rfl rfl rfl ?_)
    refine WL.step (WL.guardF rfl rfl rfl rfl rfl rfl ?_)
    refine WL.step (WL.guardF rfl rfl rfl rfl rfl rfl ?_)
    refine WL.step ?_
    refine WL.pickF rfl rfl rfl ?_
    refine WL.step ?_
    refine WL.assign rfl rfl ?_
    refine WL.nil ?_
    refine WQ.then_normal ?_
    refine WC.ret ?_
    refine WQ.ret (rs := [.tmp 4]) rfl (.tmp rfl .nil) (fun w hS => ⟨?_, hS⟩)
    first | (simp_all [tup, Fm.litB]; done) | (simp_all [tup, Fm.litB]; omega)

theorem fits1_c (n l : Int) (hn : -1000 ≤ n ∧ n ≤ 1000) (bn : Nat) (w : World) (hb : w.heap[bn]? = some (.cells [Value.int .i64 n].toArray 3 (0, 0))) : Pure Try.prog 101 [.int .i64 l, pp bn] w (.bool (!Fm.litB n l)) := by
  refine enter Try.func101 rfl Try.ntmps101 rfl (St.init _) ?_
  refine WC.seq ?_
  refine WC.region ?_
  refine WL.step ?_
  refine WL.assign rfl rfl ?_
  refine WL.nil ?_
  refine WQ.then_normal ?_
  refine WC.seq ?_
  refine WC.region ?_
  refine WL.step ?_
  refine WL.load1 F.one3 rfl rfl (fun w hS => hS.oldc (cell_of_heap hb rfl) (by simp)) ?_
  refine WL.step ?_
  refine WL.move rfl rfl ?_
  refine WL.step ?_
  refine WL.callV F.fun73 rfl rfl (fun w _ => literal_c n l hn w) ?_
  refine WL.step ?_
  refine WL.not rfl rfl ?_
  refine WL.step ?_
  refine WL.assign rfl rfl ?_
  refine WL.nil ?_
  refine WQ.then_normal ?_
  refine WC.ret ?_
  exact WQ.ret (rs := [.tmp 3]) rfl (.tmp rfl .nil) (fun w hS => ⟨rfl, hS⟩)

theorem all_take {p : Int → Bool} {c : List Int} {i : Nat} {x : Int} (h : c[i]? = some x) : (c.take (i + 1)).all p = ((c.take i).all p && p x) := by
  rw [List.take_add_one, h]; simp

theorem indexC_c (n : Int) (hn : -1000 ≤ n ∧ n ≤ 1000) (c : List Int) (a : Option Addr) (cap bn : Nat) (hlen : c.length ≤ 1000) (w : World) (hb : w.heap[bn]? = some (.cells [Value.int .i64 n].toArray 3 (0, 0))) (hr : RdC w c a) :
    Calls Try.prog 111 [.slice a c.length cap, .func (.func 101) [].toArray [pp bn].toArray].toArray w fun e w' => ∃ r : { r : Int // decide (0 ≤ r) = !c.all (Fm.litB n) }, e = .returned (.int .i64 r.1) ∧ St w [] [] w' := by
  refine enter Try.func111 rfl Try.ntmps111 rfl (St.init _) ?_
  refine WC.seq ?_
  refine WC.region ?_
  refine WL.step ?_
  refine WL.assign rfl rfl ?_
  refine WL.nil ?_
  refine WQ.then_normal ?_
  refine WC.seq ?_
  refine WC.seq ?_
  refine WC.region ?_
  refine WL.step ?_
  refine WL.move rfl rfl ?_
  refine WL.step ?_
  refine WL.lenSl F.und54 rfl rfl ?_
  refine WL.step ?_
  refine WL.move rfl rfl ?_
  refine WL.nil ?_
  refine WQ.then_normal ?_
  refine WC.block ?_
  refine WC.loop (α := Nat) (fun i => i ≤ c.length ∧ (c.take i).all (Fm.litB n) = true) (fun i => [(0, .slice a c.length cap), (1, .func (.func 101) [].toArray [pp bn].toArray), (7, .int .i64 (c.length : Int)), (8, .int .i64 (i : Int))]) (fun _ => []) (fun i => c.length - i) (0) ?_ ?_ ?_ ?_
  · exact ⟨Nat.zero_le _, rfl⟩
  · exact ⟨rfl, rfl, rfl, rfl, trivial⟩
  · rfl
  rintro i ⟨hi, hno⟩
  refine WC.seq ?_
  refine WC.region ?_
  refine WL.step ?_
  refine WL.ltI rfl rfl rfl ?_
  refine WL.nil ?_
  refine WQ.then_normal ?_
  refine WC.seq ?_
  refine WC.cond rfl (fun h9 => ?_) (fun h9 => ?_)
  · skip
    have hlt : i < c.length := by simpa using h9
    obtain ⟨x, hx⟩ : ∃ x, c[i]? = some x := ⟨_, List.getElem?_eq_getElem hlt⟩
    obtain ⟨b, off, rfl, hcell⟩ := hr i x hx
    refine WC.skip ?_
    refine WQ.then_normal ?_
    refine WC.seq ?_
    refine WC.block ?_
    refine WC.seq ?_
    refine WC.region ?_
    refine WL.step ?_
    refine WL.move rfl rfl ?_
    refine WL.step ?_
    refine WL.assign rfl rfl ?_
    refine WL.nil ?_
    refine WQ.then_normal ?_
    refine WC.seq ?_
    refine WC.region ?_
    refine WL.step ?_
    refine WL.move rfl rfl ?_
    refine WL.step ?_
    refine WL.move rfl rfl ?_
    refine WL.step ?_
    refine WL.move rfl rfl ?_
    refine WL.step ?_
    refine WL.indexAddr F.sl54 rfl rfl rfl hlt ?_
    refine WL.step ?_
    refine WL.load1 F.one3 rfl rfl (v := .int .i64 x) (fun w hS => hS.oldc (by simpa using hcell) (by simp)) ?_
    refine WL.step ?_
    refine WL.callFC (β := Unit) (res := fun _ => .bool (!Fm.litB n x)) (cs := fun _ => []) (Cs := []) (O' := []) (us := []) (cap := [pp bn]) F.fun101 (fun d h => by cases h; rfl) rfl rfl (List.Perm.refl _) (by simp) (by simp) (fun w hS _ => (fits1_c n x hn bn w (hS.oldh hb (by simp))).mono (fun e w2 h => ⟨(), h⟩)) (fun _ => ?_)
    refine WL.nil ?_
    refine WQ.then_normal ?_
    refine WC.cond rfl (fun h16 => ?_) (fun h16 => ?_)
    · skip
      refine WC.seq ?_
      refine WC.region ?_
      refine WL.step ?_
      refine WL.move rfl rfl ?_
      refine WL.step ?_
      refine WL.assign rfl rfl ?_
      refine WL.nil ?_
      refine WQ.then_normal ?_
      refine WC.ret ?_
      refine WQ.block_ret ?_
      refine WQ.then_ret ?_
      refine WQ.then_ret ?_
      refine WQ.block_ret ?_
      refine WQ.then_ret ?_
      refine WQ.ret (rs := [.tmp 4]) rfl (.tmp rfl .nil) (fun w hS => ⟨⟨(i : Int), ?_⟩, rfl, hS⟩)
      have h2 : c.all (Fm.litB n) = false := by
        rw [List.all_eq_false]
        exact ⟨x, List.mem_of_getElem? hx, by simpa using h16⟩
      rw [h2]; simp
    · skip
      refine WC.skip ?_
      refine WQ.block_normal ?_
      refine WQ.then_normal ?_
      refine WC.region ?_
      refine WL.step ?_
      refine WL.add rfl rfl rfl ⟨by omega, by omega⟩ ?_
      refine WL.step ?_
      refine WL.move rfl rfl ?_
      refine WL.nil ?_
      refine WQ.back (i + 1) ?_ ?_ ?_ ?_
      · exact ⟨by omega, by rw [all_take hx, hno]; simpa using h16⟩
      · omega
      · exact ⟨rfl, rfl, rfl, rfl, trivial⟩
      · rfl
  · skip
    have hie : i = c.length := by simp at h9; omega
    subst hie
    rw [List.take_length] at hno
    refine WC.exit ?_
    refine WQ.then_exit ?_
    refine WQ.then_exit ?_
    refine WQ.block_exit ?_
    refine WQ.then_normal ?_
    refine WC.seq ?_
    refine WC.region ?_
    refine WL.step ?_
    refine WL.assign rfl rfl ?_
    refine WL.nil ?_
    refine WQ.then_normal ?_
    refine WC.ret ?_
    refine WQ.ret (rs := [.tmp 4]) rfl (.tmp rfl .nil) (fun w hS => ⟨⟨-1, ?_⟩, rfl, hS⟩)
    rw [hno]; rfl

theorem containsC_c (n : Int) (hn : -1000 ≤ n ∧ n ≤ 1000) (c : List Int) (a : Option Addr) (cap bn : Nat) (hlen : c.length ≤ 1000) (w : World) (hb : w.heap[bn]? = some (.cells [Value.int .i64 n].toArray 3 (0, 0))) (hr : RdC w c a) :
    Pure Try.prog 100 [.slice a c.length cap, .func (.func 101) [].toArray [pp bn].toArray] w (.bool (!c.all (Fm.litB n))) := by
  refine enter Try.func100 rfl Try.ntmps100 rfl (St.init _) ?_
  refine WC.seq ?_
  refine WC.region ?_
  refine WL.step ?_
  refine WL.assign rfl rfl ?_
  refine WL.nil ?_
  refine WQ.then_normal ?_
  refine WC.seq ?_
  refine WC.region ?_
  refine WL.step ?_
  refine WL.move rfl rfl ?_
  refine WL.step ?_
  refine WL.move rfl rfl ?_
  refine WL.step ?_
  refine WL.callC (β := { r : Int // decide (0 ≤ r) = !c.all (Fm.litB n) }) (res := fun r => .int .i64 r.1) (cs := fun _ => []) (Cs := []) (O' := []) F.fun111 (fun d h => by cases h; rfl) rfl (List.Perm.refl _) (by simp) (by simp) (fun w hS _ => indexC_c n hn c a cap bn hlen w (hS.oldh hb (by simp)) (hr.next hS)) (fun r => ?_)
  refine WL.step ?_
  refine WL.geI rfl rfl rfl ?_
  refine WL.step ?_
  refine WL.assign rfl rfl ?_
  refine WL.nil ?_
  refine WQ.then_normal ?_
  refine WC.ret ?_
  refine WQ.ret (rs := [.tmp 4]) rfl (.tmp rfl .nil) (fun w hS => ⟨?_, hS⟩)
  exact congrArg (fun b => Ending.returned (Value.bool b)) r.2

theorem fits_c (n : Int) (hn : -1000 ≤ n ∧ n ≤ 1000) (c : List Int) (a : Option Addr) (cap : Nat) (w : World) (hr : RdC w c a) : Pure Try.prog 72 [.int .i64 n, .slice a c.length cap] w (.bool (Fm.fitsB n c)) := by
  refine enter Try.func72 rfl Try.ntmps72 rfl (St.init _) ?_
  refine WC.seq ?_
  refine WC.region ?_
  refine WL.step ?_
  refine WL.box1 rfl rfl rfl (fun b2 => ?_)
  refine WL.step ?_
  refine WL.assign rfl rfl ?_
  refine WL.nil ?_
  refine WQ.then_normal ?_
  refine WC.seq ?_
  refine WC.region ?_
  refine WL.step ?_
  refine WL.move rfl rfl ?_
  refine WL.step ?_
  refine WL.lenSl F.und54 rfl rfl ?_
  refine WL.step ?_
  refine WL.leI rfl rfl rfl ?_
  refine WL.step ?_
  refine WL.move rfl rfl ?_
  refine WA.splitB (i := 8) rfl (fun h8 => ?_) (fun h8 => ?_)
  · skip
    have hl64 : c.length ≤ 64 := by simp at h8; omega
    refine WL.step (WL.guardT rfl rfl rfl ?_)
    refine WL.move rfl rfl ?_
    refine WL.step (WL.guardT rfl rfl rfl ?_)
    refine WL.makeFunc rfl rfl rfl ?_
    refine WL.step (WL.guardT rfl rfl rfl ?_)
    refine WL.callV F.fun100 rfl rfl (fun w hS => containsC_c n hn c a cap b2 (by omega) w (hS.heap (cs := [.int .i64 n]) (e := 3) (by repeat (first | exact List.Mem.head _ | apply List.Mem.tail))) (fun j x hx => ?_)) ?_
    · obtain ⟨b, off, ha, hc⟩ := hr j x hx
      exact ⟨b, off, ha, hS.oldc hc (by simp)⟩
    refine WL.step (WL.guardT rfl rfl rfl ?_)
    refine WL.not rfl rfl ?_
    refine WL.step ?_
    refine WL.pickT rfl rfl rfl ?_
    refine WL.step ?_
    refine WL.assign rfl rfl ?_
    refine WL.nil ?_
    refine WQ.then_normal ?_
    refine WC.ret ?_
    refine WQ.ret (rs := [.tmp 4]) rfl (.tmp rfl .nil) (fun w hS => ⟨?_, hS.drop⟩)
    first | (have h9 : c.length ≤ 64 := hl64; simp [tup, Fm.fitsB, h9]; done) | (have h9 : ¬ c.length ≤ 64 := (by simp at h8; omega); simp [tup, Fm.fitsB, h9]; done)
  · skip
    refine WL.step (WL.guardF rfl rfl rfl rfl rfl rfl ?_)
    refine WL.step (WL.guardF rfl rfl rfl rfl rfl rfl ?_)
    refine WL.step (WL.guardF rfl rfl rfl rfl rfl rfl ?_)
    refine WL.step (WL.guardF rfl rfl rfl rfl rfl rfl ?_)
    refine WL.step ?_
    refine WL.pickF rfl rfl rfl ?_
    refine WL.step ?_
    refine WL.assign rfl rfl ?_
    refine WL.nil ?_
    refine WQ.then_normal ?_
    refine WC.ret ?_
    refine WQ.ret (rs := [.tmp 4]) rfl (.tmp rfl .nil) (fun w hS => ⟨?_, hS.drop⟩)
    first | (have h9 : c.length ≤ 64 := hl64; simp [tup, Fm.fitsB, h9]; done) | (have h9 : ¬ c.length ≤ 64 := (by simp at h8; omega); simp [tup, Fm.fitsB, h9]; done)

theorem may_c (n : Int) (ls : List (List Int)) (a : Option Addr) (cap : Nat) (us : List Value) (w : World) (hr : RdLL w ls a us) : Pure Try.prog 61 [.int .i64 n, .slice a ls.length cap] w (.int .i64 (Fm.mayE n ls)) := by
  refine enter Try.func61 rfl Try.ntmps61 rfl (St.init _) ?_
  refine WC.seq ?_
  refine WC.region ?_
  refine WL.step ?_
  refine WL.assign rfl rfl ?_
  refine WL.nil ?_
  refine WQ.then_normal ?_
  refine WC.seq ?_
  refine WC.seq ?_
  refine WC.region ?_
  refine WL.step ?_
  refine WL.move rfl rfl ?_
  refine WL.step ?_
  refine WL.ltI rfl rfl rfl ?_
  refine WL.step ?_
  refine WL.move rfl rfl ?_
  refine WA.splitB (i := 9) rfl (fun h9 => ?_) (fun h9 => ?_)
  · skip
    have hm : Fm.mayE n ls = 3 := by (unfold Fm.mayE; rw [if_pos]; left; simpa using h9)
    refine WL.step (WL.guardF rfl rfl rfl rfl rfl rfl ?_)
    refine WL.step (WL.guardF rfl rfl rfl rfl rfl rfl ?_)
    refine WL.step ?_
    refine WL.pickT rfl rfl rfl ?_
    refine WL.nil ?_
    refine WQ.then_normal ?_
    refine WC.condT rfl ?_
    refine WC.seq ?_
    refine WC.region ?_
    refine WL.step ?_
    refine WL.assign rfl rfl ?_
    refine WL.nil ?_
    refine WQ.then_normal ?_
    refine WC.ret ?_
    refine WQ.then_ret ?_
    refine WQ.ret (rs := [.tmp 4]) rfl (.tmp rfl .nil) (fun w hS => ⟨?_, hS⟩)
    rw [hm]; rfl
  · skip
    refine WL.step (WL.guardT rfl rfl rfl ?_)
    refine WL.move rfl rfl ?_
    refine WL.step (WL.guardT rfl rfl rfl ?_)
    refine WL.gtI rfl rfl rfl ?_
    refine WL.step ?_
    refine WL.pickF rfl rfl rfl ?_
    refine WL.nil ?_
    refine WQ.then_normal ?_
    refine WC.cond rfl (fun h12 => ?_) (fun h12 => ?_)
    · skip
      have hm : Fm.mayE n ls = 3 := by (unfold Fm.mayE; rw [if_pos]; first | (right; simpa using h12) | (left; simpa using h9))
      refine WC.seq ?_
      refine WC.region ?_
      refine WL.step ?_
      refine WL.assign rfl rfl ?_
      refine WL.nil ?_
      refine WQ.then_normal ?_
      refine WC.ret ?_
      refine WQ.then_ret ?_
      refine WQ.ret (rs := [.tmp 4]) rfl (.tmp rfl .nil) (fun w hS => ⟨?_, hS⟩)
      rw [hm]; rfl
    · skip
      have hn0 : ¬ (n < 0 ∨ 24 < n) := by (simp at h9 h12; omega)
      have hnb : -1000 ≤ n ∧ n ≤ 1000 := by omega
      refine WC.skip ?_
      refine WQ.then_normal ?_
      refine WC.seq ?_
      refine WC.seq ?_
      refine WC.region ?_
      refine WL.step ?_
      refine WL.move rfl rfl ?_
      refine WL.step ?_
      refine WL.lenSl F.und38 rfl rfl ?_
      refine WL.step ?_
      refine WL.gtI rfl rfl rfl ?_
      refine WL.nil ?_
      refine WQ.then_normal ?_
      refine WC.cond rfl (fun h15 => ?_) (fun h15 => ?_)
      · skip
        have hm : Fm.mayE n ls = 2 := by (unfold Fm.mayE; rw [if_neg hn0, if_pos]; simp at h15; omega)
        refine WC.seq ?_
        refine WC.region ?_
        refine WL.step ?_
        refine WL.assign rfl rfl ?_
        refine WL.nil ?_
        refine WQ.then_normal ?_
        refine WC.ret ?_
        refine WQ.then_ret ?_
        refine WQ.ret (rs := [.tmp 4]) rfl (.tmp rfl .nil) (fun w hS => ⟨?_, hS⟩)
        rw [hm]; rfl
      · skip
        have hl0 : ¬ 4096 < ls.length := by (simp at h15; omega)
        refine WC.skip ?_
        refine WQ.then_normal ?_
        refine WC.seq ?_
        refine WC.seq ?_
        refine WC.region ?_
        refine WL.step ?_
        refine WL.move rfl rfl ?_
        refine WL.step ?_
        refine WL.lenSl F.und38 rfl rfl ?_
        refine WL.step ?_
        refine WL.move rfl rfl ?_
        refine WL.nil ?_
        refine WQ.then_normal ?_
        refine WC.block ?_
        refine WC.loop (α := Nat) (fun i => i ≤ ls.length ∧ (ls.take i).all (Fm.fitsB n) = true) (fun i => [(0, .int .i64 n), (16, .slice a ls.length cap), (17, .int .i64 (ls.length : Int)), (18, .int .i64 (i : Int))]) (fun _ => []) (fun i => ls.length - i) (0) ?_ ?_ ?_ ?_
        · exact ⟨Nat.zero_le _, rfl⟩
        · exact ⟨rfl, rfl, rfl, rfl, trivial⟩
        · rfl
        rintro i ⟨hi, hno⟩
        refine WC.seq ?_
        refine WC.region ?_
        refine WL.step ?_
        refine WL.ltI rfl rfl rfl ?_
        refine WL.nil ?_
        refine WQ.then_normal ?_
        refine WC.seq ?_
        refine WC.cond rfl (fun h19 => ?_) (fun h19 => ?_)
        · skip
          have hlt : i < ls.length := by simpa using h19
          obtain ⟨c, b, off, a1, cap1, hc, rfl, hcell, hrc⟩ := hr.at hlt
          refine WC.skip ?_
          refine WQ.then_normal ?_
          refine WC.seq ?_
          refine WC.block ?_
          refine WC.seq ?_
          refine WC.region ?_
          refine WL.step ?_
          refine WL.indexAddr F.sl38 rfl rfl rfl hlt ?_
          refine WL.step ?_
          refine WL.load1 F.one54 rfl rfl (v := .slice a1 c.length cap1) (fun w hS => hS.oldc (by simpa using hcell) (by simp)) ?_
          refine WL.step ?_
          refine WL.assign rfl rfl ?_
          refine WL.nil ?_
          refine WQ.then_normal ?_
          refine WC.seq ?_
          refine WC.region ?_
          refine WL.step ?_
          refine WL.move rfl rfl ?_
          refine WL.step ?_
          refine WL.move rfl rfl ?_
          refine WL.step ?_
          refine WL.callV F.fun72 rfl rfl (fun w hS => fits_c n hnb c a1 cap1 w (hrc.next hS)) ?_
          refine WL.step ?_
          refine WL.not rfl rfl ?_
          refine WL.nil ?_
          refine WQ.then_normal ?_
          refine WC.cond rfl (fun h25 => ?_) (fun h25 => ?_)
          · skip
            have hm : Fm.mayE n ls = 2 := by
              unfold Fm.mayE; rw [if_neg hn0, if_neg hl0, if_neg]
              rw [Bool.not_eq_true, List.all_eq_false]
              exact ⟨c, List.mem_of_getElem? hc, by simpa using h25⟩
            refine WC.seq ?_
            refine WC.region ?_
            refine WL.step ?_
            refine WL.assign rfl rfl ?_
            refine WL.nil ?_
            refine WQ.then_normal ?_
            refine WC.ret ?_
            refine WQ.block_ret ?_
            refine WQ.then_ret ?_
            refine WQ.then_ret ?_
            refine WQ.block_ret ?_
            refine WQ.then_ret ?_
            refine WQ.ret (rs := [.tmp 4]) rfl (.tmp rfl .nil) (fun w hS => ⟨?_, hS⟩)
            rw [hm]; rfl
          · skip
            refine WC.skip ?_
            refine WQ.block_normal ?_
            refine WQ.then_normal ?_
            refine WC.region ?_
            refine WL.step ?_
            refine WL.add rfl rfl rfl ⟨by omega, by omega⟩ ?_
            refine WL.step ?_
            refine WL.move rfl rfl ?_
            refine WL.nil ?_
            refine WQ.back (i + 1) ?_ ?_ ?_ ?_
            · exact ⟨by omega, by rw [List.take_add_one, hc]; simp only [Option.toList, List.all_append, hno, List.all_cons, List.all_nil]; simpa using h25⟩
            · omega
            · exact ⟨rfl, rfl, rfl, rfl, trivial⟩
            · rfl
        · skip
          have hie : i = ls.length := by simp at h19; omega
          subst hie
          rw [List.take_length] at hno
          have hm : Fm.mayE n ls = 0 := by (unfold Fm.mayE; rw [if_neg hn0, if_neg hl0, if_pos hno])
          refine WC.exit ?_
          refine WQ.then_exit ?_
          refine WQ.then_exit ?_
          refine WQ.block_exit ?_
          refine WQ.then_normal ?_
          refine WC.seq ?_
          refine WC.region ?_
          refine WL.step ?_
          refine WL.assign rfl rfl ?_
          refine WL.nil ?_
          refine WQ.then_normal ?_
          refine WC.ret ?_
          refine WQ.ret (rs := [.tmp 4]) rfl (.tmp rfl .nil) (fun w hS => ⟨?_, hS⟩)
          rw [hm]; rfl

end Go.Proofs.Ytbippghgkbapnaa
