import Derived.Test.YtkgllhkhdjodeaaGreatEng10
import Derived.Test.YtkgllhkhdjodeaaGreatSpec5
import Derived.Laws.MakeOwn
set_option linter.unusedSimpArgs false
set_option linter.unusedVariables false
namespace Go.Eng
open Go Go.RowKit Go.Lib
section
variable {P : Program} {w0 : World} {O : List Nat} {ops : Array Oper} {Q : Exit → Act → World → Prop} {N : Nat} {D : List Deferred} {L : FL} {C : List Chunk} {K : Act → World → Prop}
variable {d : Nat} {ty : TypeId} {pos : String} {af : Array Edge}

/-! ### 32 bits -/
theorem wrap_u32 {n : Nat} (h : n < 4294967296) : IntKind.u32.wrap (n : Int) = (n : Int) := by
  simp only [IntKind.wrap, IntKind.bits, IntKind.signed, Bool.false_and, Bool.false_eq_true, if_false]
  omega
theorem ofInt_u32 (n : Nat) : BitVec.ofInt 32 (n : Int) = BitVec.ofNat 32 n := by
  apply BitVec.eq_of_toNat_eq
  simp
theorem run_or {a b : Nat} (ha : a < 4294967296) (hb : b < 4294967296) (t : TypeId) (x y : Operand) (w : World) :
    (do eqGuard .or t x y (.int .u32 (a : Int)) (.int .u32 (b : Int)); binOp .or t (.int .u32 (a : Int)) (.int .u32 (b : Int)) : Sem Value).run P w = .ok (.int .u32 ((a ||| b : Nat) : Int)) w := by
  have h1 : (a ||| b) < 2 ^ 32 := Nat.or_lt_two_pow (by omega) (by omega)
  simp only [eqGuard, binOp, Op.intBits, IntKind.bits]
  have h2 : ((BitVec.ofNat 32 a) ||| (BitVec.ofNat 32 b)).toNat = a ||| b := by
    rw [BitVec.toNat_or, BitVec.toNat_ofNat, BitVec.toNat_ofNat, Nat.mod_eq_of_lt (by omega), Nat.mod_eq_of_lt (by omega)]
  simp
  show IntKind.u32.wrap ((((BitVec.ofNat 32 a) ||| (BitVec.ofNat 32 b)).toNat : Nat) : Int) = _
  rw [h2]
  exact wrap_u32 (by omega)
theorem run_and {a b : Nat} (ha : a < 4294967296) (hb : b < 4294967296) (t : TypeId) (x y : Operand) (w : World) :
    (do eqGuard .and t x y (.int .u32 (a : Int)) (.int .u32 (b : Int)); binOp .and t (.int .u32 (a : Int)) (.int .u32 (b : Int)) : Sem Value).run P w = .ok (.int .u32 ((a &&& b : Nat) : Int)) w := by
  have h1 : (a &&& b) ≤ a := Nat.and_le_left
  simp only [eqGuard, binOp, Op.intBits, IntKind.bits]
  have h2 : ((BitVec.ofNat 32 a) &&& (BitVec.ofNat 32 b)).toNat = a &&& b := by
    rw [BitVec.toNat_and, BitVec.toNat_ofNat, BitVec.toNat_ofNat, Nat.mod_eq_of_lt (by omega), Nat.mod_eq_of_lt (by omega)]
  simp
  show IntKind.u32.wrap ((((BitVec.ofNat 32 a) &&& (BitVec.ofNat 32 b)).toNat : Nat) : Int) = _
  rw [h2]
  exact wrap_u32 (by omega)
theorem run_shl1 {k : Nat} (hk : k < 32) (t : TypeId) (x y : Operand) (w : World) :
    (do eqGuard .shl t x y (.int .u32 1) (.int .i64 (k : Int)); binOp .shl t (.int .u32 1) (.int .i64 (k : Int)) : Sem Value).run P w = .ok (.int .u32 ((2 ^ k : Nat) : Int)) w := by
  have h1 : ¬ (k : Int) < 0 := by omega
  have h2 : min (k : Int).toNat 32 = k := by omega
  have h3 : 2 ^ k < 4294967296 := Nat.lt_of_lt_of_le (Nat.pow_lt_pow_right (by decide) hk) (by decide)
  have h4 := wrap_u32 h3
  simp only [eqGuard, binOp, Op.shift, IntKind.bits, h1, if_false, h2]
  simp only [Int.natCast_pow] at h4
  simp at h4
  simp [h4]
theorem run_shr {a k : Nat} (hk : k < 32) (t : TypeId) (x y : Operand) (w : World) :
    (do eqGuard .shr t x y (.int .u32 (a : Int)) (.int .i64 (k : Int)); binOp .shr t (.int .u32 (a : Int)) (.int .i64 (k : Int)) : Sem Value).run P w = .ok (.int .u32 ((a >>> k : Nat) : Int)) w := by
  have h1 : ¬ (k : Int) < 0 := by omega
  have h2 : min (k : Int).toNat 32 = k := by omega
  simp only [eqGuard, binOp, Op.shift, IntKind.bits, h1, if_false, h2]
  have h5 : (a : Int).fdiv (2 ^ k) = ((a >>> k : Nat) : Int) := by
    rw [Nat.shiftRight_eq_div_pow, show ((2 : Int) ^ k) = ((2 ^ k : Nat) : Int) by simp, Int.fdiv_eq_ediv_of_nonneg _ (Int.natCast_nonneg _), Int.natCast_ediv]
  simp [h5]
end
end Go.Eng
namespace Go.Eng
open Go Go.RowKit Go.Lib
section
variable {P : Program} {w0 : World} {O : List Nat} {ops : Array Oper} {Q : Exit → Act → World → Prop} {N : Nat} {D : List Deferred} {L : FL} {C : List Chunk} {K : Act → World → Prop}
variable {d : Nat} {ty : TypeId} {pos : String} {af : Array Edge}

theorem Yl.bin {F : World → Prop} {b : BinOp} {t t2 : TypeId} {x y : Operand} {vx vy v : Value} (hx : ev L x = some vx) (hy : ev L y = some vy)
    (hr : ∀ w, (do eqGuard b t x y vx vy; binOp b t vx vy : Sem Value).run P w = .ok v w) : Yl P N D L F ⟨some d, .binOp b t x y t2, ty, pos, af, none⟩ v := fun a w hF _ => by
  have := hr w
  simp only [Sem.run_bind] at this
  simp only [execOp, hF.ev hx, hF.ev hy, Sem.run_bind, this, Result.andThen_ok, Sem.run_pure]
theorem wrap_i64 {n : Int} (h1 : -9223372036854775808 ≤ n) (h2 : n ≤ 9223372036854775807) : IntKind.i64.wrap n = n := by
  rw [IntKind.wrap_i64]; omega
theorem Yl.negI {F : World → Prop} {x : Operand} {t : TypeId} {n : Int} (hx : ev L x = some (.int .i64 n)) (hn : -9223372036854775807 ≤ n ∧ n ≤ 9223372036854775807) :
    Yl P N D L F ⟨some d, .unOp .neg t x, ty, pos, af, none⟩ (.int .i64 (-n)) := by
  have := Yl.neg (P := P) (N := N) (D := D) (L := L) (F := F) (d := d) (ty := ty) (pos := pos) (af := af) (t := t) hx
  rwa [wrap_i64 (by omega) (by omega)] at this
theorem WL.negI {x : Operand} {t : TypeId} {n : Int} (hd : Nat.blt d N = true) (hx : ev L x = some (.int .i64 n)) (hn : -9223372036854775807 ≤ n ∧ n ≤ 9223372036854775807) (h : WA w0 O K N D ((d, .int .i64 (-n)) :: L) C) :
    WK P w0 O ops Q ⟨some d, .unOp .neg t x, ty, pos, af, none⟩ K N D L C := WL.y (F := fun _ => True) (Yl.negI hx hn) hd (fun _ _ => trivial) h

/-- make of a slice whose elements are one cell each. -/
theorem WL.makeSlice {x y : Operand} {t e : TypeId} {z : Value} {n bytes : Nat} (ht : P.underlying t = some (.slice e)) (hi : (P.info? e).map (fun i => (i.zero, i.size, i.bytes)) = some (some z, 1, bytes)) (hz1 : z.cells = #[z]) (hd : Nat.blt d N = true)
    (hx : ev L x = some (.int .i64 (n : Int))) (hy : ev L y = some (.int .i64 (n : Int))) (hb : bytes * n ≤ 281474976710656) (h63 : n ≤ 9223372036854775807)
    (h : ∀ b, WA w0 O K N D ((d, .slice (some ⟨b, 0, none⟩) n n) :: L) (pt b (List.replicate n z) e :: C)) :
    WK P w0 O ops Q ⟨some d, .makeSlice t x y, ty, pos, af, none⟩ K N D L C := fun a w hF hS => by
  obtain ⟨i, hi1, hi2⟩ := Option.map_eq_some_iff.1 hi
  simp only [Prod.mk.injEq] at hi2
  obtain ⟨hz, hs, hby⟩ := hi2
  have hr := run_make (P := P) w t e i z ht hi1 hz .i64 .i64 (n : Int) (n : Int) (by omega) (Int.le_refl _) (by rw [hby, ← Int.natCast_mul]; omega) (by omega)
  have hcells : madeCells z.cells ((n : Int).toNat * i.size) = (List.replicate n z).toArray := by
    rw [hz1, hs]
    apply Array.ext'
    rw [toList_madeCells_one]
    simp
  rw [hcells] at hr
  simp only [Int.toNat_natCast] at hr
  refine wpo_val rfl ?_ (h _ _ _ (hF.put d _ hd) (hS.alloc _ _))
  simp only [execOp, hF.ev hx, hF.ev hy, Sem.run_bind, hr, Result.andThen_ok, Sem.run_pure]
theorem WL.buildSlice0 {t e : TypeId} {sz : Nat} (ht : SlT P t e sz) (hd : Nat.blt d N = true) (h : ∀ b, WA w0 O K N D ((d, .slice (some ⟨b, 0, none⟩) 0 0) :: L) (pt b [] e :: C)) :
    WK P w0 O ops Q ⟨some d, .buildSlice t 0 #[], ty, pos, af, none⟩ K N D L C := fun a w hF hS => by
  refine wpo_val rfl ?_ (h _ _ _ (hF.put d _ hd) (hS.alloc _ _))
  simp [execOp, Instr.buildSlice, run_underlying ht.und, run_sizeOf ht.size, Instr.fill, newRow, Array.range_zero']

theorem setN_set : ∀ (cs : List Value) (j : Nat) (v : Value), j < cs.length → SetN cs j [v] (cs.set j v)
  | [], j, v, h => by simp at h
  | c :: cs, 0, v, h => SetN.put .done
  | c :: cs, j + 1, v, h => SetN.skip (setN_set cs j v (by simpa using h))
/-- The address of an own row that is not empty. -/
theorem rowc_addr {w : World} {a : Option Addr} {n m cap sz : Nat} {e : TypeId} {xs : List Value} (h : (rowc (.slice a m cap) n e sz xs).ok w) (hn : 0 < n) : ∃ g, a = some ⟨g, 0, none⟩ ∧ m = n ∧ n ≤ cap := by
  rcases (show w.ownsRow 0 e sz (.slice a m cap) n xs from h).2 with ⟨_, h0⟩ | ⟨g, cp, cur, hv, _, _, hle, _⟩
  · omega
  · injection hv with ha hm hc
    exact ⟨g, ha, hm, by omega⟩
theorem rowc_cell {w : World} {g n cap : Nat} {e : TypeId} {xs : List Value} {j : Nat} {u : Value} (h : (rowc (.slice (some ⟨g, 0, none⟩) n cap) n e 1 xs).ok w) (hu : xs[j]? = some u) : w.cell? ⟨g, j, none⟩ = some u := by
  have := (show w.ownsRow 0 e 1 (.slice (some ⟨g, 0, none⟩) n cap) n xs from h).cells (g := g) rfl j u hu
  rwa [add_blk, Nat.zero_add] at this
/-- A shorter slice of an own row. -/
theorem St.rowTake {w : World} {a : Option Addr} {n cap k : Nat} {e : TypeId} {xs : List Value} (h : St w0 O (rowc (.slice a n cap) n e 1 xs :: C) w) (hn : 0 < n) (hk : k ≤ n) : St w0 O (rowc (.slice a k cap) k e 1 (xs.take k) :: C) w := by
  refine h.swap (fun hok => ?_) (fun j hj => ?_)
  · have hro : w.ownsRow 0 e 1 (.slice a n cap) n xs := hok
    refine ⟨by have := hro.1; simp; omega, ?_⟩
    rcases hro.2 with ⟨_, h0⟩ | ⟨g, cp, cur, hv, hb, hg, hle, hcm, hcs, htk⟩
    · omega
    · injection hv with ha _ hc
      refine .inr ⟨g, cp, cur, by rw [ha, hc], hb, hg, by omega, hcm, hcs, ?_⟩
      rw [← htk, List.take_take]
      congr 1
      omega
  · cases a with
    | none => simp [rowc, Value.ownBlock] at hj
    | some a => simpa [rowc, Value.ownBlock] using hj
end
end Go.Eng
namespace Fm
theorem testBit_shift (a k : Nat) : ((((a >>> k) &&& 1 : Nat) : Int) == 1) = a.testBit k := by
  rw [Nat.testBit, Nat.and_comm]
  have : (a >>> k) &&& 1 = 0 ∨ (a >>> k) &&& 1 = 1 := by
    have := Nat.and_one_is_mod (a >>> k)
    omega
  rw [Nat.and_comm] at this
  rcases this with h | h <;> rw [h] <;> rfl
end Fm

