import Derived.Test.YtbippghgkbapnaaPaTells4
set_option linter.unusedSimpArgs false
set_option linter.unusedVariables false
namespace Go.Proofs.Ytbippghgkbapnaa
open Go Go.Eng Go.Proofs
def SizeC (n : Nat) : Prop := ∀ (t : Tree) (wb : World) (G : List Nat) (a : Option Addr) (c : Nat) (w : World), (Fm.rowT t).length ≤ n → rdT wb t G (tv t a c) → Ext wb w →
  Pure Try.prog 35 [tv t a c] w (.tuple #[.int .i64 ((Fm.rowT t).length : Int), .int .i64 (Fm.levT t : Int)])

theorem Size_step (n : Nat) (hn : n ≤ 1099511627776) (hrec : SizeC n) : SizeC (n + 1) := by
  intro t wb G a c w hsz hr hE
  refine enter Try.func35 rfl Try.ntmps35 rfl (St.init _) ?_
  refine WC.seq ?_
  refine WC.region ?_
  refine WL.step ?_
  refine WL.boxN rfl rfl (fun b1 => ?_)
  refine WL.step ?_
  refine WL.assign rfl rfl ?_
  refine WL.step ?_
  refine WL.assign rfl rfl ?_
  refine WL.nil ?_
  refine WQ.then_normal ?_
  refine WC.seq ?_
  refine WC.region ?_
  refine WL.step ?_
  refine WL.assign rfl rfl ?_
  refine WL.nil ?_
  refine WQ.then_normal ?_
  refine WC.seq ?_
  refine WC.seq ?_
  refine WC.region ?_
  refine WL.step ?_
  refine WL.fieldAddr0 F.fld25_2 rfl rfl ?_
  refine WL.step ?_
  refine WL.loadP F.one23 rfl rfl (by repeat (first | exact List.Mem.head _ | apply List.Mem.tail)) rfl ?_
  refine WL.step ?_
  refine WL.lenSl F.und23 rfl rfl ?_
  refine WL.step ?_
  refine WL.move rfl rfl ?_
  refine WL.nil ?_
  refine WQ.then_normal ?_
  refine WC.block ?_
  refine WC.loop (α := Nat) (fun i => i ≤ t.kids.length) (fun i => [(1, pp b1), (2, .int .i64 ((1 + (Fm.rowL (t.kids.take i)).length : Nat) : Int)), (3, .int .i64 (Fm.levL (t.kids.take i) : Int)), (9, .slice a t.kids.length c), (10, .int .i64 (t.kids.length : Int)), (11, .int .i64 (i : Int))]) (fun _ => [pt b1 [Value.int .u8 t.op, .string (str t.name), .slice a t.kids.length c] 25]) (fun i => t.kids.length - i) (0) ?_ ?_ ?_ ?_
  · exact Nat.zero_le _
  · exact ⟨rfl, rfl, rfl, rfl, rfl, rfl, trivial⟩
  · rfl
  rintro i hi
  refine WC.seq ?_
  refine WC.region ?_
  refine WL.step ?_
  refine WL.ltI rfl rfl rfl ?_
  refine WL.nil ?_
  refine WQ.then_normal ?_
  refine WC.seq ?_
  refine WC.cond rfl (fun h12 => ?_) (fun h12 => ?_)
  · skip
    have hlt : i < t.kids.length := by simpa using h12
    obtain ⟨k, hk⟩ : ∃ k, t.kids[i]? = some k := ⟨_, List.getElem?_eq_getElem hlt⟩
    obtain ⟨b, off, F1, a1, c1, rfl, hb, hF1, hrk, hck⟩ := rdT_at hr hk
    have hks := Fm.rowT_kid hk
    have hkl := Fm.kids_le t
    have hN2 : 1 + (Fm.rowL (t.kids.take (i + 1))).length ≤ (Fm.rowT t).length := by rw [Fm.rowT_eq t]; have := Fm.rowL_take_le t.kids (i + 1); simp; omega
    have hN3 := Fm.rowL_take hk
    have hN4 : (Fm.rowL (t.kids.take (i + 1))).length = (Fm.rowL (t.kids.take i)).length + (Fm.rowT k).length := by rw [hN3, List.length_append]
    refine WC.skip ?_
    refine WQ.then_normal ?_
    refine WC.seq ?_
    refine WC.block ?_
    refine WC.seq ?_
    refine WC.region ?_
    refine WL.step ?_
    refine WL.indexAddr F.sl23 rfl rfl rfl hlt ?_
    refine WL.step ?_
    refine WL.loadN F.agg25 rfl rfl (vs := [Value.int .u8 k.op, .string (str k.name), .slice a1 k.kids.length c1]) rfl (fun w hS j v hv => (hE.st hS).cell (hck j v hv)) ?_
    refine WL.step ?_
    refine WL.alloc F.zero25 rfl (fun b5 => ?_)
    refine WL.step ?_
    refine WL.storeN F.agg25 rfl rfl rfl (by simp [Value.oneCell']) (by repeat (first | exact Upd.here | apply Upd.there)) (by repeat constructor) ?_
    refine WL.nil ?_
    refine WQ.then_normal ?_
    refine WC.seq ?_
    refine WC.region ?_
    refine WL.step ?_
    refine WL.loadW F.agg25 rfl rfl (by repeat (first | exact List.Mem.head _ | apply List.Mem.tail)) rfl ?_
    refine WL.step ?_
    refine WL.callV F.fun35 rfl rfl (fun w hS => hrec k wb F1 a1 c1 w (by omega) hrk (hE.st hS)) ?_
    refine WL.step ?_
    refine WL.move rfl rfl ?_
    refine WL.step ?_
    refine WL.extract rfl rfl rfl ?_
    refine WL.step ?_
    refine WL.extract rfl rfl rfl ?_
    refine WL.step ?_
    refine WL.assign rfl rfl ?_
    refine WL.step ?_
    refine WL.assign rfl rfl ?_
    refine WL.nil ?_
    refine WQ.then_normal ?_
    refine WC.seq ?_
    refine WC.region ?_
    refine WL.step ?_
    refine WL.move rfl rfl ?_
    refine WL.step ?_
    refine WL.move rfl rfl ?_
    refine WL.step ?_
    refine WL.add rfl rfl rfl ⟨by omega, by omega⟩ ?_
    refine WL.step ?_
    refine WL.assign rfl rfl ?_
    refine WL.nil ?_
    refine WQ.then_normal ?_
    refine WC.region ?_
    refine WL.step ?_
    refine WL.move rfl rfl ?_
    refine WL.step ?_
    refine WL.move rfl rfl ?_
    refine WL.step ?_
    refine WL.maxI (r := (Fm.levL (t.kids.take (i + 1)) : Int)) rfl rfl rfl (by rw [Fm.levL_take hk]; split <;> omega) ?_
    refine WL.step ?_
    refine WL.assign rfl rfl ?_
    refine WL.nil ?_
    refine WQ.block_normal ?_
    refine WQ.then_normal ?_
    refine WC.region ?_
    refine WL.step ?_
    refine WL.add rfl rfl rfl ⟨by omega, by omega⟩ ?_
    refine WL.step ?_
    refine WL.move rfl rfl ?_
    refine WL.nil ?_
    refine WQ.chunks (C' := [pt b1 [Value.int .u8 t.op, .string (str t.name), .slice (some ⟨b, off, none⟩) t.kids.length c] 25]) (fun w hS => ((St.pick hS (c := pt b1 [Value.int .u8 t.op, .string (str t.name), .slice (some ⟨b, off, none⟩) t.kids.length c] 25) (by repeat (first | exact Rem.here | apply Rem.there)))).sublist (List.Sublist.cons_cons _ (List.nil_sublist _))) ?_
    rw [show ((1 + (Fm.rowL (t.kids.take i)).length : Nat) : Int) + ((Fm.rowT k).length : Int) = ((1 + (Fm.rowL (t.kids.take (i + 1))).length : Nat) : Int) by rw [Fm.rowL_take hk, List.length_append]; omega]
    refine WQ.back (i + 1) ?_ ?_ ?_ ?_
    · exact by omega
    · omega
    · exact ⟨rfl, rfl, rfl, rfl, rfl, rfl, trivial⟩
    · rfl
  · skip
    have hie : i = t.kids.length := by simp at h12; omega
    subst hie
    rw [List.take_length]
    have hll := Fm.levT_le t
    rw [Fm.levT_eq] at hll
    refine WC.exit ?_
    refine WQ.then_exit ?_
    refine WQ.then_exit ?_
    refine WQ.block_exit ?_
    refine WQ.then_normal ?_
    refine WC.seq ?_
    refine WC.region ?_
    refine WL.step ?_
    refine WL.move rfl rfl ?_
    refine WL.step ?_
    refine WL.move rfl rfl ?_
    refine WL.step ?_
    refine WL.add rfl rfl rfl ⟨by omega, by omega⟩ ?_
    refine WL.step ?_
    refine WL.assign rfl rfl ?_
    refine WL.step ?_
    refine WL.assign rfl rfl ?_
    refine WL.nil ?_
    refine WQ.then_normal ?_
    refine WC.ret ?_
    exact WQ.ret (rs := [.tmp 2, .tmp 3]) rfl (.tmp rfl (.tmp rfl .nil)) (fun w hS => ⟨by rw [Fm.levT_eq, Fm.rowT_eq t, List.length_cons, Nat.add_comm]; rfl, hS.drop⟩)

theorem Size_c : ∀ n, n ≤ 1099511627776 → SizeC n
  | 0, _ => fun t wb G a c w hsz _ _ => by rw [Fm.rowT_eq] at hsz; simp at hsz
  | n + 1, h => Size_step n (by omega) (Size_c n (by omega))

/-- Strings in memory. -/
def RdS (w : World) (l : List (List UInt8)) (a : Option Addr) : Prop := ∀ j x, l[j]? = some x → ∃ b off, a = some ⟨b, off, none⟩ ∧ w.cell? ⟨b, off + j, none⟩ = some (.string (str x))
theorem RdS.next {w0 w : World} {C : List Chunk} {l : List (List UInt8)} {a : Option Addr} (h : RdS w0 l a) (hS : St w0 [] C w) : RdS w l a := fun j x hx => by
  obtain ⟨b, off, ha, hc⟩ := h j x hx
  exact ⟨b, off, ha, hS.oldc hc (by simp)⟩
def strs (l : List (List UInt8)) : List Value := l.map (fun s => Value.string (str s))
theorem RdS.of_row {w : World} {l : List (List UInt8)} {a : Option Addr} {n cap : Nat} (hn : n = l.length) (h : (rowc (.slice a n cap) n 9 1 (strs l)).ok w) : RdS w l a := fun j x hx => by
  have hlt := (List.getElem?_eq_some_iff.1 hx).1
  obtain ⟨g, hg, _, _⟩ := rowc_addr h (by omega)
  subst hg
  exact ⟨g, 0, rfl, by rw [Nat.zero_add]; exact rowc_cell h (by simp [strs, hx])⟩

theorem Index_c (l : List (List UInt8)) (s : List UInt8) (a : Option Addr) (cap : Nat) (hll : l.length ≤ 1099511627776) (w : World) (hr : RdS w l a) :
    Calls Try.prog 78 [.slice a l.length cap, .string (str s)].toArray w fun e w' => ∃ x : { r : Int // decide (r < 0) = !l.contains s }, e = .returned (.int .i64 x.1) ∧ St w [] [] w' := by
  refine enter Try.func78 rfl Try.ntmps78 rfl (St.init _) ?_
  refine WC.seq ?_
  refine WC.region ?_
  refine WL.step ?_
  refine WL.assign rfl rfl ?_
  refine WL.nil ?_
  refine WQ.then_normal ?_
  refine WC.seq ?_
  refine WC.seq ?_
  refine WC.region ?_
  refine WL.step ?_
  refine WL.assign rfl rfl ?_
  refine WL.nil ?_
  refine WQ.then_normal ?_
  refine WC.block ?_
  refine WC.loop (α := Nat) (fun i => i ≤ l.length ∧ (l.take i).contains s = false) (fun i => [(0, .slice a l.length cap), (1, .string (str s)), (5, .int .i64 (i : Int))]) (fun _ => []) (fun i => l.length - i) (0) ?_ ?_ ?_ ?_
  · exact ⟨Nat.zero_le _, rfl⟩
  · exact ⟨rfl, rfl, rfl, trivial⟩
  · rfl
  rintro i ⟨hi, hno⟩
  refine WC.seq ?_
  refine WC.seq ?_
  refine WC.region ?_
  refine WL.step ?_
  refine WL.move rfl rfl ?_
  refine WL.step ?_
  refine WL.move rfl rfl ?_
  refine WL.step ?_
  refine WL.lenSl F.und61 rfl rfl ?_
  refine WL.step ?_
  refine WL.ltI rfl rfl rfl ?_
  refine WL.nil ?_
  refine WQ.then_normal ?_
  refine WC.cond rfl (fun h9 => ?_) (fun h9 => ?_)
  · skip
    have hlt : i < l.length := by simpa using h9
    obtain ⟨y, hx⟩ : ∃ y, l[i]? = some y := ⟨_, List.getElem?_eq_getElem hlt⟩
    obtain ⟨b, off, rfl, hcell⟩ := hr i y hx
    refine WC.skip ?_
    refine WQ.then_normal ?_
    refine WC.seq ?_
    refine WC.block ?_
    refine WC.seq ?_
    refine WC.region ?_
    refine WL.step ?_
    refine WL.move rfl rfl ?_
    refine WL.step ?_
    refine WL.move rfl rfl ?_
    refine WL.step ?_
    refine WL.indexAddr F.sl61 rfl rfl rfl hlt ?_
    refine WL.step ?_
    refine WL.load1 F.one9 rfl rfl (v := .string (str y)) (fun w hS => hS.oldc (by simpa using hcell) (by simp)) ?_
    refine WL.step ?_
    refine WL.move rfl rfl ?_
    refine WL.step ?_
    refine WL.eqS rfl rfl rfl ?_
    refine WL.nil ?_
    refine WQ.then_normal ?_
    refine WC.cond rfl (fun h17 => ?_) (fun h17 => ?_)
    · skip
      have hyx : y = s := by simpa using h17
      have hres : l.contains s = true := by rw [List.contains_iff_mem, ← hyx]; exact List.mem_of_getElem? hx
      refine WC.seq ?_
      refine WC.region ?_
      refine WL.step ?_
      refine WL.move rfl rfl ?_
      refine WL.step ?_
      refine WL.assign rfl rfl ?_
      refine WL.nil ?_
      refine WQ.then_normal ?_
      refine WC.ret ?_
      refine WQ.block_ret ?_
      refine WQ.then_ret ?_
      refine WQ.then_ret ?_
      refine WQ.block_ret ?_
      refine WQ.then_ret ?_
      exact WQ.ret (rs := [.tmp 4]) rfl (.tmp rfl .nil) (fun w hS => ⟨⟨(i : Int), by rw [hres]; simp⟩, rfl, hS⟩)
    · skip
      refine WC.skip ?_
      refine WQ.block_normal ?_
      refine WQ.then_normal ?_
      refine WC.region ?_
      refine WL.step ?_
      refine WL.move rfl rfl ?_
      refine WL.step ?_
      refine WL.add rfl rfl rfl ⟨by omega, by omega⟩ ?_
      refine WL.step ?_
      refine WL.assign rfl rfl ?_
      refine WL.nil ?_
      refine WQ.back (i + 1) ?_ ?_ ?_ ?_
      · exact ⟨by omega, by rw [List.take_add_one, hx]; simp at hno h17 ⊢; exact ⟨hno, fun e => h17 e.symm⟩⟩
      · omega
      · exact ⟨rfl, rfl, rfl, trivial⟩
      · rfl
  · skip
    have hie : i = l.length := by simp at h9; omega
    subst hie
    rw [List.take_length] at hno
    refine WC.exit ?_
    refine WQ.then_exit ?_
    refine WQ.then_exit ?_
    refine WQ.block_exit ?_
    refine WQ.then_normal ?_
    refine WC.seq ?_
    refine WC.region ?_
    refine WL.step ?_
    refine WL.assign rfl rfl ?_
    refine WL.nil ?_
    refine WQ.then_normal ?_
    refine WC.ret ?_
    exact WQ.ret (rs := [.tmp 4]) rfl (.tmp rfl .nil) (fun w hS => ⟨⟨-1, by rw [hno]; simp⟩, rfl, hS⟩)

end Go.Proofs.Ytbippghgkbapnaa

namespace Go.Proofs.Ytbippghgkbapnaa
open Go Go.Eng Go.Proofs
def usedStep (acc : List (List UInt8)) (t : Tree) : List (List UInt8) := if t.op == 3 && !acc.contains t.name then acc ++ [t.name] else acc
def usedF (ts : List Tree) : List (List UInt8) := ts.foldl usedStep []
theorem usedStep_len (acc : List (List UInt8)) (t : Tree) : (usedStep acc t).length ≤ acc.length + 1 := by
  unfold usedStep; split
  · simp
  · omega
theorem used_len : ∀ (ts : List Tree) (acc : List (List UInt8)), (ts.foldl usedStep acc).length ≤ acc.length + ts.length
  | [], acc => Nat.le_refl _
  | t :: ts, acc => by
    have h1 := used_len ts (usedStep acc t)
    have h2 := usedStep_len acc t
    simp only [List.foldl_cons, List.length_cons]
    omega
theorem used_take {ts : List Tree} {i : Nat} {k : Tree} {acc : List (List UInt8)} (hk : ts[i]? = some k) : (ts.take (i + 1)).foldl usedStep acc = usedStep ((ts.take i).foldl usedStep acc) k := by
  rw [List.take_add_one, hk, List.foldl_append]; rfl

structure US where
  i : Nat
  out : List (List UInt8)
  ad2 : Option Addr
  ac2 : Nat

theorem Used_c (t : Tree) (wb : World) (G : List Nat) (a : Option Addr) (c : Nat) (w : World) (hsz : (Fm.rowT t).length ≤ 1099511627776) (hr : rdT wb t G (tv t a c)) (hE : Ext wb w) :
    Calls Try.prog 37 [tv t a c].toArray w fun e w' => ∃ x : Option Addr × Nat, e = .returned (.slice x.1 (usedF (Fm.rowT t)).length x.2) ∧ St w [] [rowc (.slice x.1 (usedF (Fm.rowT t)).length x.2) (usedF (Fm.rowT t)).length 9 1 (strs (usedF (Fm.rowT t)))] w' := by
  refine enter Try.func37 rfl Try.ntmps37 rfl (St.init _) ?_
  refine WC.seq ?_
  refine WC.region ?_
  refine WL.step ?_
  refine WL.boxN rfl rfl (fun b1 => ?_)
  refine WL.step ?_
  refine WL.assign rfl rfl ?_
  refine WL.nil ?_
  refine WQ.then_normal ?_
  refine WC.seq ?_
  refine WC.region ?_
  refine WL.step ?_
  refine WL.loadW F.agg25 rfl rfl (by repeat (first | exact List.Mem.head _ | apply List.Mem.tail)) rfl ?_
  refine WL.step ?_
  refine WL.callC (β := { y : Option Addr × Nat × List Value // NodesOk wb (Fm.rowT t) y.2.2 }) (res := fun x => .slice x.1.1 (Fm.rowT t).length x.1.2.1) (cs := fun x => [rowc (.slice x.1.1 (Fm.rowT t).length x.1.2.1) (Fm.rowT t).length 25 3 (flat x.1.2.2)]) (Cs := []) (O' := []) F.fun38 (fun d h => by cases h; rfl) rfl (List.Perm.refl _) (by simp) (by simp) (fun w hS _ => Row_c _ hsz t wb G a c w (Nat.le_refl _) hr (hE.st hS)) (fun y6 => ?_)
  obtain ⟨⟨ad, cap, vs⟩, hok⟩ := y6
  refine WA.know (φ := ∃ g, ad = some ⟨g, 0, none⟩ ∧ (Fm.rowT t).length = (Fm.rowT t).length ∧ (Fm.rowT t).length ≤ cap) (fun w hS => rowc_addr (hS.ok (rowc (.slice ad (Fm.rowT t).length cap) (Fm.rowT t).length 25 3 (flat vs)) (by repeat (first | exact List.Mem.head _ | apply List.Mem.tail))) (by rw [Fm.rowT_eq]; simp)) (fun ⟨g, hg, _, _⟩ => ?_)
  subst hg
  refine WL.step ?_
  refine WL.assign rfl rfl ?_
  refine WL.nil ?_
  refine WQ.then_normal ?_
  refine WC.seq ?_
  refine WC.region ?_
  refine WL.step ?_
  refine WL.assign rfl rfl ?_
  refine WL.nil ?_
  refine WQ.then_normal ?_
  refine WC.seq ?_
  refine WC.seq ?_
  refine WC.region ?_
  refine WL.step ?_
  refine WL.assign rfl rfl ?_
  refine WL.nil ?_
  refine WQ.then_normal ?_
  refine WC.block ?_
  refine WC.chunks (fun w hS => (hS.rowNil 9 1)) ?_
  refine WC.loop (α := US) (fun g => g.i ≤ (Fm.rowT t).length ∧ g.out = ((Fm.rowT t).take g.i).foldl usedStep []) (fun s => [(1, pp b1), (3, .slice (some ⟨g, 0, none⟩) (Fm.rowT t).length cap), (4, .slice s.ad2 s.out.length s.ac2), (5, .int .i64 (s.i : Int))]) (fun s => [rowc (.slice s.ad2 s.out.length s.ac2) s.out.length 9 1 (strs s.out), rowc (.slice (some ⟨g, 0, none⟩) (Fm.rowT t).length cap) (Fm.rowT t).length 25 3 (flat vs), pt b1 [Value.int .u8 t.op, .string (str t.name), .slice a t.kids.length c] 25]) (fun s => (Fm.rowT t).length - s.i) (⟨0, [], none, 0⟩) ?_ ?_ ?_ ?_
  · exact ⟨Nat.zero_le _, rfl⟩
  · exact ⟨rfl, rfl, rfl, rfl, trivial⟩
  · rfl
  rintro ⟨i, out, ad2, ac2⟩ ⟨hi, hout⟩
  dsimp only at hi hout
  show WC _ _ _ _ _ _ _ [(1, pp b1), (3, .slice (some ⟨g, 0, none⟩) (Fm.rowT t).length cap), (4, .slice ad2 out.length ac2), (5, .int .i64 (i : Int))] [rowc (.slice ad2 out.length ac2) out.length 9 1 (strs out), rowc (.slice (some ⟨g, 0, none⟩) (Fm.rowT t).length cap) (Fm.rowT t).length 25 3 (flat vs), pt b1 [Value.int .u8 t.op, .string (str t.name), .slice a t.kids.length c] 25]
  have hol : out.length ≤ i := by rw [hout]; exact Nat.le_trans (used_len _ _) (by simp; omega)
  refine WC.seq ?_
  refine WC.seq ?_
  refine WC.region ?_
  refine WL.step ?_
  refine WL.move rfl rfl ?_
  refine WL.step ?_
  refine WL.move rfl rfl ?_
  refine WL.step ?_
  refine WL.lenSl F.und23 rfl rfl ?_
  refine WL.step ?_
  refine WL.ltI rfl rfl rfl ?_
  refine WL.nil ?_
  refine WQ.then_normal ?_
  refine WC.cond rfl (fun h11 => ?_) (fun h11 => ?_)
  · skip
    have hlt : i < (Fm.rowT t).length := by simpa using h11
    obtain ⟨k, hk⟩ : ∃ k, (Fm.rowT t)[i]? = some k := ⟨_, List.getElem?_eq_getElem hlt⟩
    obtain ⟨F1, a1, c1, hv1, hrk⟩ := hok.at hk
    refine WC.skip ?_
    refine WQ.then_normal ?_
    refine WC.seq ?_
    refine WC.block ?_
    refine WC.seq ?_
    refine WC.cutF [(29, .bool (k.op == 3 && !out.contains k.name)), (1, pp b1), (3, .slice (some ⟨g, 0, none⟩) (Fm.rowT t).length cap), (4, .slice ad2 out.length ac2), (5, .int .i64 (i : Int))] (fun Q' hQ => ?_) ?_
    · skip
      refine WC.region ?_
      refine WL.step ?_
      refine WL.move rfl rfl ?_
      refine WL.step ?_
      refine WL.move rfl rfl ?_
      refine WL.step ?_
      refine WL.indexAddr F.sl23 rfl rfl rfl hlt ?_
      refine WL.step ?_
      refine WL.fieldAddr F.fld25_0 rfl rfl ?_
      refine WL.step ?_
      refine WL.load1 F.one5 rfl rfl (v := .int .u8 k.op) (fun w hS => by rw [Nat.zero_add]; exact rowc_cells (hS.ok (rowc (.slice (some ⟨g, 0, none⟩) (Fm.rowT t).length cap) (Fm.rowT t).length 25 3 (flat vs)) (by repeat (first | exact List.Mem.head _ | apply List.Mem.tail))) (hok.flat_at hv1 0 _ rfl)) ?_
      refine WL.step ?_
      refine WL.eqI rfl rfl rfl ?_
      refine WL.step ?_
      refine WL.move rfl rfl ?_
      refine WA.splitB (i := 20) rfl (fun g20 => ?_) (fun g20 => ?_)
      · skip
        refine WL.step (WL.guardT rfl rfl rfl ?_)
        refine WL.move rfl rfl ?_
        refine WL.step (WL.guardT rfl rfl rfl ?_)
        refine WL.move rfl rfl ?_
        refine WL.step (WL.guardT rfl rfl rfl ?_)
        refine WL.move rfl rfl ?_
        refine WL.step (WL.guardT rfl rfl rfl ?_)
        refine WL.indexAddr F.sl23 rfl rfl rfl hlt ?_
        refine WL.step (WL.guardT rfl rfl rfl ?_)
        refine WL.fieldAddr F.fld25_1 rfl rfl ?_
        refine WL.step (WL.guardT rfl rfl rfl ?_)
        refine WL.load1 F.one9 rfl rfl (v := .string (str k.name)) (fun w hS => by rw [Nat.zero_add]; exact rowc_cells (hS.ok (rowc (.slice (some ⟨g, 0, none⟩) (Fm.rowT t).length cap) (Fm.rowT t).length 25 3 (flat vs)) (by repeat (first | exact List.Mem.head _ | apply List.Mem.tail))) (hok.flat_at hv1 1 _ rfl)) ?_
        refine WL.step (WL.guardT rfl rfl rfl ?_)
        refine WL.callC (β := { r : Int // decide (r < 0) = !out.contains k.name }) (res := fun r => .int .i64 r.1) (cs := fun _ => []) (Cs := []) (O' := []) F.fun78 (fun d h => by cases h; rfl) rfl (List.Perm.refl _) (by simp) (by simp) (fun w hS _ => Index_c out k.name ad2 ac2 (by omega) w (RdS.of_row rfl (hS.ok (rowc (.slice ad2 out.length ac2) out.length 9 1 (strs out)) (by repeat (first | exact List.Mem.head _ | apply List.Mem.tail))))) (fun x27 => ?_)
        refine WL.step (WL.guardT rfl rfl rfl ?_)
        refine WL.ltI rfl rfl rfl ?_
        refine WL.step ?_
        refine WL.pickT rfl rfl rfl ?_
        refine WL.nil ?_
        refine WQ.byCut hQ (subF_bool ?_ ⟨rfl, rfl, rfl, rfl, trivial⟩ rfl)
        first | (rw [g20, Bool.true_and]; exact x27.2.symm) | (rw [g20, Bool.false_and])
      · skip
        refine WL.step (WL.guardF rfl rfl rfl rfl rfl rfl ?_)
        refine WL.step (WL.guardF rfl rfl rfl rfl rfl rfl ?_)
        refine WL.step (WL.guardF rfl rfl rfl rfl rfl rfl ?_)
        refine WL.step (WL.guardF rfl rfl rfl rfl rfl rfl ?_)
        refine WL.step (WL.guardF rfl rfl rfl rfl rfl rfl ?_)
        refine WL.step (WL.guardF rfl rfl rfl rfl rfl rfl ?_)
        refine WL.step (WL.guardF rfl rfl rfl rfl rfl rfl ?_)
        refine WL.step (WL.guardF rfl rfl rfl rfl rfl rfl ?_)
        refine WL.step ?_
        refine WL.pickF rfl rfl rfl ?_
        refine WL.nil ?_
        refine WQ.byCut hQ (subF_bool ?_ ⟨rfl, rfl, rfl, rfl, trivial⟩ rfl)
        first | (rw [g20, Bool.true_and]; exact x27.2.symm) | (rw [g20, Bool.false_and])
    refine WQ.then_normal ?_
    refine WC.cond rfl (fun h29 => ?_) (fun h29 => ?_)
    · skip
      refine WC.region ?_
      refine WL.step ?_
      refine WL.move rfl rfl ?_
      refine WL.step ?_
      refine WL.move rfl rfl ?_
      refine WL.step ?_
      refine WL.move rfl rfl ?_
      refine WL.step ?_
      refine WL.indexAddr F.sl23 rfl rfl rfl hlt ?_
      refine WL.step ?_
      refine WL.fieldAddr F.fld25_1 rfl rfl ?_
      refine WL.step ?_
      refine WL.load1 F.one9 rfl rfl (v := .string (str k.name)) (fun w hS => by rw [Nat.zero_add]; exact rowc_cells (hS.ok (rowc (.slice (some ⟨g, 0, none⟩) (Fm.rowT t).length cap) (Fm.rowT t).length 25 3 (flat vs)) (by repeat (first | exact List.Mem.head _ | apply List.Mem.tail))) (hok.flat_at hv1 1 _ rfl)) ?_
      refine WL.step ?_
      refine WL.buildSlice F.sl61 F.ez61 rfl rfl rfl rfl (by repeat (first | exact Built.nil | apply Built.one rfl rfl (by repeat constructor) | apply Built.agg rfl rfl (by repeat constructor))) rfl (fun b36 => ?_)
      refine WL.step ?_
      refine WL.appendE (news := [.string (str k.name)]) F.el61 rfl rfl rfl (by repeat (first | exact Rem.here | apply Rem.there)) (fun w hS jj u hu => by rw [Nat.zero_add]; exact hS.cell (cs := [.string (str k.name)]) (by repeat (first | exact List.Mem.head _ | apply List.Mem.tail)) hu) rfl (by simp [Value.oneCell']) (Nat.le_trans (m := 1099511627777) (by omega) (by decide)) (by omega) (fun ad4 ac4 => ?_)
      refine WL.step ?_
      refine WL.assign rfl rfl ?_
      refine WL.nil ?_
      refine WQ.block_normal ?_
      refine WQ.then_normal ?_
      refine WC.region ?_
      refine WL.step ?_
      refine WL.move rfl rfl ?_
      refine WL.step ?_
      refine WL.add rfl rfl rfl ⟨by omega, by omega⟩ ?_
      refine WL.step ?_
      refine WL.assign rfl rfl ?_
      refine WL.nil ?_
      refine WQ.say 4 (.slice ad4 (out ++ [k.name]).length ac4) (by rw [List.length_append]; rfl) ?_
      refine WQ.chunks (C' := [rowc (.slice ad4 (out ++ [k.name]).length ac4) (out ++ [k.name]).length 9 1 (strs (out ++ [k.name])), rowc (.slice (some ⟨g, 0, none⟩) (Fm.rowT t).length cap) (Fm.rowT t).length 25 3 (flat vs), pt b1 [Value.int .u8 t.op, .string (str t.name), .slice a t.kids.length c] 25]) (fun w hS => ?_) ?_
      · have hol2 : (out ++ [k.name]).length = out.length + 1 := by simp
        rw [hol2, strs, List.map_append]
        exact ((St.pick (St.pick (St.pick hS (c := pt b1 [Value.int .u8 t.op, .string (str t.name), .slice a t.kids.length c] 25) (by repeat (first | exact Rem.here | apply Rem.there))) (c := rowc (.slice (some ⟨g, 0, none⟩) (Fm.rowT t).length cap) (Fm.rowT t).length 25 3 (flat vs)) (by repeat (first | exact Rem.here | apply Rem.there))) (c := rowc (.slice ad4 (out.length + 1) ac4) (out.length + 1) 9 1 (strs out ++ [.string (str k.name)])) (by repeat (first | exact Rem.here | apply Rem.there)))).sublist (List.Sublist.cons_cons _ (List.Sublist.cons_cons _ (List.Sublist.cons_cons _ (List.nil_sublist _))))
      refine WQ.back (⟨i + 1, out ++ [k.name], ad4, ac4⟩) ?_ ?_ ?_ ?_
      · exact ⟨by show i + 1 ≤ _; omega, by show _ = ((Fm.rowT t).take (i + 1)).foldl usedStep []; rw [used_take hk, ← hout]; unfold usedStep; rw [h29]; rfl⟩
      · (show (Fm.rowT t).length - (i + 1) < (Fm.rowT t).length - i; omega)
      · exact ⟨rfl, rfl, rfl, rfl, trivial⟩
      · rfl
    · skip
      refine WC.skip ?_
      refine WQ.block_normal ?_
      refine WQ.then_normal ?_
      refine WC.region ?_
      refine WL.step ?_
      refine WL.move rfl rfl ?_
      refine WL.step ?_
      refine WL.add rfl rfl rfl ⟨by omega, by omega⟩ ?_
      refine WL.step ?_
      refine WL.assign rfl rfl ?_
      refine WL.nil ?_
      refine WQ.back (⟨i + 1, out, ad2, ac2⟩) ?_ ?_ ?_ ?_
      · exact ⟨by show i + 1 ≤ _; omega, by show _ = ((Fm.rowT t).take (i + 1)).foldl usedStep []; rw [used_take hk, ← hout]; unfold usedStep; rw [h29]; rfl⟩
      · (show (Fm.rowT t).length - (i + 1) < (Fm.rowT t).length - i; omega)
      · exact ⟨rfl, rfl, rfl, rfl, trivial⟩
      · rfl
  · skip
    have hie : i = (Fm.rowT t).length := by simp at h11; omega
    subst hie
    rw [List.take_length] at hout
    refine WC.exit ?_
    refine WQ.then_exit ?_
    refine WQ.then_exit ?_
    refine WQ.block_exit ?_
    refine WQ.then_normal ?_
    refine WC.seq ?_
    refine WC.region ?_
    refine WL.step ?_
    refine WL.move rfl rfl ?_
    refine WL.step ?_
    refine WL.assign rfl rfl ?_
    refine WL.nil ?_
    refine WQ.then_normal ?_
    refine WC.ret ?_
    exact WQ.ret (rs := [.tmp 2]) rfl (.tmp rfl .nil) (fun w hS => ⟨(ad2, ac2), by rw [show usedF (Fm.rowT t) = out from hout.symm]; rfl, by rw [show usedF (Fm.rowT t) = out from hout.symm]; exact ((St.pick hS (c := rowc (.slice ad2 out.length ac2) out.length 9 1 (strs out)) (by repeat (first | exact Rem.here | apply Rem.there)))).sublist (List.Sublist.cons_cons _ (List.nil_sublist _))⟩)

end Go.Proofs.Ytbippghgkbapnaa

namespace Go.Proofs.Ytbippghgkbapnaa
open Go Go.Eng Go.Proofs
theorem und119 : Try.prog.underlying 119 = some (.map 9 4) := by kernel_rfl
theorem und9k : Try.prog.underlying 9 = some .string := by kernel_rfl
theorem zero4 (w : World) : (zeroValue 4).run Try.prog w = .ok (.bool false) w := by kernel_rfl
def NC (bx bn bm : Nat) (ks : List (List UInt8)) (ad : Option Addr) (ac : Nat) : List Chunk := [pt bx [.map (some bm)] 119, pt bn [.slice ad ks.length ac] 61, mpc bm ks, rowc (.slice ad ks.length ac) ks.length 9 1 (strs ks)]
def NO (bx bn bm n : Nat) (ad : Option Addr) (ac : Nat) : List Nat := bx :: bn :: bm :: ob (.slice ad n ac)
theorem NC_O1 {bx bn bm : Nat} {ks : List (List UInt8)} {ad : Option Addr} {ac : Nat} : ∀ c ∈ NC bx bn bm ks ad ac, ∀ k, c.fp k → k ∈ NO bx bn bm ks.length ad ac := by
  intro c hc k hk
  simp only [NC, List.mem_cons, List.not_mem_nil, or_false] at hc
  rcases hc with rfl | rfl | rfl | rfl
  · have : k = bx := hk
    simp [NO, this]
  · have : k = bn := hk
    simp [NO, this]
  · have : k = bm := hk
    simp [NO, this]
  · have : (Value.slice ad ks.length ac).ownBlock = some k := hk
    simp [NO, ob, this]
theorem NC_O2 {bx bn bm : Nat} {ks : List (List UInt8)} {ad : Option Addr} {ac : Nat} : ∀ k ∈ NO bx bn bm ks.length ad ac, ∃ c ∈ NC bx bn bm ks ad ac, c.fp k := by
  intro k hk
  simp only [NO, List.mem_cons] at hk
  rcases hk with rfl | rfl | rfl | hk
  · exact ⟨pt k [.map (some bm)] 119, by simp [NC], rfl⟩
  · exact ⟨pt k [.slice ad ks.length ac] 61, by simp [NC], rfl⟩
  · exact ⟨mpc k ks, by simp [NC], rfl⟩
  · refine ⟨rowc (.slice ad ks.length ac) ks.length 9 1 (strs ks), by simp [NC], ?_⟩
    show (Value.slice ad ks.length ac).ownBlock = some k
    unfold ob at hk
    split at hk
    · rename_i b hb
      simp at hk; rw [hb, hk]
    · simp at hk
theorem NC_sep {bx bn bm : Nat} {ks : List (List UInt8)} {ad : Option Addr} {ac z : Nat} {w0 w : World} {O : List Nat} {C : List Chunk} (hS : St w0 O (NC bx bn bm ks ad ac ++ C) w) (h1 : z < w0.heap.size) (h2 : z ∉ O) : z ∉ NO bx bn bm ks.length ad ac := fun hz => by
  obtain ⟨c, hc, hf⟩ := NC_O2 z hz
  exact h2 ((hS.bnd c (List.mem_append_left _ hc) z hf).2 h1)

theorem NamesF_c (t : Tree) (a : Option Addr) (c : Nat) (bx bn bm : Nat) (ks : List (List UInt8)) (ad : Option Addr) (ac : Nat) (w : World) (O : List Nat) (hks : ks.length ≤ 1099511627776) (hS0 : St w O (NC bx bn bm ks ad ac) w) :
    Calls Try.prog 77 [tv t a c, pp bx, pp bn].toArray w fun e w' => ∃ x : Option Addr × Nat, e = .returned (.tuple #[]) ∧ St w O (NC bx bn bm (usedStep ks t) x.1 x.2) w' := by
  refine enter Try.func77 rfl Try.ntmps77 rfl (C := [pt bx [.map (some bm)] 119, pt bn [.slice ad ks.length ac] 61, mpc bm ks, rowc (.slice ad ks.length ac) ks.length 9 1 (strs ks)]) hS0 ?_
  refine WC.seq ?_
  refine WC.region ?_
  refine WL.step ?_
  refine WL.boxN rfl rfl (fun b3 => ?_)
  refine WL.nil ?_
  refine WQ.then_normal ?_
  refine WC.seq ?_
  refine WC.cutF [(13, .bool (t.op == 3 && !ks.contains t.name)), (1, pp bx), (2, pp bn), (3, pp b3)] (fun Q' hQ => ?_) ?_
  · skip
    refine WC.region ?_
    refine WL.step ?_
    refine WL.fieldAddr0 F.fld25_0 rfl rfl ?_
    refine WL.step ?_
    refine WL.loadP F.one5 rfl rfl (by repeat (first | exact List.Mem.head _ | apply List.Mem.tail)) rfl ?_
    refine WL.step ?_
    refine WL.eqI rfl rfl rfl ?_
    refine WL.step ?_
    refine WL.move rfl rfl ?_
    refine WA.splitB (i := 7) rfl (fun g7 => ?_) (fun g7 => ?_)
    · skip
      refine WL.step (WL.guardT rfl rfl rfl ?_)
      refine WL.loadP F.one119 rfl rfl (by repeat (first | exact List.Mem.head _ | apply List.Mem.tail)) rfl ?_
      refine WL.step (WL.guardT rfl rfl rfl ?_)
      refine WL.fieldAddr0 F.fld25_1 rfl rfl ?_
      refine WL.step (WL.guardT rfl rfl rfl ?_)
      refine WL.loadP F.one9 rfl rfl (by repeat (first | exact List.Mem.head _ | apply List.Mem.tail)) rfl ?_
      refine WL.step (WL.guardT rfl rfl rfl ?_)
      refine WL.lookupM und119 und9k und4b zero4 rfl rfl rfl (by repeat (first | exact List.Mem.head _ | apply List.Mem.tail)) ?_
      refine WL.step (WL.guardT rfl rfl rfl ?_)
      refine WL.not rfl rfl ?_
      refine WL.step ?_
      refine WL.pickT rfl rfl rfl ?_
      refine WL.nil ?_
      refine WQ.byCut hQ (subF_bool ?_ ⟨rfl, rfl, rfl, trivial⟩ rfl)
      first | (rw [g7, Bool.true_and]) | (rw [g7, Bool.false_and])
    · skip
      refine WL.step (WL.guardF rfl rfl rfl rfl rfl rfl ?_)
      refine WL.step (WL.guardF rfl rfl rfl rfl rfl rfl ?_)
      refine WL.step (WL.guardF rfl rfl rfl rfl rfl rfl ?_)
      refine WL.step (WL.guardF rfl rfl rfl rfl rfl rfl ?_)
      refine WL.step (WL.guardF rfl rfl rfl rfl rfl rfl ?_)
      refine WL.step ?_
      refine WL.pickF rfl rfl rfl ?_
      refine WL.nil ?_
      refine WQ.byCut hQ (subF_bool ?_ ⟨rfl, rfl, rfl, trivial⟩ rfl)
      first | (rw [g7, Bool.true_and]) | (rw [g7, Bool.false_and])
  refine WQ.then_normal ?_
  refine WC.cond rfl (fun h13 => ?_) (fun h13 => ?_)
  · skip
    have hno : ks.contains t.name = false := by (simp at h13; simpa using h13.2)
    refine WC.seq ?_
    refine WC.region ?_
    refine WL.step ?_
    refine WL.loadP F.one119 rfl rfl (by repeat (first | exact List.Mem.head _ | apply List.Mem.tail)) rfl ?_
    refine WL.step ?_
    refine WL.fieldAddr0 F.fld25_1 rfl rfl ?_
    refine WL.step ?_
    refine WL.loadP F.one9 rfl rfl (by repeat (first | exact List.Mem.head _ | apply List.Mem.tail)) rfl ?_
    refine WL.step ?_
    refine WL.mapPut und119 und9k rfl rfl rfl hno (by repeat (first | exact Upd.here | apply Upd.there)) ?_
    refine WL.nil ?_
    refine WQ.then_normal ?_
    refine WC.region ?_
    refine WL.step ?_
    refine WL.loadP F.one61 rfl rfl (by repeat (first | exact List.Mem.head _ | apply List.Mem.tail)) rfl ?_
    refine WL.step ?_
    refine WL.fieldAddr0 F.fld25_1 rfl rfl ?_
    refine WL.step ?_
    refine WL.loadP F.one9 rfl rfl (by repeat (first | exact List.Mem.head _ | apply List.Mem.tail)) rfl ?_
    refine WL.step ?_
    refine WL.buildSlice F.sl61 F.ez61 rfl rfl rfl rfl (by repeat (first | exact Built.nil | apply Built.one rfl rfl (by repeat constructor) | apply Built.agg rfl rfl (by repeat constructor))) rfl (fun b20 => ?_)
    refine WL.step ?_
    refine WL.appendE (news := [.string (str t.name)]) F.el61 rfl rfl rfl (by repeat (first | exact Rem.here | apply Rem.there)) (fun w hS jj u hu => by rw [Nat.zero_add]; exact hS.cell (cs := [.string (str t.name)]) (by repeat (first | exact List.Mem.head _ | apply List.Mem.tail)) hu) rfl (by simp [Value.oneCell']) (Nat.le_trans (m := 1099511627777) (by omega) (by decide)) (by omega) (fun ad4 ac4 => ?_)
    refine WL.step ?_
    refine WL.store1 F.one61 rfl rfl rfl (by repeat (first | exact Upd.here | apply Upd.there)) (by repeat constructor) ?_
    refine WL.nil ?_
    refine WQ.fin (rs := []) rfl .nil (fun w hS => ?_)
    have hst : usedStep ks t = ks ++ [t.name] := by unfold usedStep; rw [if_pos h13]
    have hol : (ks ++ [t.name]).length = ks.length + 1 := by simp
    refine ⟨(ad4, ac4), rfl, ?_⟩
    rw [hst]
    unfold NC
    rw [hol, strs, List.map_append]
    exact ((St.pick (St.pick (St.pick (St.pick hS (c := rowc (.slice ad4 (ks.length + 1) ac4) (ks.length + 1) 9 1 (strs ks ++ [.string (str t.name)])) (by repeat (first | exact Rem.here | apply Rem.there))) (c := mpc bm (ks ++ [t.name])) (by repeat (first | exact Rem.here | apply Rem.there))) (c := pt bn [.slice ad4 (ks.length + 1) ac4] 61) (by repeat (first | exact Rem.here | apply Rem.there))) (c := pt bx [.map (some bm)] 119) (by repeat (first | exact Rem.here | apply Rem.there)))).sublist (List.Sublist.cons_cons _ (List.Sublist.cons_cons _ (List.Sublist.cons_cons _ (List.Sublist.cons_cons _ (List.nil_sublist _)))))
  · skip
    refine WC.skip ?_
    refine WQ.fin (rs := []) rfl .nil (fun w hS => ?_)
    have hst : usedStep ks t = ks := by unfold usedStep; rw [if_neg (by rw [h13]; decide)]
    refine ⟨(ad, ac), rfl, ?_⟩
    rw [hst]
    exact ((St.pick (St.pick (St.pick (St.pick hS (c := rowc (.slice ad ks.length ac) ks.length 9 1 (strs ks)) (by repeat (first | exact Rem.here | apply Rem.there))) (c := mpc bm ks) (by repeat (first | exact Rem.here | apply Rem.there))) (c := pt bn [.slice ad ks.length ac] 61) (by repeat (first | exact Rem.here | apply Rem.there))) (c := pt bx [.map (some bm)] 119) (by repeat (first | exact Rem.here | apply Rem.there)))).sublist (List.Sublist.cons_cons _ (List.Sublist.cons_cons _ (List.Sublist.cons_cons _ (List.Sublist.cons_cons _ (List.nil_sublist _)))))

end Go.Proofs.Ytbippghgkbapnaa

namespace Go.Proofs.Ytbippghgkbapnaa
open Go Go.Eng Go.Proofs
def WalkN (n : Nat) : Prop := ∀ (t : Tree) (G : List Nat) (a : Option Addr) (c : Nat) (bx bn bm : Nat) (ks : List (List UInt8)) (ad : Option Addr) (ac : Nat) (w : World) (O : List Nat), (Fm.rowT t).length ≤ n → ks.length + (Fm.rowT t).length ≤ 1099511627776 → rdT w t G (tv t a c) → (∀ k ∈ G, k ∉ O) → St w O (NC bx bn bm ks ad ac) w →
  Calls Try.prog 76 [tv t a c, Value.func (.func 77) [].toArray [pp bx, pp bn].toArray].toArray w fun e w' => ∃ x : Option Addr × Nat, e = .returned (.tuple #[]) ∧ St w O (NC bx bn bm ((Fm.rowT t).foldl usedStep ks) x.1 x.2) w'
structure WN where
  i : Nat
  ks : List (List UInt8)
  ad : Option Addr
  ac : Nat

theorem WalkN_step (n : Nat) (hn : n ≤ 1099511627776) (hrec : WalkN n) : WalkN (n + 1) := by
  intro t G a c bx bn bm ks ad ac w O hsz hkl hr hGO hS0
  refine enter Try.func76 rfl Try.ntmps76 rfl (C := [pt bx [.map (some bm)] 119, pt bn [.slice ad ks.length ac] 61, mpc bm ks, rowc (.slice ad ks.length ac) ks.length 9 1 (strs ks)]) hS0 ?_
  refine WC.seq ?_
  refine WC.region ?_
  refine WL.step ?_
  refine WL.boxN rfl rfl (fun b2 => ?_)
  refine WL.nil ?_
  refine WQ.then_normal ?_
  refine WC.seq ?_
  refine WC.region ?_
  refine WL.step ?_
  refine WL.move rfl rfl ?_
  refine WL.step ?_
  refine WL.loadW F.agg25 rfl rfl (by repeat (first | exact List.Mem.head _ | apply List.Mem.tail)) rfl ?_
  refine WL.step ?_
  refine WA.chunks (C' := [pt bx [.map (some bm)] 119, pt bn [.slice ad ks.length ac] 61, mpc bm ks, rowc (.slice ad ks.length ac) ks.length 9 1 (strs ks), pt b2 [Value.int .u8 t.op, .string (str t.name), .slice a t.kids.length c] 25]) (fun w hS => ((St.pick (St.pick (St.pick (St.pick (St.pick hS (c := pt b2 [Value.int .u8 t.op, .string (str t.name), .slice a t.kids.length c] 25) (by repeat (first | exact Rem.here | apply Rem.there))) (c := rowc (.slice ad ks.length ac) ks.length 9 1 (strs ks)) (by repeat (first | exact Rem.here | apply Rem.there))) (c := mpc bm ks) (by repeat (first | exact Rem.here | apply Rem.there))) (c := pt bn [.slice ad ks.length ac] 61) (by repeat (first | exact Rem.here | apply Rem.there))) (c := pt bx [.map (some bm)] 119) (by repeat (first | exact Rem.here | apply Rem.there)))).sublist (List.Sublist.cons_cons _ (List.Sublist.cons_cons _ (List.Sublist.cons_cons _ (List.Sublist.cons_cons _ (List.Sublist.cons_cons _ (List.nil_sublist _))))))) ?_
  refine WL.callFC (β := Option Addr × Nat) (res := fun _ => .tuple #[]) (cs := fun x => [pt bx [.map (some bm)] 119, pt bn [.slice x.1 (usedStep ks t).length x.2] 61, mpc bm (usedStep ks t), rowc (.slice x.1 (usedStep ks t).length x.2) (usedStep ks t).length 9 1 (strs (usedStep ks t))]) (Cs := [pt bx [.map (some bm)] 119, pt bn [.slice ad ks.length ac] 61, mpc bm ks, rowc (.slice ad ks.length ac) ks.length 9 1 (strs ks)]) (C1 := [pt b2 [Value.int .u8 t.op, .string (str t.name), .slice a t.kids.length c] 25]) (O' := NO bx bn bm ks.length ad ac) (us := []) (cap := [pp bx, pp bn]) F.fun77 (fun d h => by cases h; rfl) rfl rfl (List.Perm.refl _) NC_O1 NC_O2 (fun w hS hS2 => NamesF_c t a c bx bn bm ks ad ac w _ (by omega) hS2) (fun x8 => ?_)
  obtain ⟨ad1, ac1⟩ := x8
  have hu1 := usedStep_len ks t
  have hrl : (Fm.rowT t).length = (Fm.rowL t.kids).length + 1 := by rw [Fm.rowT_eq t]; rfl
  refine WL.nil ?_
  refine WQ.then_normal ?_
  refine WC.seq ?_
  refine WC.region ?_
  refine WL.step ?_
  refine WL.fieldAddr0 F.fld25_2 rfl rfl ?_
  refine WL.step ?_
  refine WL.loadP F.one23 rfl rfl (by repeat (first | exact List.Mem.head _ | apply List.Mem.tail)) rfl ?_
  refine WL.step ?_
  refine WL.lenSl F.und23 rfl rfl ?_
  refine WL.step ?_
  refine WL.move rfl rfl ?_
  refine WL.nil ?_
  refine WQ.then_normal ?_
  refine WC.block ?_
  refine WC.loop (α := WN) (fun g => g.i ≤ t.kids.length ∧ g.ks = (Fm.rowL (t.kids.take g.i)).foldl usedStep (usedStep ks t)) (fun g => [(1, Value.func (.func 77) [].toArray [pp bx, pp bn].toArray), (2, pp b2), (10, .slice a t.kids.length c), (11, .int .i64 (t.kids.length : Int)), (12, .int .i64 (g.i : Int))]) (fun g => [pt bx [.map (some bm)] 119, pt bn [.slice g.ad g.ks.length g.ac] 61, mpc bm g.ks, rowc (.slice g.ad g.ks.length g.ac) g.ks.length 9 1 (strs g.ks), pt b2 [Value.int .u8 t.op, .string (str t.name), .slice a t.kids.length c] 25]) (fun g => t.kids.length - g.i) (⟨0, usedStep ks t, ad1, ac1⟩) ?_ ?_ ?_ ?_
  · exact ⟨Nat.zero_le _, rfl⟩
  · exact ⟨rfl, rfl, rfl, rfl, rfl, trivial⟩
  · rfl
  rintro ⟨i, kt, ad2, ac2⟩ ⟨hi, hkt⟩
  dsimp only at hi hkt
  show WC _ _ _ _ _ _ _ [(1, Value.func (.func 77) [].toArray [pp bx, pp bn].toArray), (2, pp b2), (10, .slice a t.kids.length c), (11, .int .i64 (t.kids.length : Int)), (12, .int .i64 (i : Int))] [pt bx [.map (some bm)] 119, pt bn [.slice ad2 kt.length ac2] 61, mpc bm kt, rowc (.slice ad2 kt.length ac2) kt.length 9 1 (strs kt), pt b2 [Value.int .u8 t.op, .string (str t.name), .slice a t.kids.length c] 25]
  have hul := used_len (Fm.rowL (t.kids.take i)) (usedStep ks t)
  rw [← hkt] at hul
  have htl := Fm.rowL_take_le t.kids i
  refine WC.seq ?_
  refine WC.region ?_
  refine WL.step ?_
  refine WL.ltI rfl rfl rfl ?_
  refine WL.nil ?_
  refine WQ.then_normal ?_
  refine WC.seq ?_
  refine WC.cond rfl (fun h13 => ?_) (fun h13 => ?_)
  · skip
    have hlt : i < t.kids.length := by simpa using h13
    obtain ⟨k, hk⟩ : ∃ k, t.kids[i]? = some k := ⟨_, List.getElem?_eq_getElem hlt⟩
    obtain ⟨b, off, F1, a1, c1, rfl, hb, hF1, hrk, hck⟩ := rdT_at hr hk
    have hks := Fm.rowT_kid hk
    have hkl := Fm.kids_le t
    have hbO := hGO b hb
    have htl2 := Fm.rowL_take_le t.kids (i + 1)
    rw [Fm.rowL_take hk, List.length_append] at htl2
    refine WC.skip ?_
    refine WQ.then_normal ?_
    refine WC.seq ?_
    refine WC.block ?_
    refine WC.seq ?_
    refine WC.region ?_
    refine WL.step ?_
    refine WL.indexAddr F.sl23 rfl rfl rfl hlt ?_
    refine WL.step ?_
    refine WL.loadN F.agg25 rfl rfl (vs := [Value.int .u8 k.op, .string (str k.name), .slice a1 k.kids.length c1]) rfl (fun w hS j v hv => hS.oldc (hck j v hv) hbO) ?_
    refine WL.step ?_
    refine WL.alloc F.zero25 rfl (fun b5 => ?_)
    refine WL.step ?_
    refine WL.storeN F.agg25 rfl rfl rfl (by simp [Value.oneCell']) (by repeat (first | exact Upd.here | apply Upd.there)) (by repeat constructor) ?_
    refine WL.nil ?_
    refine WQ.then_normal ?_
    refine WC.region ?_
    refine WL.step ?_
    refine WL.loadW F.agg25 rfl rfl (by repeat (first | exact List.Mem.head _ | apply List.Mem.tail)) rfl ?_
    refine WL.step ?_
    refine WL.move rfl rfl ?_
    refine WL.step ?_
    refine WA.chunks (C' := [pt bx [.map (some bm)] 119, pt bn [.slice ad2 kt.length ac2] 61, mpc bm kt, rowc (.slice ad2 kt.length ac2) kt.length 9 1 (strs kt), pt b5 [Value.int .u8 k.op, .string (str k.name), .slice a1 k.kids.length c1] 25, pt b2 [Value.int .u8 t.op, .string (str t.name), .slice (some ⟨b, off, none⟩) t.kids.length c] 25]) (fun w hS => ((St.pick (St.pick (St.pick (St.pick (St.pick (St.pick hS (c := pt b2 [Value.int .u8 t.op, .string (str t.name), .slice (some ⟨b, off, none⟩) t.kids.length c] 25) (by repeat (first | exact Rem.here | apply Rem.there))) (c := pt b5 [Value.int .u8 k.op, .string (str k.name), .slice a1 k.kids.length c1] 25) (by repeat (first | exact Rem.here | apply Rem.there))) (c := rowc (.slice ad2 kt.length ac2) kt.length 9 1 (strs kt)) (by repeat (first | exact Rem.here | apply Rem.there))) (c := mpc bm kt) (by repeat (first | exact Rem.here | apply Rem.there))) (c := pt bn [.slice ad2 kt.length ac2] 61) (by repeat (first | exact Rem.here | apply Rem.there))) (c := pt bx [.map (some bm)] 119) (by repeat (first | exact Rem.here | apply Rem.there)))).sublist (List.Sublist.cons_cons _ (List.Sublist.cons_cons _ (List.Sublist.cons_cons _ (List.Sublist.cons_cons _ (List.Sublist.cons_cons _ (List.Sublist.cons_cons _ (List.nil_sublist _)))))))) ?_
    refine WL.callC (β := Option Addr × Nat) (res := fun _ => .tuple #[]) (cs := fun x => [pt bx [.map (some bm)] 119, pt bn [.slice x.1 ((Fm.rowT k).foldl usedStep kt).length x.2] 61, mpc bm ((Fm.rowT k).foldl usedStep kt), rowc (.slice x.1 ((Fm.rowT k).foldl usedStep kt).length x.2) ((Fm.rowT k).foldl usedStep kt).length 9 1 (strs ((Fm.rowT k).foldl usedStep kt))]) (Cs := [pt bx [.map (some bm)] 119, pt bn [.slice ad2 kt.length ac2] 61, mpc bm kt, rowc (.slice ad2 kt.length ac2) kt.length 9 1 (strs kt)]) (C1 := [pt b5 [Value.int .u8 k.op, .string (str k.name), .slice a1 k.kids.length c1] 25, pt b2 [Value.int .u8 t.op, .string (str t.name), .slice (some ⟨b, off, none⟩) t.kids.length c] 25]) (O' := NO bx bn bm kt.length ad2 ac2) F.fun76 (fun d h => by cases h; rfl) rfl (List.Perm.refl _) NC_O1 NC_O2 (fun w hS hS2 => hrec k F1 a1 c1 bx bn bm kt ad2 ac2 w _ (by omega) (by omega) (hS.oldT hrk (fun z hz => ⟨rdT_lt hrk z hz, hGO z (hF1 z hz)⟩)) (fun z hz => NC_sep hS (rdT_lt hrk z hz) (hGO z (hF1 z hz))) hS2) (fun x18 => ?_)
    refine WL.nil ?_
    refine WQ.block_normal ?_
    refine WQ.then_normal ?_
    refine WC.region ?_
    refine WL.step ?_
    refine WL.add rfl rfl rfl ⟨by omega, by omega⟩ ?_
    refine WL.step ?_
    refine WL.move rfl rfl ?_
    refine WL.nil ?_
    obtain ⟨ad5, ac5⟩ := x18
    refine WQ.chunks (C' := [pt bx [.map (some bm)] 119, pt bn [.slice ad5 ((Fm.rowT k).foldl usedStep kt).length ac5] 61, mpc bm ((Fm.rowT k).foldl usedStep kt), rowc (.slice ad5 ((Fm.rowT k).foldl usedStep kt).length ac5) ((Fm.rowT k).foldl usedStep kt).length 9 1 (strs ((Fm.rowT k).foldl usedStep kt)), pt b2 [Value.int .u8 t.op, .string (str t.name), .slice (some ⟨b, off, none⟩) t.kids.length c] 25]) (fun w hS => ((St.pick (St.pick (St.pick (St.pick (St.pick hS (c := pt b2 [Value.int .u8 t.op, .string (str t.name), .slice (some ⟨b, off, none⟩) t.kids.length c] 25) (by repeat (first | exact Rem.here | apply Rem.there))) (c := rowc (.slice ad5 ((Fm.rowT k).foldl usedStep kt).length ac5) ((Fm.rowT k).foldl usedStep kt).length 9 1 (strs ((Fm.rowT k).foldl usedStep kt))) (by repeat (first | exact Rem.here | apply Rem.there))) (c := mpc bm ((Fm.rowT k).foldl usedStep kt)) (by repeat (first | exact Rem.here | apply Rem.there))) (c := pt bn [.slice ad5 ((Fm.rowT k).foldl usedStep kt).length ac5] 61) (by repeat (first | exact Rem.here | apply Rem.there))) (c := pt bx [.map (some bm)] 119) (by repeat (first | exact Rem.here | apply Rem.there)))).sublist (List.Sublist.cons_cons _ (List.Sublist.cons_cons _ (List.Sublist.cons_cons _ (List.Sublist.cons_cons _ (List.Sublist.cons_cons _ (List.nil_sublist _))))))) ?_
    refine WQ.back (⟨i + 1, (Fm.rowT k).foldl usedStep kt, ad5, ac5⟩) ?_ ?_ ?_ ?_
    · exact ⟨by show i + 1 ≤ _; omega, by show _ = (Fm.rowL (t.kids.take (i + 1))).foldl usedStep _; rw [Fm.rowL_take hk, List.foldl_append, ← hkt]⟩
    · (show t.kids.length - (i + 1) < t.kids.length - i; omega)
    · exact ⟨rfl, rfl, rfl, rfl, rfl, trivial⟩
    · rfl
  · skip
    have hie : i = t.kids.length := by simp at h13; omega
    subst hie
    rw [List.take_length] at hkt
    refine WC.exit ?_
    refine WQ.then_exit ?_
    refine WQ.then_exit ?_
    refine WQ.block_exit ?_
    refine WQ.fin (rs := []) rfl .nil (fun w hS => ?_)
    refine ⟨(ad2, ac2), rfl, ?_⟩
    rw [Fm.rowT_eq t, List.foldl_cons, ← hkt]
    exact ((St.pick (St.pick (St.pick (St.pick hS (c := rowc (.slice ad2 kt.length ac2) kt.length 9 1 (strs kt)) (by repeat (first | exact Rem.here | apply Rem.there))) (c := mpc bm kt) (by repeat (first | exact Rem.here | apply Rem.there))) (c := pt bn [.slice ad2 kt.length ac2] 61) (by repeat (first | exact Rem.here | apply Rem.there))) (c := pt bx [.map (some bm)] 119) (by repeat (first | exact Rem.here | apply Rem.there)))).sublist (List.Sublist.cons_cons _ (List.Sublist.cons_cons _ (List.Sublist.cons_cons _ (List.Sublist.cons_cons _ (List.nil_sublist _)))))

theorem WalkN_c : ∀ n, n ≤ 1099511627776 → WalkN n
  | 0, _ => fun t G a c bx bn bm ks ad ac w O hsz => by rw [Fm.rowT_eq] at hsz; simp at hsz
  | n + 1, h => WalkN_step n (by omega) (WalkN_c n (by omega))

theorem Names_c (t : Tree) (G : List Nat) (a : Option Addr) (c : Nat) (w : World) (hsz : (Fm.rowT t).length ≤ 1099511627776) (hr : rdT w t G (tv t a c)) :
    Calls Try.prog 36 [tv t a c].toArray w fun e w' => ∃ x : Option Addr × Nat, e = .returned (.slice x.1 (usedF (Fm.rowT t)).length x.2) ∧ St w [] [rowc (.slice x.1 (usedF (Fm.rowT t)).length x.2) (usedF (Fm.rowT t)).length 9 1 (strs (usedF (Fm.rowT t)))] w' := by
  refine enter Try.func36 rfl Try.ntmps36 rfl (St.init _) ?_
  refine WC.seq ?_
  refine WC.region ?_
  refine WL.step ?_
  refine WL.boxN rfl rfl (fun b1 => ?_)
  refine WL.step ?_
  refine WL.assign rfl rfl ?_
  refine WL.nil ?_
  refine WQ.then_normal ?_
  refine WC.seq ?_
  refine WC.region ?_
  refine WL.step ?_
  refine WL.alloc F.zero61 rfl (fun b3 => ?_)
  refine WL.nil ?_
  refine WQ.then_normal ?_
  refine WC.seq ?_
  refine WC.region ?_
  refine WL.step ?_
  refine WL.makeMap rfl (fun b5 => ?_)
  refine WL.step ?_
  refine WL.alloc F.zero119 rfl (fun b4 => ?_)
  refine WL.step ?_
  refine WL.store1 F.one119 rfl rfl rfl (by repeat (first | exact Upd.here | apply Upd.there)) (by repeat constructor) ?_
  refine WL.nil ?_
  refine WQ.then_normal ?_
  refine WC.seq ?_
  refine WC.region ?_
  refine WL.step ?_
  refine WL.loadW F.agg25 rfl rfl (by repeat (first | exact List.Mem.head _ | apply List.Mem.tail)) rfl ?_
  refine WL.step ?_
  refine WL.makeFunc rfl rfl rfl ?_
  refine WA.chunks (fun w hS => (hS.rowNil 9 1)) ?_
  refine WL.step ?_
  refine WA.chunks (C' := [pt b4 [.map (some b5)] 119, pt b3 [.slice none ([] : List (List UInt8)).length 0] 61, mpc b5 ([] : List (List UInt8)), rowc (.slice none ([] : List (List UInt8)).length 0) ([] : List (List UInt8)).length 9 1 (strs ([] : List (List UInt8))), pt b1 [Value.int .u8 t.op, .string (str t.name), .slice a t.kids.length c] 25]) (fun w hS => ((St.pick (St.pick (St.pick (St.pick (St.pick hS (c := pt b1 [Value.int .u8 t.op, .string (str t.name), .slice a t.kids.length c] 25) (by repeat (first | exact Rem.here | apply Rem.there))) (c := rowc (.slice none ([] : List (List UInt8)).length 0) ([] : List (List UInt8)).length 9 1 (strs ([] : List (List UInt8)))) (by repeat (first | exact Rem.here | apply Rem.there))) (c := mpc b5 ([] : List (List UInt8))) (by repeat (first | exact Rem.here | apply Rem.there))) (c := pt b3 [.slice none ([] : List (List UInt8)).length 0] 61) (by repeat (first | exact Rem.here | apply Rem.there))) (c := pt b4 [.map (some b5)] 119) (by repeat (first | exact Rem.here | apply Rem.there)))).sublist (List.Sublist.cons_cons _ (List.Sublist.cons_cons _ (List.Sublist.cons_cons _ (List.Sublist.cons_cons _ (List.Sublist.cons_cons _ (List.nil_sublist _))))))) ?_
  refine WL.callC (β := Option Addr × Nat) (res := fun _ => .tuple #[]) (cs := fun x => [pt b4 [.map (some b5)] 119, pt b3 [.slice x.1 ((Fm.rowT t).foldl usedStep []).length x.2] 61, mpc b5 ((Fm.rowT t).foldl usedStep []), rowc (.slice x.1 ((Fm.rowT t).foldl usedStep []).length x.2) ((Fm.rowT t).foldl usedStep []).length 9 1 (strs ((Fm.rowT t).foldl usedStep []))]) (Cs := [pt b4 [.map (some b5)] 119, pt b3 [.slice none ([] : List (List UInt8)).length 0] 61, mpc b5 ([] : List (List UInt8)), rowc (.slice none ([] : List (List UInt8)).length 0) ([] : List (List UInt8)).length 9 1 (strs ([] : List (List UInt8)))]) (C1 := [pt b1 [Value.int .u8 t.op, .string (str t.name), .slice a t.kids.length c] 25]) (O' := NO b4 b3 b5 ([] : List (List UInt8)).length none 0) F.fun76 (fun d h => by cases h; rfl) rfl (List.Perm.refl _) NC_O1 NC_O2 (fun w hS hS2 => WalkN_c _ hsz t G a c b4 b3 b5 [] none 0 w _ (Nat.le_refl _) (by simpa using hsz) (hS.oldT hr (fun z hz => ⟨rdT_lt hr z hz, by simp⟩)) (fun z hz => NC_sep hS (rdT_lt hr z hz) (by simp)) hS2) (fun x8 => ?_)
  obtain ⟨ad1, ac1⟩ := x8
  refine WL.nil ?_
  refine WQ.then_normal ?_
  refine WC.seq ?_
  refine WC.region ?_
  refine WL.step ?_
  refine WL.loadP F.one61 rfl rfl (by repeat (first | exact List.Mem.head _ | apply List.Mem.tail)) rfl ?_
  refine WL.step ?_
  refine WL.assign rfl rfl ?_
  refine WL.nil ?_
  refine WQ.then_normal ?_
  refine WC.ret ?_
  exact WQ.ret (rs := [.tmp 2]) rfl (.tmp rfl .nil) (fun w hS => ⟨(ad1, ac1), rfl, ((St.pick hS (c := rowc (.slice ad1 (usedF (Fm.rowT t)).length ac1) (usedF (Fm.rowT t)).length 9 1 (strs (usedF (Fm.rowT t)))) (by repeat (first | exact Rem.here | apply Rem.there)))).sublist (List.Sublist.cons_cons _ (List.nil_sublist _))⟩)

end Go.Proofs.Ytbippghgkbapnaa

namespace Go.Proofs.Ytbippghgkbapnaa
open Go Go.Eng Go.Proofs
set_option maxRecDepth 100000 in
theorem FormulaTells_c (t : Tree) (G : List Nat) (a : Option Addr) (c : Nat) (u : Tree) (H : List Nat) (a2 : Option Addr) (c2 : Nat) (wb : World) (hr : rdT wb t G (tv t a c)) (hr2 : rdT wb u H (tv u a2 c2)) : Pure Try.prog 10 [tv t a c, tv u a2 c2] wb (.bool true) := by
  refine enter Try.func10 rfl Try.ntmps10 rfl (St.init _) ?_
  refine WC.seq ?_
  refine WC.region ?_
  refine WL.step ?_
  refine WL.boxN rfl rfl (fun b2 => ?_)
  refine WL.step ?_
  refine WL.boxN rfl rfl (fun b3 => ?_)
  refine WL.step ?_
  refine WL.assign rfl rfl ?_
  refine WL.nil ?_
  refine WQ.then_normal ?_
  refine WC.seq ?_
  refine WC.seq ?_
  refine WC.region ?_
  refine WL.step ?_
  refine WL.loadW F.agg25 rfl rfl (by repeat (first | exact List.Mem.head _ | apply List.Mem.tail)) rfl ?_
  refine WL.step ?_
  refine WL.callV F.fun17 rfl rfl (fun w hS => great_c t 100 (by omega) wb G a c w hr ((Ext.refl wb).st hS)) ?_
  refine WL.step ?_
  refine WL.move rfl rfl ?_
  refine WA.splitB (i := 12) rfl (fun g12 => ?_) (fun g12 => ?_)
  · skip
    refine WL.step (WL.guardF rfl rfl rfl rfl rfl rfl ?_)
    refine WL.step (WL.guardF rfl rfl rfl rfl rfl rfl ?_)
    refine WL.step ?_
    refine WL.pickT rfl rfl rfl ?_
    refine WL.nil ?_
    refine WQ.then_normal ?_
    refine WC.condT rfl ?_
    refine WC.seq ?_
    refine WC.region ?_
    refine WL.step ?_
    refine WL.callV F.fun13 rfl rfl (fun w _ => wakes_c w) ?_
    refine WL.step ?_
    refine WL.assign rfl rfl ?_
    refine WL.nil ?_
    refine WQ.then_normal ?_
    refine WC.ret ?_
    refine WQ.then_ret ?_
    exact WQ.ret (rs := [.tmp 4]) rfl (.tmp rfl .nil) (fun w hS => ⟨by first | rfl | simp [tup], hS.sublist (List.nil_sublist _)⟩)
  · skip
    refine WL.step (WL.guardT rfl rfl rfl ?_)
    refine WL.loadW F.agg25 rfl rfl (by repeat (first | exact List.Mem.head _ | apply List.Mem.tail)) rfl ?_
    refine WL.step (WL.guardT rfl rfl rfl ?_)
    refine WL.callV F.fun17 rfl rfl (fun w hS => great_c u 100 (by omega) wb H a2 c2 w hr2 ((Ext.refl wb).st hS)) ?_
    refine WL.step ?_
    refine WL.pickF rfl rfl rfl ?_
    refine WL.nil ?_
    refine WQ.then_normal ?_
    refine WC.cond rfl (fun h15 => ?_) (fun h15 => ?_)
    · skip
      refine WC.seq ?_
      refine WC.region ?_
      refine WL.step ?_
      refine WL.callV F.fun13 rfl rfl (fun w _ => wakes_c w) ?_
      refine WL.step ?_
      refine WL.assign rfl rfl ?_
      refine WL.nil ?_
      refine WQ.then_normal ?_
      refine WC.ret ?_
      refine WQ.then_ret ?_
      exact WQ.ret (rs := [.tmp 4]) rfl (.tmp rfl .nil) (fun w hS => ⟨by first | rfl | simp [tup], hS.sublist (List.nil_sublist _)⟩)
    · skip
      obtain ⟨hsz, hlv, hsn⟩ := Fm.great_no g12
      obtain ⟨hsz2, hlv2, hsn2⟩ := Fm.great_no h15
      have hul := used_len (Fm.rowT t) []
      have hul2 : (usedF (Fm.rowT t)).length ≤ 1200 := by unfold usedF; simp at hul; omega
      refine WC.skip ?_
      refine WQ.then_normal ?_
      refine WC.seq ?_
      refine WC.region ?_
      refine WL.step ?_
      refine WL.loadW F.agg25 rfl rfl (by repeat (first | exact List.Mem.head _ | apply List.Mem.tail)) rfl ?_
      refine WL.step ?_
      refine WL.callV F.fun35 rfl rfl (fun w hS => Size_c 1200 (by decide) t wb G a c w hsz hr ((Ext.refl wb).st hS)) ?_
      refine WL.step ?_
      refine WL.move rfl rfl ?_
      refine WL.step ?_
      refine WL.extract rfl rfl rfl ?_
      refine WL.step ?_
      refine WL.extract rfl rfl rfl ?_
      refine WL.step ?_
      refine WL.assign rfl rfl ?_
      refine WL.step ?_
      refine WL.assign rfl rfl ?_
      refine WL.nil ?_
      refine WQ.then_normal ?_
      refine WC.seq ?_
      refine WC.cutPE (α := (Option Addr × Nat) × (Option Addr × Nat)) (fun x => [(2, pp b2), (3, pp b3), (5, .int .i64 ((Fm.rowT t).length : Int)), (6, .int .i64 (Fm.levT t : Int)), (7, .slice x.1.1 (usedF (Fm.rowT t)).length x.1.2), (8, .slice x.2.1 (usedF (Fm.rowT t)).length x.2.2)]) (fun x => [rowc (.slice x.1.1 (usedF (Fm.rowT t)).length x.1.2) (usedF (Fm.rowT t)).length 9 1 (strs (usedF (Fm.rowT t))), rowc (.slice x.2.1 (usedF (Fm.rowT t)).length x.2.2) (usedF (Fm.rowT t)).length 9 1 (strs (usedF (Fm.rowT t))), pt b2 [Value.int .u8 t.op, .string (str t.name), .slice a t.kids.length c] 25, pt b3 [Value.int .u8 u.op, .string (str u.name), .slice a2 u.kids.length c2] 25]) (fun c a d v w h => by cases d <;> exact h) (fun Q' hP hQ => ?_) (fun xE => ?_)
      · skip
        refine WC.drawsL (by kernel_rfl) (FactsOk.cons (ds := [1, 3]) (LoadOk.whole (t := 2) rfl (by repeat (first | exact List.Mem.head _ | apply List.Mem.tail))) (FactsOk.cons (ds := [3]) (LoadOk.whole (t := 2) rfl (by repeat (first | exact List.Mem.head _ | apply List.Mem.tail))) (FactsOk.nil))) ?_
        refine WD.take (i := 0) rfl rfl rfl rfl (by decide +kernel) (by decide +kernel) (by decide +kernel) (fun _ _ _ h => hP _ _ _ _ _ h) (by kernel_rfl) (need_at2 0 rfl (by decide +kernel)) (Yl.loadN F.agg25 rfl rfl) ?_
        refine WD.take (i := 2) rfl rfl rfl rfl (by decide +kernel) (by decide +kernel) (by decide +kernel) (fun _ _ _ h => hP _ _ _ _ _ h) (by kernel_rfl) (need_at2 1 rfl (by decide +kernel)) (Yl.loadN F.agg25 rfl rfl) ?_
        refine WD.one (i := 1) (by decide +kernel) rfl ?_
        refine WL.callC (β := Option Addr × Nat) (res := fun y => .slice y.1 (usedF (Fm.rowT t)).length y.2) (cs := fun y => [rowc (.slice y.1 (usedF (Fm.rowT t)).length y.2) (usedF (Fm.rowT t)).length 9 1 (strs (usedF (Fm.rowT t)))]) (Cs := []) (O' := []) F.fun36 (fun d h => by cases h; rfl) rfl (List.Perm.refl _) (by simp) (by simp) (fun w hS _ => Names_c t G a c w (by omega) (((Ext.refl wb).st hS).tree hr)) (fun x23 => ?_)
        refine WD.on (closed_of (by decide +kernel)) (fun w hS => Sx.gone rfl (Sx.keep ((fun j v hv => by rw [Nat.zero_add]; exact hS.cell (by repeat (first | exact List.Mem.head _ | apply List.Mem.tail)) hv)) (Sx.none))) ?_
        refine WD.one (i := 3) (by decide +kernel) rfl ?_
        refine WL.callC (β := Option Addr × Nat) (res := fun y => .slice y.1 (usedF (Fm.rowT t)).length y.2) (cs := fun y => [rowc (.slice y.1 (usedF (Fm.rowT t)).length y.2) (usedF (Fm.rowT t)).length 9 1 (strs (usedF (Fm.rowT t)))]) (Cs := []) (O' := []) F.fun37 (fun d h => by cases h; rfl) rfl (List.Perm.refl _) (by simp) (by simp) (fun w hS _ => Used_c t wb G a c w (by omega) hr ((Ext.refl wb).st hS)) (fun x25 => ?_)
        refine WD.on (closed_of (by decide +kernel)) (fun w hS => Sx.gone rfl (Sx.gone rfl (Sx.none))) ?_
        refine WD.take (i := 4) rfl rfl rfl rfl (by decide +kernel) (by decide +kernel) (by decide +kernel) (fun _ _ _ h => hP _ _ _ _ _ h) (by kernel_rfl) need_none (Yl.assign rfl) ?_
        refine WD.take (i := 5) rfl rfl rfl rfl (by decide +kernel) (by decide +kernel) (by decide +kernel) (fun _ _ _ h => hP _ _ _ _ _ h) (by kernel_rfl) need_none (Yl.assign rfl) ?_
        refine WD.done (by decide +kernel) ?_
        refine WQ.chunks (C' := [rowc (.slice x23.1 (usedF (Fm.rowT t)).length x23.2) (usedF (Fm.rowT t)).length 9 1 (strs (usedF (Fm.rowT t))), rowc (.slice x25.1 (usedF (Fm.rowT t)).length x25.2) (usedF (Fm.rowT t)).length 9 1 (strs (usedF (Fm.rowT t))), pt b2 [Value.int .u8 t.op, .string (str t.name), .slice a t.kids.length c] 25, pt b3 [Value.int .u8 u.op, .string (str u.name), .slice a2 u.kids.length c2] 25]) (fun w hS => ((St.pick (St.pick (St.pick (St.pick hS (c := pt b3 [Value.int .u8 u.op, .string (str u.name), .slice a2 u.kids.length c2] 25) (by repeat (first | exact Rem.here | apply Rem.there))) (c := pt b2 [Value.int .u8 t.op, .string (str t.name), .slice a t.kids.length c] 25) (by repeat (first | exact Rem.here | apply Rem.there))) (c := rowc (.slice x25.1 (usedF (Fm.rowT t)).length x25.2) (usedF (Fm.rowT t)).length 9 1 (strs (usedF (Fm.rowT t)))) (by repeat (first | exact Rem.here | apply Rem.there))) (c := rowc (.slice x23.1 (usedF (Fm.rowT t)).length x23.2) (usedF (Fm.rowT t)).length 9 1 (strs (usedF (Fm.rowT t)))) (by repeat (first | exact Rem.here | apply Rem.there)))).sublist (List.Sublist.cons_cons _ (List.Sublist.cons_cons _ (List.Sublist.cons_cons _ (List.Sublist.cons_cons _ (List.nil_sublist _)))))) ?_
        exact WQ.byCut (hQ (x23, x25)) ⟨rfl, rfl, rfl, rfl, rfl, rfl, trivial⟩
      obtain ⟨x23, x25⟩ := xE
      show WQ _ _ _ _ _ _ [(2, pp b2), (3, pp b3), (5, .int .i64 ((Fm.rowT t).length : Int)), (6, .int .i64 (Fm.levT t : Int)), (7, .slice x23.1 (usedF (Fm.rowT t)).length x23.2), (8, .slice x25.1 (usedF (Fm.rowT t)).length x25.2)] [rowc (.slice x23.1 (usedF (Fm.rowT t)).length x23.2) (usedF (Fm.rowT t)).length 9 1 (strs (usedF (Fm.rowT t))), rowc (.slice x25.1 (usedF (Fm.rowT t)).length x25.2) (usedF (Fm.rowT t)).length 9 1 (strs (usedF (Fm.rowT t))), pt b2 [Value.int .u8 t.op, .string (str t.name), .slice a t.kids.length c] 25, pt b3 [Value.int .u8 u.op, .string (str u.name), .slice a2 u.kids.length c2] 25]
      refine WQ.then_normal ?_
      refine WC.seq ?_
      refine WC.seq ?_
      refine WC.region ?_
      refine WL.step ?_
      refine WL.move rfl rfl ?_
      refine WL.step ?_
      refine WL.lenSl F.und61 rfl rfl ?_
      refine WL.step ?_
      refine WL.move rfl rfl ?_
      refine WL.step ?_
      refine WL.lenSl F.und61 rfl rfl ?_
      refine WL.step ?_
      refine WL.neI rfl rfl rfl ?_
      refine WL.nil ?_
      refine WQ.then_normal ?_
      refine WC.cond rfl (fun h30 => ?_) (fun h30 => ?_)
      · skip
        simp at h30
      · skip
        refine WC.skip ?_
        refine WQ.then_normal ?_
        refine WC.seq ?_
        refine WC.seq ?_
        refine WC.region ?_
        refine WL.step ?_
        refine WL.assign rfl rfl ?_
        refine WL.nil ?_
        refine WQ.then_normal ?_
        refine WC.block ?_
        refine WC.chunks (C' := [rowc (.slice x23.1 (usedF (Fm.rowT t)).length x23.2) (usedF (Fm.rowT t)).length 9 1 (strs (usedF (Fm.rowT t))), rowc (.slice x25.1 (usedF (Fm.rowT t)).length x25.2) (usedF (Fm.rowT t)).length 9 1 (strs (usedF (Fm.rowT t))), pt b2 [Value.int .u8 t.op, .string (str t.name), .slice a t.kids.length c] 25, pt b3 [Value.int .u8 u.op, .string (str u.name), .slice a2 u.kids.length c2] 25]) (fun w hS => ((St.pick (St.pick (St.pick (St.pick hS (c := pt b3 [Value.int .u8 u.op, .string (str u.name), .slice a2 u.kids.length c2] 25) (by repeat (first | exact Rem.here | apply Rem.there))) (c := pt b2 [Value.int .u8 t.op, .string (str t.name), .slice a t.kids.length c] 25) (by repeat (first | exact Rem.here | apply Rem.there))) (c := rowc (.slice x25.1 (usedF (Fm.rowT t)).length x25.2) (usedF (Fm.rowT t)).length 9 1 (strs (usedF (Fm.rowT t)))) (by repeat (first | exact Rem.here | apply Rem.there))) (c := rowc (.slice x23.1 (usedF (Fm.rowT t)).length x23.2) (usedF (Fm.rowT t)).length 9 1 (strs (usedF (Fm.rowT t)))) (by repeat (first | exact Rem.here | apply Rem.there)))).sublist (List.Sublist.cons_cons _ (List.Sublist.cons_cons _ (List.Sublist.cons_cons _ (List.Sublist.cons_cons _ (List.nil_sublist _)))))) ?_
        refine WC.loop (α := Nat) (fun i => i ≤ (usedF (Fm.rowT t)).length) (fun i => [(2, pp b2), (3, pp b3), (5, .int .i64 ((Fm.rowT t).length : Int)), (6, .int .i64 (Fm.levT t : Int)), (7, .slice x23.1 (usedF (Fm.rowT t)).length x23.2), (8, .slice x25.1 (usedF (Fm.rowT t)).length x25.2), (9, .int .i64 (i : Int))]) (fun _ => [rowc (.slice x23.1 (usedF (Fm.rowT t)).length x23.2) (usedF (Fm.rowT t)).length 9 1 (strs (usedF (Fm.rowT t))), rowc (.slice x25.1 (usedF (Fm.rowT t)).length x25.2) (usedF (Fm.rowT t)).length 9 1 (strs (usedF (Fm.rowT t))), pt b2 [Value.int .u8 t.op, .string (str t.name), .slice a t.kids.length c] 25, pt b3 [Value.int .u8 u.op, .string (str u.name), .slice a2 u.kids.length c2] 25]) (fun i => (usedF (Fm.rowT t)).length - i) (0) ?_ ?_ ?_ ?_
        · exact Nat.zero_le _
        · exact ⟨rfl, rfl, rfl, rfl, rfl, rfl, rfl, trivial⟩
        · rfl
        rintro i hi
        refine WC.seq ?_
        refine WC.seq ?_
        refine WC.region ?_
        refine WL.step ?_
        refine WL.move rfl rfl ?_
        refine WL.step ?_
        refine WL.move rfl rfl ?_
        refine WL.step ?_
        refine WL.lenSl F.und61 rfl rfl ?_
        refine WL.step ?_
        refine WL.ltI rfl rfl rfl ?_
        refine WL.nil ?_
        refine WQ.then_normal ?_
        refine WC.cond rfl (fun h34 => ?_) (fun h34 => ?_)
        · skip
          have hlt : i < (usedF (Fm.rowT t)).length := by simpa using h34
          obtain ⟨s, hs⟩ : ∃ y, (usedF (Fm.rowT t))[i]? = some y := ⟨_, List.getElem?_eq_getElem hlt⟩
          refine WC.know (φ := RdS wb [] none ∧ ∃ g, x23.1 = some ⟨g, 0, none⟩ ∧ (usedF (Fm.rowT t)).length = (usedF (Fm.rowT t)).length ∧ (usedF (Fm.rowT t)).length ≤ x23.2) (fun w hS => ⟨fun j x hx => by simp at hx, rowc_addr (hS.ok (rowc (.slice x23.1 (usedF (Fm.rowT t)).length x23.2) (usedF (Fm.rowT t)).length 9 1 (strs (usedF (Fm.rowT t)))) (by repeat (first | exact List.Mem.head _ | apply List.Mem.tail))) (by omega)⟩) (fun ⟨_, g, hg, _, _⟩ => ?_)
          refine WC.know (φ := ∃ g, x25.1 = some ⟨g, 0, none⟩ ∧ (usedF (Fm.rowT t)).length = (usedF (Fm.rowT t)).length ∧ (usedF (Fm.rowT t)).length ≤ x25.2) (fun w hS => rowc_addr (hS.ok (rowc (.slice x25.1 (usedF (Fm.rowT t)).length x25.2) (usedF (Fm.rowT t)).length 9 1 (strs (usedF (Fm.rowT t)))) (by repeat (first | exact List.Mem.head _ | apply List.Mem.tail))) (by omega)) (fun ⟨e, he, _, _⟩ => ?_)
          obtain ⟨xa, xc⟩ := x23
          obtain ⟨ya, yc⟩ := x25
          simp only at hg he
          subst hg; subst he
          refine WC.skip ?_
          refine WQ.then_normal ?_
          refine WC.seq ?_
          refine WC.block ?_
          refine WC.seq ?_
          refine WC.drawsL (by kernel_rfl) (FactsOk.cons (ds := []) (LoadOk.by (Y := fun w => w.cell? ⟨g, 0 + i * 1, none⟩ = some (.string (str s))) (fun w hS => by rw [Nat.zero_add, Nat.mul_one]; exact rowc_cell (hS.ok (rowc (.slice (some ⟨g, 0, none⟩) (usedF (Fm.rowT t)).length xc) (usedF (Fm.rowT t)).length 9 1 (strs (usedF (Fm.rowT t)))) (by repeat (first | exact List.Mem.head _ | apply List.Mem.tail))) (by simp [strs, hs]))) (FactsOk.cons (ds := []) (LoadOk.by (Y := fun w => w.cell? ⟨e, 0 + i * 1, none⟩ = some (.string (str s))) (fun w hS => by rw [Nat.zero_add, Nat.mul_one]; exact rowc_cell (hS.ok (rowc (.slice (some ⟨e, 0, none⟩) (usedF (Fm.rowT t)).length yc) (usedF (Fm.rowT t)).length 9 1 (strs (usedF (Fm.rowT t)))) (by repeat (first | exact List.Mem.head _ | apply List.Mem.tail))) (by simp [strs, hs]))) (FactsOk.nil))) ?_
          refine WD.take (i := 0) rfl rfl rfl rfl (by decide +kernel) (by decide +kernel) (by decide +kernel) (fun _ _ _ h => h) (by kernel_rfl) need_none (Yl.move rfl) ?_
          refine WD.take (i := 1) rfl rfl rfl rfl (by decide +kernel) (by decide +kernel) (by decide +kernel) (fun _ _ _ h => h) (by kernel_rfl) need_none (Yl.move rfl) ?_
          refine WD.take (i := 2) rfl rfl rfl rfl (by decide +kernel) (by decide +kernel) (by decide +kernel) (fun _ _ _ h => h) (by kernel_rfl) need_none (Yl.indexAddr F.sl61 rfl rfl hlt) ?_
          refine WD.take (i := 3) rfl rfl rfl rfl (by decide +kernel) (by decide +kernel) (by decide +kernel) (fun _ _ _ h => h) (by kernel_rfl) (need_at2 0 rfl (by decide +kernel)) (Yl.load1 F.one9 rfl) ?_
          refine WD.take (i := 4) rfl rfl rfl rfl (by decide +kernel) (by decide +kernel) (by decide +kernel) (fun _ _ _ h => h) (by kernel_rfl) need_none (Yl.move rfl) ?_
          refine WD.take (i := 5) rfl rfl rfl rfl (by decide +kernel) (by decide +kernel) (by decide +kernel) (fun _ _ _ h => h) (by kernel_rfl) need_none (Yl.move rfl) ?_
          refine WD.take (i := 6) rfl rfl rfl rfl (by decide +kernel) (by decide +kernel) (by decide +kernel) (fun _ _ _ h => h) (by kernel_rfl) need_none (Yl.indexAddr F.sl61 rfl rfl hlt) ?_
          refine WD.take (i := 7) rfl rfl rfl rfl (by decide +kernel) (by decide +kernel) (by decide +kernel) (fun _ _ _ h => h) (by kernel_rfl) (need_at2 1 rfl (by decide +kernel)) (Yl.load1 F.one9 rfl) ?_
          refine WD.take (i := 8) rfl rfl rfl rfl (by decide +kernel) (by decide +kernel) (by decide +kernel) (fun _ _ _ h => h) (by kernel_rfl) need_none (Yl.neS rfl rfl) ?_
          refine WD.done (by decide +kernel) ?_
          refine WQ.then_normal ?_
          refine WC.cond rfl (fun h45 => ?_) (fun h45 => ?_)
          · skip
            simp at h45
          · skip
            refine WC.skip ?_
            refine WQ.block_normal ?_
            refine WQ.then_normal ?_
            refine WC.region ?_
            refine WL.step ?_
            refine WL.move rfl rfl ?_
            refine WL.step ?_
            refine WL.add rfl rfl rfl ⟨by omega, by omega⟩ ?_
            refine WL.step ?_
            refine WL.assign rfl rfl ?_
            refine WL.nil ?_
            refine WQ.back (i + 1) ?_ ?_ ?_ ?_
            · exact (by omega)
            · omega
            · exact ⟨rfl, rfl, rfl, rfl, rfl, rfl, rfl, trivial⟩
            · rfl
        · skip
          refine WC.exit ?_
          refine WQ.then_exit ?_
          refine WQ.then_exit ?_
          refine WQ.block_exit ?_
          refine WQ.then_normal ?_
          refine WC.seq ?_
          refine WC.drawsL (by kernel_rfl) (FactsOk.cons (ds := [1, 3, 8, 15, 21, 24, 30, 31, 34]) (LoadOk.whole (t := 2) rfl (by repeat (first | exact List.Mem.head _ | apply List.Mem.tail))) (FactsOk.cons (ds := [3, 8, 15, 21, 24, 30, 31, 34]) (LoadOk.whole (t := 2) rfl (by repeat (first | exact List.Mem.head _ | apply List.Mem.tail))) (FactsOk.cons (ds := [8, 15, 21, 24, 30, 31, 34]) (LoadOk.whole (t := 2) rfl (by repeat (first | exact List.Mem.head _ | apply List.Mem.tail))) (FactsOk.cons (ds := [15, 21, 24, 30, 31, 34]) (LoadOk.whole (t := 2) rfl (by repeat (first | exact List.Mem.head _ | apply List.Mem.tail))) (FactsOk.cons (ds := [21, 24, 30, 31, 34]) (LoadOk.whole (t := 2) rfl (by repeat (first | exact List.Mem.head _ | apply List.Mem.tail))) (FactsOk.cons (ds := [21, 24, 30, 31, 34]) (LoadOk.whole (t := 3) rfl (by repeat (first | exact List.Mem.head _ | apply List.Mem.tail))) (FactsOk.cons (ds := [24, 30, 31, 34]) (LoadOk.whole (t := 2) rfl (by repeat (first | exact List.Mem.head _ | apply List.Mem.tail))) (FactsOk.cons (ds := [24, 30, 31, 34]) (LoadOk.whole (t := 3) rfl (by repeat (first | exact List.Mem.head _ | apply List.Mem.tail))) (FactsOk.cons (ds := [31, 34]) (LoadOk.whole (t := 2) rfl (by repeat (first | exact List.Mem.head _ | apply List.Mem.tail))) (FactsOk.cons (ds := [30, 31, 34]) (LoadOk.whole (t := 2) rfl (by repeat (first | exact List.Mem.head _ | apply List.Mem.tail))) (FactsOk.nil))))))))))) ?_
          refine WD.take (i := 0) rfl rfl rfl rfl (by decide +kernel) (by decide +kernel) (by decide +kernel) (fun _ _ _ h => h) (by kernel_rfl) (need_at2 0 rfl (by decide +kernel)) (Yl.loadN F.agg25 rfl rfl) ?_
          refine WD.take (i := 2) rfl rfl rfl rfl (by decide +kernel) (by decide +kernel) (by decide +kernel) (fun _ _ _ h => h) (by kernel_rfl) (need_at2 1 rfl (by decide +kernel)) (Yl.loadN F.agg25 rfl rfl) ?_
          refine WD.one (i := 1) (by decide +kernel) rfl ?_
          refine WL.callV F.fun30 rfl rfl (fun w hS => Valid_c t G a c w (((Ext.refl wb).st hS).tree hr)) ?_
          refine WD.on (closed_of (by decide +kernel)) (fun w hS => Sx.gone rfl (Sx.keep ((fun j v hv => by rw [Nat.zero_add]; exact hS.cell (by repeat (first | exact List.Mem.head _ | apply List.Mem.tail)) hv)) (Sx.keep ((fun j v hv => by rw [Nat.zero_add]; exact hS.cell (by repeat (first | exact List.Mem.head _ | apply List.Mem.tail)) hv)) (Sx.keep ((fun j v hv => by rw [Nat.zero_add]; exact hS.cell (by repeat (first | exact List.Mem.head _ | apply List.Mem.tail)) hv)) (Sx.keep ((fun j v hv => by rw [Nat.zero_add]; exact hS.cell (by repeat (first | exact List.Mem.head _ | apply List.Mem.tail)) hv)) (Sx.keep ((fun j v hv => by rw [Nat.zero_add]; exact hS.cell (by repeat (first | exact List.Mem.head _ | apply List.Mem.tail)) hv)) (Sx.keep ((fun j v hv => by rw [Nat.zero_add]; exact hS.cell (by repeat (first | exact List.Mem.head _ | apply List.Mem.tail)) hv)) (Sx.keep ((fun j v hv => by rw [Nat.zero_add]; exact hS.cell (by repeat (first | exact List.Mem.head _ | apply List.Mem.tail)) hv)) (Sx.keep ((fun j v hv => by rw [Nat.zero_add]; exact hS.cell (by repeat (first | exact List.Mem.head _ | apply List.Mem.tail)) hv)) (Sx.keep ((fun j v hv => by rw [Nat.zero_add]; exact hS.cell (by repeat (first | exact List.Mem.head _ | apply List.Mem.tail)) hv)) (Sx.none))))))))))) ?_
          refine WD.one (i := 3) (by decide +kernel) rfl ?_
          refine WL.callV (v := .bool (Fm.validB t)) F.fun20 rfl rfl (fun w hS => by have h9 := rvalid_c t wb G a c w (by omega) hr ((Ext.refl wb).st hS); rw [Fm.refValid_eq] at h9; exact h9) ?_
          refine WD.on (closed_of (by decide +kernel)) (fun w hS => Sx.gone rfl (Sx.gone rfl (Sx.keep ((fun j v hv => by rw [Nat.zero_add]; exact hS.cell (by repeat (first | exact List.Mem.head _ | apply List.Mem.tail)) hv)) (Sx.keep ((fun j v hv => by rw [Nat.zero_add]; exact hS.cell (by repeat (first | exact List.Mem.head _ | apply List.Mem.tail)) hv)) (Sx.keep ((fun j v hv => by rw [Nat.zero_add]; exact hS.cell (by repeat (first | exact List.Mem.head _ | apply List.Mem.tail)) hv)) (Sx.keep ((fun j v hv => by rw [Nat.zero_add]; exact hS.cell (by repeat (first | exact List.Mem.head _ | apply List.Mem.tail)) hv)) (Sx.keep ((fun j v hv => by rw [Nat.zero_add]; exact hS.cell (by repeat (first | exact List.Mem.head _ | apply List.Mem.tail)) hv)) (Sx.keep ((fun j v hv => by rw [Nat.zero_add]; exact hS.cell (by repeat (first | exact List.Mem.head _ | apply List.Mem.tail)) hv)) (Sx.keep ((fun j v hv => by rw [Nat.zero_add]; exact hS.cell (by repeat (first | exact List.Mem.head _ | apply List.Mem.tail)) hv)) (Sx.keep ((fun j v hv => by rw [Nat.zero_add]; exact hS.cell (by repeat (first | exact List.Mem.head _ | apply List.Mem.tail)) hv)) (Sx.none))))))))))) ?_
          refine WD.take (i := 4) rfl rfl rfl rfl (by decide +kernel) (by decide +kernel) (by decide +kernel) (fun _ _ _ h => h) (by kernel_rfl) need_none (Yl.bin (v := .bool (Fm.validB t == Fm.validB t)) rfl rfl (fun w => run_eqB _ _ w)) ?_
          refine WD.take (i := 5) rfl rfl rfl rfl (by decide +kernel) (by decide +kernel) (by decide +kernel) (fun _ _ _ h => h) (by kernel_rfl) need_none (Yl.move rfl) ?_
          refine fun hcl => WA.splitB (i := 51) rfl (fun g51 => ?_) (fun g51 => ?_)
          · skip
            refine (show WD _ _ _ _ _ _ _ _ _ _ _ _ from ?_) hcl
            refine WD.takeG (i := 6) rfl rfl rfl rfl rfl rfl (by decide +kernel) (by decide +kernel) (by decide +kernel) (fun _ _ _ h => h) (by kernel_rfl) need_none (Yl.move rfl) ?_
            refine WD.takeG (i := 7) rfl rfl rfl rfl rfl rfl (by decide +kernel) (by decide +kernel) (by decide +kernel) (fun _ _ _ h => h) (by kernel_rfl) (need_at2 2 rfl (by decide +kernel)) (Yl.loadN F.agg25 rfl rfl) ?_
            refine WD.one (i := 8) (by decide +kernel) rfl ?_
            refine WL.guardT rfl rfl rfl ?_
            refine WL.callC (β := { y : Option Addr × Nat × List Value // NodesOk wb (Fm.rowT t) y.2.2 }) (res := fun x => .slice x.1.1 (Fm.rowT t).length x.1.2.1) (cs := fun x => [rowc (.slice x.1.1 (Fm.rowT t).length x.1.2.1) (Fm.rowT t).length 25 3 (flat x.1.2.2)]) (Cs := []) (O' := []) F.fun38 (fun d h => by cases h; rfl) rfl (List.Perm.refl _) (by simp) (by simp) (fun w hS _ => Row_c 1200 (by decide) t wb G a c w hsz hr ((Ext.refl wb).st hS)) (fun y54 => ?_)
            refine WD.on (closed_of (by decide +kernel)) (fun w hS => Sx.gone rfl (Sx.gone rfl (Sx.gone rfl (Sx.keep ((fun j v hv => by rw [Nat.zero_add]; exact hS.cell (by repeat (first | exact List.Mem.head _ | apply List.Mem.tail)) hv)) (Sx.keep ((fun j v hv => by rw [Nat.zero_add]; exact hS.cell (by repeat (first | exact List.Mem.head _ | apply List.Mem.tail)) hv)) (Sx.keep ((fun j v hv => by rw [Nat.zero_add]; exact hS.cell (by repeat (first | exact List.Mem.head _ | apply List.Mem.tail)) hv)) (Sx.keep ((fun j v hv => by rw [Nat.zero_add]; exact hS.cell (by repeat (first | exact List.Mem.head _ | apply List.Mem.tail)) hv)) (Sx.keep ((fun j v hv => by rw [Nat.zero_add]; exact hS.cell (by repeat (first | exact List.Mem.head _ | apply List.Mem.tail)) hv)) (Sx.keep ((fun j v hv => by rw [Nat.zero_add]; exact hS.cell (by repeat (first | exact List.Mem.head _ | apply List.Mem.tail)) hv)) (Sx.keep ((fun j v hv => by rw [Nat.zero_add]; exact hS.cell (by repeat (first | exact List.Mem.head _ | apply List.Mem.tail)) hv)) (Sx.none))))))))))) ?_
            refine WD.takeG (i := 9) rfl rfl rfl rfl rfl rfl (by decide +kernel) (by decide +kernel) (by decide +kernel) (fun _ _ _ h => h) (by kernel_rfl) need_none (Yl.lenSl F.und23 rfl) ?_
            refine WD.takeG (i := 10) rfl rfl rfl rfl rfl rfl (by decide +kernel) (by decide +kernel) (by decide +kernel) (fun _ _ _ h => h) (by kernel_rfl) need_none (Yl.eqI rfl rfl) ?_
            refine WD.take (i := 11) rfl rfl rfl rfl (by decide +kernel) (by decide +kernel) (by decide +kernel) (fun _ _ _ h => h) (by kernel_rfl) need_none (Yl.pickT rfl rfl) ?_
            refine WD.take (i := 12) rfl rfl rfl rfl (by decide +kernel) (by decide +kernel) (by decide +kernel) (fun _ _ _ h => h) (by kernel_rfl) need_none (Yl.move rfl) ?_
            refine fun hcl => WA.splitB (i := 58) rfl (fun g58 => ?_) (fun g58 => ?_)
            · skip
              refine (show WD _ _ _ _ _ _ _ _ _ _ _ _ from ?_) hcl
              refine WD.takeG (i := 13) rfl rfl rfl rfl rfl rfl (by decide +kernel) (by decide +kernel) (by decide +kernel) (fun _ _ _ h => h) (by kernel_rfl) need_none (Yl.move rfl) ?_
              refine WD.takeG (i := 14) rfl rfl rfl rfl rfl rfl (by decide +kernel) (by decide +kernel) (by decide +kernel) (fun _ _ _ h => h) (by kernel_rfl) (need_at2 3 rfl (by decide +kernel)) (Yl.loadN F.agg25 rfl rfl) ?_
              refine WD.one (i := 15) (by decide +kernel) rfl ?_
              refine WL.guardT rfl rfl rfl ?_
              refine WL.callV F.fun39 rfl rfl (fun w hS => Lev_c 1200 (by decide) t wb G a c w hsz hr ((Ext.refl wb).st hS)) ?_
              refine WD.on (closed_of (by decide +kernel)) (fun w hS => Sx.gone rfl (Sx.gone rfl (Sx.gone rfl (Sx.gone rfl (Sx.keep ((fun j v hv => by rw [Nat.zero_add]; exact hS.cell (by repeat (first | exact List.Mem.head _ | apply List.Mem.tail)) hv)) (Sx.keep ((fun j v hv => by rw [Nat.zero_add]; exact hS.cell (by repeat (first | exact List.Mem.head _ | apply List.Mem.tail)) hv)) (Sx.keep ((fun j v hv => by rw [Nat.zero_add]; exact hS.cell (by repeat (first | exact List.Mem.head _ | apply List.Mem.tail)) hv)) (Sx.keep ((fun j v hv => by rw [Nat.zero_add]; exact hS.cell (by repeat (first | exact List.Mem.head _ | apply List.Mem.tail)) hv)) (Sx.keep ((fun j v hv => by rw [Nat.zero_add]; exact hS.cell (by repeat (first | exact List.Mem.head _ | apply List.Mem.tail)) hv)) (Sx.keep ((fun j v hv => by rw [Nat.zero_add]; exact hS.cell (by repeat (first | exact List.Mem.head _ | apply List.Mem.tail)) hv)) (Sx.none))))))))))) ?_
              refine WD.takeG (i := 16) rfl rfl rfl rfl rfl rfl (by decide +kernel) (by decide +kernel) (by decide +kernel) (fun _ _ _ h => h) (by kernel_rfl) need_none (Yl.eqI rfl rfl) ?_
              refine WD.take (i := 17) rfl rfl rfl rfl (by decide +kernel) (by decide +kernel) (by decide +kernel) (fun _ _ _ h => h) (by kernel_rfl) need_none (Yl.pickT rfl rfl) ?_
              refine WD.take (i := 18) rfl rfl rfl rfl (by decide +kernel) (by decide +kernel) (by decide +kernel) (fun _ _ _ h => h) (by kernel_rfl) need_none (Yl.move rfl) ?_
              refine fun hcl => WA.splitB (i := 64) rfl (fun g64 => ?_) (fun g64 => ?_)
              · skip
                refine (show WD _ _ _ _ _ _ _ _ _ _ _ _ from ?_) hcl
                refine WD.takeG (i := 19) rfl rfl rfl rfl rfl rfl (by decide +kernel) (by decide +kernel) (by decide +kernel) (fun _ _ _ h => h) (by kernel_rfl) (need_at2 4 rfl (by decide +kernel)) (Yl.loadN F.agg25 rfl rfl) ?_
                refine WD.takeG (i := 20) rfl rfl rfl rfl rfl rfl (by decide +kernel) (by decide +kernel) (by decide +kernel) (fun _ _ _ h => h) (by kernel_rfl) (need_at2 5 rfl (by decide +kernel)) (Yl.loadN F.agg25 rfl rfl) ?_
                refine WD.takeG (i := 22) rfl rfl rfl rfl rfl rfl (by decide +kernel) (by decide +kernel) (by decide +kernel) (fun _ _ _ h => h) (by kernel_rfl) (need_at2 6 rfl (by decide +kernel)) (Yl.loadN F.agg25 rfl rfl) ?_
                refine WD.takeG (i := 23) rfl rfl rfl rfl rfl rfl (by decide +kernel) (by decide +kernel) (by decide +kernel) (fun _ _ _ h => h) (by kernel_rfl) (need_at2 7 rfl (by decide +kernel)) (Yl.loadN F.agg25 rfl rfl) ?_
                refine WD.one (i := 21) (by decide +kernel) rfl ?_
                refine WL.guardT rfl rfl rfl ?_
                refine WL.callV F.fun29 rfl rfl (fun w hS => Same_c 1200 (by decide) t u wb G H a a2 c c2 w hsz hr hr2 ((Ext.refl wb).st hS)) ?_
                refine WD.on (closed_of (by decide +kernel)) (fun w hS => Sx.gone rfl (Sx.gone rfl (Sx.gone rfl (Sx.gone rfl (Sx.gone rfl (Sx.gone rfl (Sx.keep ((fun j v hv => by rw [Nat.zero_add]; exact hS.cell (by repeat (first | exact List.Mem.head _ | apply List.Mem.tail)) hv)) (Sx.keep ((fun j v hv => by rw [Nat.zero_add]; exact hS.cell (by repeat (first | exact List.Mem.head _ | apply List.Mem.tail)) hv)) (Sx.keep ((fun j v hv => by rw [Nat.zero_add]; exact hS.cell (by repeat (first | exact List.Mem.head _ | apply List.Mem.tail)) hv)) (Sx.keep ((fun j v hv => by rw [Nat.zero_add]; exact hS.cell (by repeat (first | exact List.Mem.head _ | apply List.Mem.tail)) hv)) (Sx.none))))))))))) ?_
                refine WD.one (i := 24) (by decide +kernel) rfl ?_
                refine WL.guardT rfl rfl rfl ?_
                refine WL.callV F.fun16 rfl rfl (fun w hS => rSame_c 1200 (by decide) t u wb G H a a2 c c2 w hsz hr hr2 ((Ext.refl wb).st hS)) ?_
                refine WD.on (closed_of (by decide +kernel)) (fun w hS => Sx.gone rfl (Sx.gone rfl (Sx.gone rfl (Sx.gone rfl (Sx.gone rfl (Sx.gone rfl (Sx.gone rfl (Sx.gone rfl (Sx.keep ((fun j v hv => by rw [Nat.zero_add]; exact hS.cell (by repeat (first | exact List.Mem.head _ | apply List.Mem.tail)) hv)) (Sx.keep ((fun j v hv => by rw [Nat.zero_add]; exact hS.cell (by repeat (first | exact List.Mem.head _ | apply List.Mem.tail)) hv)) (Sx.none))))))))))) ?_
                refine WD.takeG (i := 25) rfl rfl rfl rfl rfl rfl (by decide +kernel) (by decide +kernel) (by decide +kernel) (fun _ _ _ h => h) (by kernel_rfl) need_none (Yl.bin (v := .bool (Fm.sameT t u == Fm.sameT t u)) rfl rfl (fun w => run_eqB _ _ w)) ?_
                refine WD.take (i := 26) rfl rfl rfl rfl (by decide +kernel) (by decide +kernel) (by decide +kernel) (fun _ _ _ h => h) (by kernel_rfl) need_none (Yl.pickT rfl rfl) ?_
                refine WD.take (i := 27) rfl rfl rfl rfl (by decide +kernel) (by decide +kernel) (by decide +kernel) (fun _ _ _ h => h) (by kernel_rfl) need_none (Yl.move rfl) ?_
                refine fun hcl => WA.splitB (i := 73) rfl (fun g73 => ?_) (fun g73 => ?_)
                · skip
                  refine (show WD _ _ _ _ _ _ _ _ _ _ _ _ from ?_) hcl
                  refine WD.takeG (i := 28) rfl rfl rfl rfl rfl rfl (by decide +kernel) (by decide +kernel) (by decide +kernel) (fun _ _ _ h => h) (by kernel_rfl) (need_at2 8 rfl (by decide +kernel)) (Yl.loadN F.agg25 rfl rfl) ?_
                  refine WD.takeG (i := 29) rfl rfl rfl rfl rfl rfl (by decide +kernel) (by decide +kernel) (by decide +kernel) (fun _ _ _ h => h) (by kernel_rfl) (need_at2 9 rfl (by decide +kernel)) (Yl.loadN F.agg25 rfl rfl) ?_
                  refine WD.one (i := 30) (by decide +kernel) rfl ?_
                  refine WL.guardT rfl rfl rfl ?_
                  refine WL.callC (β := List Nat × Option Addr × Nat) (res := fun y => tv t y.2.1 y.2.2) (cs := fun y => [own y.1 t (tv t y.2.1 y.2.2)]) (Cs := []) (O' := []) F.fun18 (fun d h => by cases h; rfl) rfl (List.Perm.refl _) (by simp) (by simp) (fun w hS _ => Copied_c 1200 (by omega) t wb G a c w (by omega) hr ((Ext.refl wb).st hS)) (fun y76 => ?_)
                  refine WD.on (closed_of (by decide +kernel)) (fun w hS => Sx.gone rfl (Sx.gone rfl (Sx.gone rfl (Sx.gone rfl (Sx.gone rfl (Sx.gone rfl (Sx.gone rfl (Sx.gone rfl (Sx.keep ((fun j v hv => by rw [Nat.zero_add]; exact hS.cell (by repeat (first | exact List.Mem.head _ | apply List.Mem.tail)) hv)) (Sx.gone rfl (Sx.none))))))))))) ?_
                  refine WD.one (i := 31) (by decide +kernel) rfl ?_
                  refine WL.guardT rfl rfl rfl ?_
                  refine WL.callV (v := .bool true) F.fun29 rfl rfl (fun w hS => by have h9 := Same_c 1200 (by decide) t t w G y76.1 _ _ _ _ w hsz (((Ext.refl wb).st hS).tree hr) (hS.ok (own y76.1 t (tv t y76.2.1 y76.2.2)) (by repeat (first | exact List.Mem.head _ | apply List.Mem.tail))).2 (Ext.refl w); rw [Fm.sameT_refl] at h9; exact h9) ?_
                  refine WD.on (closed_of (by decide +kernel)) (fun w hS => Sx.gone rfl (Sx.gone rfl (Sx.gone rfl (Sx.gone rfl (Sx.gone rfl (Sx.gone rfl (Sx.gone rfl (Sx.gone rfl (Sx.gone rfl (Sx.gone rfl (Sx.none))))))))))) ?_
                  refine WD.take (i := 32) rfl rfl rfl rfl (by decide +kernel) (by decide +kernel) (by decide +kernel) (fun _ _ _ h => h) (by kernel_rfl) need_none (Yl.pickT rfl rfl) ?_
                  refine WD.take (i := 33) rfl rfl rfl rfl (by decide +kernel) (by decide +kernel) (by decide +kernel) (fun _ _ _ h => h) (by kernel_rfl) need_none (Yl.move rfl) ?_
                  refine fun hcl => WA.splitB (i := 79) rfl (fun g79 => ?_) (fun g79 => ?_)
                  · skip
                    refine (show WD _ _ _ _ _ _ _ _ _ _ _ _ from ?_) hcl
                    refine WD.one (i := 34) (by decide +kernel) rfl ?_
                    refine WL.guardT rfl rfl rfl ?_
                    refine WL.callV F.fun13 rfl rfl (fun w _ => wakes_c w) ?_
                    refine WD.on (closed_of (by decide +kernel)) (fun w hS => Sx.gone rfl (Sx.gone rfl (Sx.gone rfl (Sx.gone rfl (Sx.gone rfl (Sx.gone rfl (Sx.gone rfl (Sx.gone rfl (Sx.gone rfl (Sx.gone rfl (Sx.none))))))))))) ?_
                    refine WD.take (i := 35) rfl rfl rfl rfl (by decide +kernel) (by decide +kernel) (by decide +kernel) (fun _ _ _ h => h) (by kernel_rfl) need_none (Yl.pickT rfl rfl) ?_
                    refine WD.take (i := 36) rfl rfl rfl rfl (by decide +kernel) (by decide +kernel) (by decide +kernel) (fun _ _ _ h => h) (by kernel_rfl) need_none (Yl.assign rfl) ?_
                    refine WD.done (by decide +kernel) ?_
                    refine WQ.then_normal ?_
                    refine WC.ret ?_
                    exact WQ.ret (rs := [.tmp 4]) rfl (.tmp rfl .nil) (fun w hS => ⟨by first | rfl | simp [tup], hS.sublist (List.nil_sublist _)⟩)
                  · skip
                    refine (show WD _ _ _ _ _ _ _ _ _ _ _ _ from ?_) hcl
                    exact absurd g79 (by simp)
                · skip
                  refine (show WD _ _ _ _ _ _ _ _ _ _ _ _ from ?_) hcl
                  exact absurd g73 (by simp)
              · skip
                refine (show WD _ _ _ _ _ _ _ _ _ _ _ _ from ?_) hcl
                exact absurd g64 (by simp)
            · skip
              refine (show WD _ _ _ _ _ _ _ _ _ _ _ _ from ?_) hcl
              exact absurd g58 (by simp)
          · skip
            refine (show WD _ _ _ _ _ _ _ _ _ _ _ _ from ?_) hcl
            exact absurd g51 (by simp)

end Go.Proofs.Ytbippghgkbapnaa
