import Derived.Test.YtkgllhkhdjodeaaGreatEng9
import Derived.Lib.Builder
import Derived.Lib.UnsafeStr
import Derived.Lib.AppendStr
set_option linter.unusedSimpArgs false
set_option linter.unusedVariables false
namespace Go.Eng
open Go Go.RowKit Go.Lib
section
variable {P : Program} {w0 : World} {O : List Nat} {ops : Array Oper} {Q : Exit → Act → World → Prop} {N : Nat} {D : List Deferred} {L : FL} {C : List Chunk} {K : Act → World → Prop}
variable {d : Nat} {ty : TypeId} {pos : String} {af : Array Edge}

/-! ### some chunks go to a callee -/
theorem St.focus {w : World} {Cs C1 : List Chunk} {O' : List Nat} (h : St w0 O (Cs ++ C1) w) (hO : ∀ c ∈ Cs, ∀ k, c.fp k → k ∈ O') : St w O' Cs w :=
  ⟨rfl, rfl, rfl, Nat.le_refl _, fun _ _ _ => rfl, fun c hc => h.ok c (List.mem_append_left _ hc), fun c hc k hk => ⟨(h.bnd c (List.mem_append_left _ hc) k hk).1, fun _ => hO c hc k hk⟩, (List.pairwise_append.1 h.disj).1⟩
theorem St.callC {w w' : World} {Cs C1 cs : List Chunk} {O' : List Nat} (h : St w0 O (Cs ++ C1) w) (hc : St w O' cs w') (hO : ∀ k ∈ O', ∃ c ∈ Cs, c.fp k) : St w0 O (cs ++ C1) w' := by
  have h1 := List.pairwise_append.1 h.disj
  have h2 : St w0 O C1 w := h.sublist (List.sublist_append_right _ _)
  refine h2.call hc (fun k hk _ => ?_)
  obtain ⟨c, hc1, hc2⟩ := hO k hk
  exact ⟨fun x hx hk' => h1.2.2 c hc1 x hx k hc2 hk', fun hlt => (h.bnd c (List.mem_append_left _ hc1) k hc2).2 hlt⟩

theorem WL.callC {β : Type} {f : FuncId} {xs : List Operand} {tys : Array TypeId} {vs : List Value} {res : β → Value} {cs : β → List Chunk} {Cs C1 : List Chunk} {O' : List Nat}
    (hf : funB P f = some true) (hd : ∀ d', (some d : Option Nat) = some d' → Nat.blt d' N = true) (hx : evs L xs = some vs) (hp : C.Perm (Cs ++ C1)) (hO1 : ∀ c ∈ Cs, ∀ k, c.fp k → k ∈ O') (hO2 : ∀ k ∈ O', ∃ c ∈ Cs, c.fp k)
    (hc : ∀ w, St w0 O (Cs ++ C1) w → St w O' Cs w → Calls P f vs.toArray w fun e w' => ∃ x, e = .returned (res x) ∧ St w O' (cs x) w')
    (h : ∀ x, WA w0 O K N D ((d, res x) :: L) (cs x ++ C1)) :
    WK P w0 O ops Q ⟨some d, .call { callee := .value (.func f), args := xs.toArray, argTypes := tys }, ty, pos, af, none⟩ K N D L C := fun a w hF hS => by
  have ha : xs.toArray.map a.eval = vs.toArray := by apply Array.ext'; simp [hF.evs hx]
  have hS1 := hS.perm hp
  refine wpo_call (f := f) (args := vs.toArray) rfl ?_ ?_
  · simp [execOp, resolve, Deferred.ofValue, Act.eval, invoke, ha, run_callFunc hf]
  refine (hc w hS1 (hS1.focus hO1)).mono fun e w' ⟨x, he, hS'⟩ => ?_
  subst he
  exact h x _ w' (hF.put d _ (hd d rfl)) (hS1.callC hS' hO2)
/-- The same by a function value that the program made of a named function. -/
theorem WL.callFC {β : Type} {f : FuncId} {x : Operand} {xs : List Operand} {tys : Array TypeId} {vs us cap : List Value} {res : β → Value} {cs : β → List Chunk} {Cs C1 : List Chunk} {O' : List Nat}
    (hf : funB P f = some true) (hd : ∀ d', (some d : Option Nat) = some d' → Nat.blt d' N = true) (hfv : ev L x = some (.func (.func f) us.toArray cap.toArray)) (hx : evs L xs = some vs) (hp : C.Perm (Cs ++ C1)) (hO1 : ∀ c ∈ Cs, ∀ k, c.fp k → k ∈ O') (hO2 : ∀ k ∈ O', ∃ c ∈ Cs, c.fp k)
    (hc : ∀ w, St w0 O (Cs ++ C1) w → St w O' Cs w → Calls P f (us ++ vs ++ cap).toArray w fun e w' => ∃ x, e = .returned (res x) ∧ St w O' (cs x) w')
    (h : ∀ x, WA w0 O K N D ((d, res x) :: L) (cs x ++ C1)) :
    WK P w0 O ops Q ⟨some d, .call { callee := .value x, args := xs.toArray, argTypes := tys }, ty, pos, af, none⟩ K N D L C := fun a w hF hS => by
  have ha : xs.toArray.map a.eval = vs.toArray := by apply Array.ext'; simp [hF.evs hx]
  have hS1 := hS.perm hp
  refine wpo_call (f := f) (args := (us ++ vs ++ cap).toArray) rfl ?_ ?_
  · simp [execOp, resolve, Deferred.ofValue, hF.ev hfv, invoke, ha, run_callFunc hf]
  refine (hc w hS1 (hS1.focus hO1)).mono fun e w' ⟨x, he, hS'⟩ => ?_
  subst he
  exact h x _ w' (hF.put d _ (hd d rfl)) (hS1.callC hS' hO2)

/-- A callee without a body that hands back a value at once. -/
theorem WL.callE {f : FuncId} {xs : List Operand} {tys : Array TypeId} {vs : List Value} {v : Value} (hd : Nat.blt d N = true) (hx : evs L xs = some vs) (hr : ∀ w, (callFunc f vs.toArray).run P w = .ok (.value v) w)
    (h : WA w0 O K N D ((d, v) :: L) C) : WK P w0 O ops Q ⟨some d, .call { callee := .value (.func f), args := xs.toArray, argTypes := tys }, ty, pos, af, none⟩ K N D L C := fun a w hF hS => by
  have ha : xs.toArray.map a.eval = vs.toArray := by apply Array.ext'; simp [hF.evs hx]
  refine wpo_val rfl ?_ (h _ w (hF.put d _ hd) hS)
  simp [execOp, resolve, Deferred.ofValue, Act.eval, invoke, ha, hr]
theorem WL.convert {t1 t2 : TypeId} {x : Operand} {vx v : Value} (hd : Nat.blt d N = true) (hx : ev L x = some vx) (hr : ∀ w, St w0 O C w → (convert t1 t2 vx).run P w = .ok v w)
    (h : WA w0 O K N D ((d, v) :: L) C) : WK P w0 O ops Q ⟨some d, .convert t1 t2 x, ty, pos, af, none⟩ K N D L C := fun a w hF hS => by
  refine wpo_val rfl ?_ (h _ w (hF.put d _ hd) hS)
  simp [execOp, hF.ev hx, hr w hS]

/-! ### append of a string's bytes -/
def bcells (l : List UInt8) : List Value := l.map fun c => .int .u8 c.toNat
theorem bcells_str (l : List UInt8) : strCells (str l) = bcells l := by simp [strCells, str, bcells]
theorem appendS_st {t u ty e : TypeId} {i : TypeInfo} {v : Value} {n : Nat} {s : List UInt8} {xs : List Value} {C1 : List Chunk} {w : World}
    (ht : P.underlying t = some (.slice e)) (hu : P.underlying u = some .string) (hi : P.info? e = some i) (hz : i.zero = some (.int .u8 0)) (hsize : i.size = 1) (hby : i.bytes = 1)
    (hS1 : St w0 O (rowc v n e 1 xs :: C1) w) (hbytes : n + s.length ≤ 140737488355328) :
    ∃ a cap w', (Builtin.append_ #[t, u] ty #[v, .string (str s)]).run P w = .ok (.slice a (n + s.length) cap) w' ∧ St w0 O (rowc (.slice a (n + s.length) cap) (n + s.length) e 1 (xs ++ bcells s) :: C1) w' := by
  have hsz : (str s).size = s.length := rfl
  have hown : w.ownsRow 0 e 1 v n xs := hS1.ok _ (List.mem_cons_self ..)
  have h63 : n + s.length ≤ maxLen := Nat.le_trans hbytes (by decide)
  have hd1 := List.pairwise_cons.1 hS1.disj
  have hbO : ∀ k, v.ownBlock = some k → k < w.heap.size ∧ (k < w0.heap.size → k ∈ O) := fun k hk => hS1.bnd _ (List.mem_cons_self ..) k hk
  obtain ⟨v', w', hr, hown', hg, hnil⟩ := run_append_own_string (P := P) w 0 t u ty e i ht hu hi hz hsize hby v n xs hown (str s) (by rw [hsz]; exact h63) (by rw [hsz]; exact hbytes) (Nat.zero_le _)
  rw [hsz] at hown' hnil
  obtain ⟨a', cap', rfl⟩ := ownsRow_slice hown'
  have hblk : ∀ k, (Value.slice a' (n + s.length) cap').ownBlock = some k → v.ownBlock = some k ∨ w.heap.size ≤ k := by
    intro k hk
    rcases hown.2 with ⟨hv, hn0⟩ | ⟨g, cp, cur, hv, _, hgg, hnc, _, hcs, _⟩
    · subst hn0; subst hv
      by_cases hm : s.length = 0
      · have : Value.slice a' (0 + s.length) cap' = .slice none 0 0 := hnil.2 ⟨rfl, hm⟩
        rw [this] at hk; simp [Value.ownBlock] at hk
      · have hr2 := run_append_nil_string (P := P) w t u ty e i (.int .u8 0) ht hu hi hz (str s) (by omega) (by omega) (by rw [hby]; omega)
        have := hr.symm.trans hr2
        injection this with e1 _
        injection e1 with e2 _ _
        subst e2
        simp only [Value.ownBlock, Option.some.injEq] at hk
        exact .inr (by omega)
    · subst hv
      by_cases hroom : n + s.length ≤ cp
      · have hr2 := run_append_room_string (P := P) w t u ty e i ht hu hi hsize g n cp cur hgg (str s) (by rw [hsz]; exact hroom) (by rw [hsz]; omega)
        have := hr.symm.trans hr2
        injection this with e1 _
        injection e1 with e2 _ _
        subst e2
        exact .inl hk
      · have holds : ∀ j u, xs[j]? = some u → w.cell? ((⟨g, 0, none⟩ : Addr).add j) = some u := hown.cells (g := g) rfl
        have hr2 := run_append_grow_string (P := P) w t u ty e i (.int .u8 0) ht hu hi hz ⟨g, 0, none⟩ n cp xs (by rw [hsize]; exact hown.1) holds (str s) (by omega) (by simp only [maxLen] at h63; omega) (growslice_fits (by omega) (by rw [hby]; omega))
        have := hr.symm.trans hr2
        injection this with e1 _
        injection e1 with e2 _ _
        subst e2
        simp only [Value.ownBlock, Option.some.injEq] at hk
        exact .inr (by omega)
  have hlt : ∀ k, (Value.slice a' (n + s.length) cap').ownBlock = some k → k < w'.heap.size := by
    intro k hk
    rcases hown'.2 with ⟨he, _⟩ | ⟨g, cp, cur, he, _, hh, _⟩
    · rw [he] at hk; simp [Value.ownBlock] at hk
    · have hgk : g = k := by rw [he] at hk; simpa [Value.ownBlock] using hk
      subst hgk
      exact lt_of_heap hh
  have hold : ∀ k, k < w.heap.size → v.ownBlock ≠ some k → w'.heap[k]? = w.heap[k]? := fun k hk hne => hg.block k hk (fun e => hne e.symm)
  refine ⟨a', cap', w', hr, hg.os.trans hS1.os, hg.tape.trans hS1.tape, hg.output.trans hS1.output, Nat.le_trans hS1.size hg.size, fun k hk ho => ?_, fun x hx => ?_, fun x hx k hk => ?_, ?_⟩
  · rw [hold k (Nat.lt_of_lt_of_le hk hS1.size) (fun hv => ho ((hbO k hv).2 hk))]
    exact hS1.old k hk ho
  · rcases List.mem_cons.1 hx with rfl | hx
    · rw [← bcells_str]; exact hown'
    · exact x.loc w w' (fun k hk => hold k (hS1.bnd x (List.mem_cons_of_mem _ hx) k hk).1 (fun hv => hd1.1 x hx k hv hk)) (hS1.ok x (List.mem_cons_of_mem _ hx))
  · rcases List.mem_cons.1 hx with rfl | hx
    · refine ⟨hlt k hk, fun hlt0 => ?_⟩
      rcases hblk k hk with h | h
      · exact (hbO k h).2 hlt0
      · have := hS1.size; omega
    · have := hS1.bnd x (List.mem_cons_of_mem _ hx) k hk
      exact ⟨Nat.lt_of_lt_of_le this.1 hg.size, this.2⟩
  · refine List.Pairwise.cons (fun x hx k hk hk' => ?_) hd1.2
    rcases hblk k hk with h | h
    · exact hd1.1 x hx k h hk'
    · have := (hS1.bnd x (List.mem_cons_of_mem _ hx) k hk').1; omega
/-- The types of it, closed. -/
structure ByT (P : Program) (t u e : TypeId) : Prop where
  und : P.underlying t = some (.slice e)
  str : P.underlying u = some .string
  row : ∃ i, P.info? e = some i ∧ i.zero = some (.int .u8 0) ∧ i.size = 1 ∧ i.bytes = 1
theorem WL.appendS {s x : Operand} {t u e : TypeId} {v : Value} {n : Nat} {l : List UInt8} {xs : List Value} {C1 : List Chunk} (hT : ByT P t u e) (hd : Nat.blt d N = true)
    (hs : ev L s = some v) (hx : ev L x = some (.string (str l))) (hr : Rem (rowc v n e 1 xs) C C1) (hbytes : n + l.length ≤ 140737488355328)
    (h : ∀ a cap, WA w0 O K N D ((d, .slice a (n + l.length) cap) :: L) (rowc (.slice a (n + l.length) cap) (n + l.length) e 1 (xs ++ bcells l) :: C1)) :
    WK P w0 O ops Q ⟨some d, .call { callee := .builtin .append, args := #[s, x], argTypes := #[t, u] }, ty, pos, af, none⟩ K N D L C := fun a w hF hS => by
  obtain ⟨i, h1, h2, h3, h4⟩ := hT.row
  obtain ⟨a', cap', w', hrun, hS'⟩ := appendS_st (P := P) (ty := ty) hT.und hT.str h1 h2 h3 h4 (hS.perm hr.perm) hbytes
  refine wpo_val rfl ?_ (h a' cap' _ w' (hF.put d _ hd) hS')
  simp only [execOp, resolve, invoke, builtin, Sem.run_bind, Sem.run_pure, Result.andThen_ok, List.map_toArray, List.map_cons, List.map_nil, hF.ev hs, hF.ev hx, hrun]

/-! ### a string out of a row of bytes -/
theorem WL.sliceData {x : Operand} {t : TypeId} {a0 : Option Addr} {n c : Nat} (hd : Nat.blt d N = true) (hx : ev L x = some (.slice a0 n c)) (hc : a0 = none ∨ c ≠ 0) (h : WA w0 O K N D ((d, .pointer a0) :: L) C) :
    WK P w0 O ops Q ⟨some d, .call { callee := .builtin .unsafeSliceData, args := #[x], argTypes := #[t] }, ty, pos, af, none⟩ K N D L C := fun a w hF hS => by
  refine wpo_val rfl ?_ (h _ w (hF.put d _ hd) hS)
  have hr : (Builtin.unsafeSliceData_ #[t] ty #[.slice a0 n c]).run P w = .ok (.pointer a0) w := by
    rcases hc with rfl | hc
    · rfl
    · cases a0 with
      | none => rfl
      | some a0 => exact Lib.run_unsafeSliceData_row _ _ _ _ _ _ hc
  simp only [execOp, resolve, invoke, builtin, Sem.run_bind, Sem.run_pure, Result.andThen_ok, List.map_toArray, List.map_cons, List.map_nil, hF.ev hx, hr]
theorem St.freeze {w : World} {c : Chunk} {C1 : List Chunk} {b m : Nat} (h : St w0 O (c :: C1) w) (hb : c.fp b) : St w0 O C1 (w.freeze ⟨b, 0, none⟩ m) := by
  have hd := List.pairwise_cons.1 h.disj
  have hk : ∀ k, k ≠ b → (w.freeze ⟨b, 0, none⟩ m).heap[k]? = w.heap[k]? := fun k hne => by
    unfold World.freeze
    split
    · rfl
    · simp only [Array.getElem?_modify, if_neg (Ne.symm hne)]
  have hsz : (w.freeze ⟨b, 0, none⟩ m).heap.size = w.heap.size := by
    unfold World.freeze; split <;> simp
  have hos : (w.freeze ⟨b, 0, none⟩ m).os = w.os ∧ (w.freeze ⟨b, 0, none⟩ m).tape = w.tape ∧ (w.freeze ⟨b, 0, none⟩ m).output = w.output := by
    unfold World.freeze; split <;> exact ⟨rfl, rfl, rfl⟩
  refine ⟨hos.1.trans h.os, hos.2.1.trans h.tape, hos.2.2.trans h.output, by rw [hsz]; exact h.size, fun k hlt hO => ?_, fun x hx => ?_, fun x hx k hk' => ?_, hd.2⟩
  · rw [hk k (fun e => hO (by subst e; exact (h.bnd c (List.mem_cons_self ..) k hb).2 hlt))]
    exact h.old k hlt hO
  · exact x.loc w _ (fun k hk' => hk k (fun e => by subst e; exact hd.1 x hx k hb hk')) (h.ok x (List.mem_cons_of_mem _ hx))
  · have := h.bnd x (List.mem_cons_of_mem _ hx) k hk'
    exact ⟨by rw [hsz]; exact this.1, this.2⟩
theorem WL.unsafeString {x y : Operand} {pt it e : TypeId} {l : List UInt8} {a0 : Option Addr} {cap : Nat} {C1 : List Chunk} (hp : P.underlying pt = some (.pointer e)) (hc : P.cellsOf e = 1) (hd : Nat.blt d N = true)
    (hx : ev L x = some (.pointer a0)) (hy : ev L y = some (.int .i64 l.length)) (hr : Rem (rowc (.slice a0 l.length cap) l.length e 1 (bcells l)) C C1) (hne : l ≠ []) (h63 : l.length ≤ 140737488355328)
    (h : WA w0 O K N D ((d, .string (str l)) :: L) C1) :
    WK P w0 O ops Q ⟨some d, .call { callee := .builtin .unsafeString, args := #[x, y], argTypes := #[pt, it] }, ty, pos, af, none⟩ K N D L C := fun a w hF hS => by
  have hS1 := hS.perm hr.perm
  have hown : w.ownsRow 0 e 1 (.slice a0 l.length cap) l.length (bcells l) := hS1.ok _ (List.mem_cons_self ..)
  have hpos : 0 < l.length := List.length_pos_iff.2 hne
  obtain ⟨g, cp, cur, hv, _, hg, hnc, _, hcs, _⟩ : ∃ g cp cur, Value.slice a0 l.length cap = .slice (some ⟨g, 0, none⟩) l.length cp ∧ 0 ≤ g ∧ w.heap[g]? = some (.cells cur e (0, 0)) ∧ l.length ≤ cp ∧ cp ≤ maxLen ∧ cur.size = cp * 1 ∧ cur.toList.take (l.length * 1) = bcells l := by
    rcases hown.2 with ⟨_, h0⟩ | ⟨g, cp, cur, r⟩
    · omega
    · exact ⟨g, cp, cur, r⟩
  injection hv with ha _ hcp
  subst ha
  have hcell : ∀ j x, l[j]? = some x → w.cell? ((⟨g, 0, none⟩ : Addr).add j) = some (.int .u8 x.toNat) := fun j x hx => hown.cells (g := g) rfl j _ (by simp [bcells, hx])
  have hrun := Lib.run_unsafeString_row (P := P) w pt it ty e hp hc g cur.size (by simp [World.shape?, hg]) l hne (by omega) (by omega) hcell
  refine wpo_val rfl ?_ (h _ _ (hF.put d _ hd) (hS1.freeze (b := g) (m := l.length) rfl))
  simp only [execOp, resolve, invoke, builtin, Sem.run_bind, Sem.run_pure, Result.andThen_ok, List.map_toArray, List.map_cons, List.map_nil, hF.ev hx, hF.ev hy, hrun]
  rfl
end
end Go.Eng

