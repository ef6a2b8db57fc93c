import Derived.Test.YtkgllhkhdjodeaaGreatEng3
import Derived.Laws.AppendOwnNone
set_option linter.unusedSimpArgs false
set_option linter.unusedVariables false
namespace Go.Eng
open Go Go.RowKit
section
variable {P : Program} {w0 : World} {O : List Nat} {ops : Array Oper} {Q : Exit → Act → World → Prop} {N : Nat} {D : List Deferred} {L : FL} {C : List Chunk} {K : Act → World → Prop}
variable {rest : List Oper} {d : Nat} {ty : TypeId} {pos : String} {af : Array Edge}

/-- A Bool in a slot, by cases. -/
theorem Fr.shadow {a : Act} (hF : Fr N D L a) {i : Nat} {v : Value} (hv : lk L i = some v) : Fr N D ((i, v) :: L) a :=
  ⟨hF.defers, hF.size, fun j u hu => by
    simp only [lk] at hu
    cases hk : Nat.beq i j with
    | true =>
      have e : i = j := Nat.eq_of_beq_eq_true hk
      simp only [hk, cond_true, Option.some.injEq] at hu
      subst hu; subst e
      exact hF.get _ _ hv
    | false =>
      simp only [hk, cond_false] at hu
      exact hF.get j u hu⟩
theorem WA.splitB {i : Nat} {b : Bool} (hv : lk L i = some (.bool b)) (ht : b = true → WA w0 O K N D ((i, .bool true) :: L) C) (hf : b = false → WA w0 O K N D ((i, .bool false) :: L) C) :
    WA w0 O K N D L C := fun a w hF hS => by
  cases b with
  | true => exact ht rfl a w (hF.shadow hv) hS
  | false => exact hf rfl a w (hF.shadow hv) hS
/-- What a slot holds, said otherwise. -/
theorem WA.say (i : Nat) (v : Value) (hv : lk L i = some v) (h : WA w0 O K N D ((i, v) :: L) C) : WA w0 O K N D L C := fun a w hF hS => h a w (hF.shadow hv) hS
theorem WC.say {c : Code} (i : Nat) (v : Value) (hv : lk L i = some v) (h : WC P w0 O c Q N D ((i, v) :: L) C) : WC P w0 O c Q N D L C := fun a w hF hS => h a w (hF.shadow hv) hS
theorem WC.splitB {c : Code} {i : Nat} {b : Bool} (hv : lk L i = some (.bool b)) (ht : b = true → WC P w0 O c Q N D ((i, .bool true) :: L) C) (hf : b = false → WC P w0 O c Q N D ((i, .bool false) :: L) C) :
    WC P w0 O c Q N D L C := fun a w hF hS => by
  cases b with
  | true => exact ht rfl a w (hF.shadow hv) hS
  | false => exact hf rfl a w (hF.shadow hv) hS
theorem Yl.makeFunc {F : World → Prop} {fn : Fn} {xs ys : List Operand} {us vs : List Value} (hx : evs L xs = some us) (hy : evs L ys = some vs) : Yl P N D L F ⟨some d, .makeFunc fn xs.toArray ys.toArray, ty, pos, af, none⟩ (.func fn us.toArray vs.toArray) := fun a w hF _ => by
      have h1 : xs.toArray.map a.eval = us.toArray := by apply Array.ext'; simp [hF.evs hx]
      have h2 : ys.toArray.map a.eval = vs.toArray := by apply Array.ext'; simp [hF.evs hy]
      simp [execOp, Instr.makeFunc, h1, h2]
theorem WL.makeFunc {fn : Fn} {xs ys : List Operand} {us vs : List Value} (hd : Nat.blt d N = true) (hx : evs L xs = some us) (hy : evs L ys = some vs) (h : WA w0 O K N D ((d, .func fn us.toArray vs.toArray) :: L) C) :
    WK P w0 O ops Q ⟨some d, .makeFunc fn xs.toArray ys.toArray, ty, pos, af, none⟩ K N D L C := WL.y (F := fun _ => True) (Yl.makeFunc hx hy) hd (fun _ _ => trivial) h

/-- A part of the code by itself: what holds of the frame and the chunks behind it is named. -/
theorem WC.cut {c : Code} (M : FL) (C' : List Chunk) (hx : ∀ Q', WQ w0 O Q' .normal N D M C' → WC P w0 O c Q' N D L C) (hy : WQ w0 O Q .normal N D M C') : WC P w0 O c Q N D L C := hx Q hy

theorem WC.cutF {c : Code} (M : FL) (hx : ∀ Q', WQ w0 O Q' .normal N D M C → WC P w0 O c Q' N D L C) (hy : WQ w0 O Q .normal N D M C) : WC P w0 O c Q N D L C := hx Q hy

theorem WQ.byCut {e : Exit} {M : FL} (h : WQ w0 O Q e N D M C) (hs : subF L M) : WQ w0 O Q e N D L C := WQ.facts hs h
/-- The first fact of a frame is a Bool that is another way of saying. -/
theorem subF_bool {M : FL} {i : Nat} {b b' : Bool} (hb : b' = b) (hM : subF L M) (hv : lk L i = some (.bool b)) : subF L ((i, .bool b') :: M) := ⟨by rw [hb]; exact hv, hM⟩

/-- The same where a region in it draws its order: the way out by a panic does not look at the temporaries. -/
def NoLook (Q : Exit → Act → World → Prop) : Prop := ∀ c (a : Act) (d : Option Tmp) (v : Value) w, Q (.panic c) (a.put d v) w → Q (.panic c) a w
theorem WC.cutP {c : Code} (M : FL) (hq : NoLook Q) (hx : ∀ Q', NoLook Q' → WQ w0 O Q' .normal N D M C → WC P w0 O c Q' N D L C) (hy : WQ w0 O Q .normal N D M C) : WC P w0 O c Q N D L C := hx Q hq hy

/-- A callee that yields one value and makes nothing that is handed on. -/
def Pure (P : Program) (f : FuncId) (vs : List Value) (w : World) (v : Value) : Prop := Calls P f vs.toArray w fun e w' => e = .returned v ∧ St w [] [] w'
/-- One that turns the block b alone. -/
def Turns (P : Program) (f : FuncId) (vs : List Value) (w : World) (b : Nat) (v : Value) (bs : List Value) (e : TypeId) : Prop :=
  Calls P f vs.toArray w fun en w' => en = .returned v ∧ St w [b] [pt b bs e] w'

theorem WL.callV {f : FuncId} {xs : List Operand} {tys : Array TypeId} {vs : List Value} {v : Value}
    (hf : funB P f = some true) (hd : Nat.blt d N = true) (hx : evs L xs = some vs)
    (hc : ∀ w, St w0 O C w → Pure P f vs w v) (h : WA w0 O K N D ((d, v) :: L) C) :
    WK P w0 O ops Q ⟨some d, .call { callee := .value (.func f), args := xs.toArray, argTypes := tys }, ty, pos, af, none⟩ K N D L C :=
  WL.call0 (β := Unit) (res := fun _ => .returned v) (cs := fun _ => []) (ψ := fun _ => True) hf (fun d' e => by cases e; exact hd) hx
    (fun w hS => (hc w hS).mono fun e w' ⟨h1, h2⟩ => ⟨(), trivial, h1, h2⟩) (fun _ _ => h)
theorem WL.call1V {f : FuncId} {xs : List Operand} {tys : Array TypeId} {vs : List Value} {v : Value} {b : Nat} {bs bs' : List Value} {e : TypeId} {C1 : List Chunk}
    (hf : funB P f = some true) (hd : Nat.blt d N = true) (hx : evs L xs = some vs) (hr : Rem (pt b bs e) C C1)
    (hc : ∀ w, St w0 O C w → Turns P f vs w b v bs' e) (h : WA w0 O K N D ((d, v) :: L) (pt b bs' e :: C1)) :
    WK P w0 O ops Q ⟨some d, .call { callee := .value (.func f), args := xs.toArray, argTypes := tys }, ty, pos, af, none⟩ K N D L C :=
  WL.call1 (β := Unit) (res := fun _ => .returned v) (cs := fun _ => [pt b bs' e]) (ψ := fun _ => True) hf (fun d' e => by cases e; exact hd) hx hr
    (fun w hS => (hc w hS).mono fun e w' ⟨h1, h2⟩ => ⟨(), trivial, h1, h2⟩) (fun _ _ => h)
/-- A call of a function value that the program made of a named function. -/
theorem WL.callF0 {β : Type} {f : FuncId} {x : Operand} {xs : List Operand} {tys : Array TypeId} {dst : Option Tmp} {vs us cap : List Value} {res : β → Ending} {cs : β → List Chunk} {ψ : β → Prop}
    (hf : funB P f = some true) (hd : ∀ d, dst = some d → Nat.blt d N = true) (hfv : ev L x = some (.func (.func f) us.toArray cap.toArray)) (hx : evs L xs = some vs)
    (hc : ∀ w, St w0 O C w → Calls P f (us ++ vs ++ cap).toArray w fun e w' => ∃ x, ψ x ∧ e = res x ∧ St w [] (cs x) w')
    (h : ∀ x, ψ x → After w0 O Q K N D L dst (cs x ++ C) (res x)) :
    WK P w0 O ops Q ⟨dst, .call { callee := .value x, args := xs.toArray, argTypes := tys }, ty, pos, af, none⟩ K N D L C := fun a w hF hS => by
  have ha : xs.toArray.map a.eval = vs.toArray := by apply Array.ext'; simp [hF.evs hx]
  refine wpo_call (f := f) (args := (us ++ vs ++ cap).toArray) rfl ?_ ?_
  · simp [execOp, resolve, Deferred.ofValue, hF.ev hfv, invoke, ha, run_callFunc hf]
  refine (hc w hS).mono fun e w' ⟨x, hψ, he, hS'⟩ => ?_
  subst he
  exact (h x hψ).use hd hF (hS.call0 hS')
theorem WL.callF1 {β : Type} {f : FuncId} {x : Operand} {xs : List Operand} {tys : Array TypeId} {dst : Option Tmp} {vs us cap : List Value} {res : β → Ending} {cs : β → List Chunk} {ψ : β → Prop} {b : Nat} {bs : List Value} {e : TypeId} {C1 : List Chunk}
    (hf : funB P f = some true) (hd : ∀ d, dst = some d → Nat.blt d N = true) (hfv : ev L x = some (.func (.func f) us.toArray cap.toArray)) (hx : evs L xs = some vs) (hr : Rem (pt b bs e) C C1)
    (hc : ∀ w, St w0 O C w → Calls P f (us ++ vs ++ cap).toArray w fun e w' => ∃ x, ψ x ∧ e = res x ∧ St w [b] (cs x) w')
    (h : ∀ x, ψ x → After w0 O Q K N D L dst (cs x ++ C1) (res x)) :
    WK P w0 O ops Q ⟨dst, .call { callee := .value x, args := xs.toArray, argTypes := tys }, ty, pos, af, none⟩ K N D L C := fun a w hF hS => by
  have ha : xs.toArray.map a.eval = vs.toArray := by apply Array.ext'; simp [hF.evs hx]
  refine wpo_call (f := f) (args := (us ++ vs ++ cap).toArray) rfl ?_ ?_
  · simp [execOp, resolve, Deferred.ofValue, hF.ev hfv, invoke, ha, run_callFunc hf]
  refine (hc w hS).mono fun e w' ⟨x, hψ, he, hS'⟩ => ?_
  subst he
  exact (h x hψ).use hd hF (hS.call1 hr hS')

/-! ### slices of the call's own -/
theorem ownsRow_loc {w w' : World} {base : Nat} {e : TypeId} {sz : Nat} {v : Value} {n : Nat} {xs : List Value} (h : ∀ k, v.ownBlock = some k → w'.heap[k]? = w.heap[k]?) (hw : w.ownsRow base e sz v n xs) : w'.ownsRow base e sz v n xs := by
  obtain ⟨h1, h2⟩ := hw
  refine ⟨h1, ?_⟩
  rcases h2 with h2 | ⟨g, cap, cur, hv, hg, hh, r⟩
  · exact .inl h2
  · exact .inr ⟨g, cap, cur, hv, hg, by rw [h g (by rw [hv]; rfl)]; exact hh, r⟩

/-- The slice value v has n elements of type e, sz cells each, xs in all; its row is the holder's own. -/
def rowc (v : Value) (n : Nat) (e : TypeId) (sz : Nat) (xs : List Value) : Chunk where
  fp k := v.ownBlock = some k
  ok w := w.ownsRow 0 e sz v n xs
  loc w w' h hw := ownsRow_loc h hw

theorem ownsRow_base {w : World} {e : TypeId} {sz : Nat} {v : Value} {n : Nat} {xs : List Value} (h : w.ownsRow 0 e sz v n xs) : w.ownsRow 0 e sz v n xs := h

theorem ownsRow_slice {w : World} {base : Nat} {e : TypeId} {sz : Nat} {v : Value} {n : Nat} {xs : List Value} (h : w.ownsRow base e sz v n xs) : ∃ a cap, v = .slice a n cap := by
  rcases h.2 with ⟨rfl, rfl⟩ | ⟨g, cap, cur, hv, _⟩
  · exact ⟨none, 0, rfl⟩
  · exact ⟨_, cap, hv⟩

/-- A chunk in another's place, said of any world in which it holds. -/
theorem St.swap {w : World} {c c' : Chunk} {C1 : List Chunk} (h : St w0 O (c :: C1) w) (hok : c.ok w → c'.ok w) (hfp : ∀ k, c'.fp k → c.fp k) : St w0 O (c' :: C1) w := by
  have hd := List.pairwise_cons.1 h.disj
  refine ⟨h.os, h.tape, h.output, h.size, h.old, fun x hx => ?_, fun x hx k hk => ?_, ?_⟩
  · rcases List.mem_cons.1 hx with rfl | hx
    · exact hok (h.ok c (List.mem_cons_self ..))
    · exact h.ok x (List.mem_cons_of_mem _ hx)
  · rcases List.mem_cons.1 hx with rfl | hx
    · exact h.bnd c (List.mem_cons_self ..) k (hfp k hk)
    · exact h.bnd x (List.mem_cons_of_mem _ hx) k hk
  · exact List.Pairwise.cons (fun x hx k hk hk' => hd.1 x hx k (hfp k hk) hk') hd.2

theorem rowc_of_pt {b : Nat} {cs : List Value} {e : TypeId} {sz n : Nat} (hl : cs.length = n * sz) (hn : n ≤ maxLen) {w : World} (h : (pt b cs e).ok w) : (rowc (.slice (some ⟨b, 0, none⟩) n n) n e sz cs).ok w :=
  ⟨hl, .inr ⟨b, n, cs.toArray, rfl, Nat.zero_le _, h, Nat.le_refl _, hn, by simp [hl], by rw [← hl]; simp⟩⟩

theorem append_st {t ty e : TypeId} {sz bytes : Nat} {i : TypeInfo} {z : Value} {v : Value} {n m c bx ox : Nat} {xs news : List Value} {C1 : List Chunk} {w : World}
    (ht : P.underlying t = some (.slice e)) (hi : P.info? e = some i) (hz : i.zero = some z) (hsize : i.size = sz) (hby : i.bytes = bytes) (hzs : z.cells.size = sz) (hsz : 0 < sz)
    (hS1 : St w0 O (rowc v n e sz xs :: C1) w) (hnews : ∀ j u, news[j]? = some u → w.cell? ⟨bx, ox + j, none⟩ = some u) (hl : news.length = m * sz) (h1 : ∀ u ∈ news, u.oneCell' = true)
    (h63 : n + m ≤ maxLen) (hbytes : (n + m) * bytes ≤ 140737488355328) :
    ∃ a cap w', (Builtin.append_ #[t, t] ty #[v, .slice (some ⟨bx, ox, none⟩) m c]).run P w = .ok (.slice a (n + m) cap) w' ∧ St w0 O (rowc (.slice a (n + m) cap) (n + m) e sz (xs ++ news) :: C1) w' := by
  have hown : w.ownsRow 0 e sz v n xs := hS1.ok _ (List.mem_cons_self ..)
  have hnews' : ∀ j u, news[j]? = some u → w.cell? ((⟨bx, ox, none⟩ : Addr).add j) = some u := fun j u hu => by rw [add_blk]; exact hnews j u hu
  have h63' : n + m ≤ 9223372036854775807 := by simp only [maxLen] at h63; omega
  have hd1 := List.pairwise_cons.1 hS1.disj
  have hbO : ∀ k, v.ownBlock = some k → k < w.heap.size ∧ (k < w0.heap.size → k ∈ O) := fun k hk => hS1.bnd _ (List.mem_cons_self ..) k hk
  obtain ⟨v', w', hr, hown', hg, hnil⟩ := run_append_own (P := P) w 0 t ty e i z sz bytes ht hi hz hsize hby hzs hsz v n xs hown ⟨bx, ox, none⟩ m c news hl hnews' h1 h63 hbytes (Nat.zero_le _)
  obtain ⟨a', cap', rfl⟩ := ownsRow_slice hown'
  have hblk : ∀ k, (Value.slice a' (n + m) cap').ownBlock = some k → v.ownBlock = some k ∨ w.heap.size ≤ k := by
    intro k hk
    rcases hown.2 with ⟨hv, hn0⟩ | ⟨g, cp, cur, hv, _, hgg, hnc, _, hcs, _⟩
    · subst hn0; subst hv
      by_cases hm : m = 0
      · have : Value.slice a' (0 + m) cap' = .slice none 0 0 := hnil.2 ⟨rfl, hm⟩
        rw [this] at hk; simp [Value.ownBlock] at hk
      · have hx : xs = [] := List.eq_nil_of_length_eq_zero (by simpa using hown.1)
        subst hsize
        have hr2 := run_append_nil (P := P) w t ty e i z ht hi hz ⟨bx, ox, none⟩ m c news hl hnews' (by omega) (by omega) (by rw [hby]; have hb := hbytes; simp only [Nat.zero_add] at hb; omega)
        have := hr.symm.trans hr2
        injection this with e1 _
        injection e1 with e2 _ _
        subst e2
        simp only [Value.ownBlock, Option.some.injEq] at hk
        exact .inr (by omega)
    · subst hsize
      by_cases hroom : n + m ≤ cp
      · have hfit : n * i.size + news.length ≤ cur.size := by rw [hl, hcs, ← Nat.add_mul]; exact Nat.mul_le_mul_right _ hroom
        subst hv
        have hr2 := run_append_room (P := P) w t ty e i ht hi g n cp cur hgg ⟨bx, ox, none⟩ m c news hl hnews' h1 hroom hfit
        have := hr.symm.trans hr2
        injection this with e1 _
        injection e1 with e2 _ _
        subst e2
        exact .inl hk
      · subst hv
        have holds : ∀ j u, xs[j]? = some u → w.cell? ((⟨g, 0, none⟩ : Addr).add j) = some u := hown.cells (g := g) rfl
        have hr2 := run_append_grow (P := P) w t ty e i z ht hi hz ⟨g, 0, none⟩ n cp xs hown.1 holds ⟨bx, ox, none⟩ m c news hl hnews' (by omega) (by omega) (growslice_fits (by omega) (by rw [hby]; exact hbytes))
        have := hr.symm.trans hr2
        injection this with e1 _
        injection e1 with e2 _ _
        subst e2
        simp only [Value.ownBlock, Option.some.injEq] at hk
        exact .inr (by omega)
  have hlt : ∀ k, (Value.slice a' (n + m) cap').ownBlock = some k → k < w'.heap.size := by
    intro k hk
    rcases hown'.2 with ⟨he, _⟩ | ⟨g, cp, cur, he, _, hh, _⟩
    · rw [he] at hk; simp [Value.ownBlock] at hk
    · have hgk : g = k := by rw [he] at hk; simpa [Value.ownBlock] using hk
      subst hgk
      exact lt_of_heap hh
  have hold : ∀ k, k < w.heap.size → v.ownBlock ≠ some k → w'.heap[k]? = w.heap[k]? := fun k hk hne => hg.block k hk (fun e => hne e.symm)
  refine ⟨a', cap', w', hr, hg.os.trans hS1.os, hg.tape.trans hS1.tape, hg.output.trans hS1.output, Nat.le_trans hS1.size hg.size, fun k hk ho => ?_, fun x hx => ?_, fun x hx k hk => ?_, ?_⟩
  · rw [hold k (Nat.lt_of_lt_of_le hk hS1.size) (fun hv => ho ((hbO k hv).2 hk))]
    exact hS1.old k hk ho
  · rcases List.mem_cons.1 hx with rfl | hx
    · exact hown'
    · exact x.loc w w' (fun k hk => hold k (hS1.bnd x (List.mem_cons_of_mem _ hx) k hk).1 (fun hv => hd1.1 x hx k hv hk)) (hS1.ok x (List.mem_cons_of_mem _ hx))
  · rcases List.mem_cons.1 hx with rfl | hx
    · refine ⟨hlt k hk, fun hlt0 => ?_⟩
      rcases hblk k hk with h | h
      · exact (hbO k h).2 hlt0
      · have := hS1.size; omega
    · have := hS1.bnd x (List.mem_cons_of_mem _ hx) k hk
      exact ⟨Nat.lt_of_lt_of_le this.1 hg.size, this.2⟩
  · refine List.Pairwise.cons (fun x hx k hk hk' => ?_) hd1.2
    rcases hblk k hk with h | h
    · exact hd1.1 x hx k h hk'
    · have := (hS1.bnd x (List.mem_cons_of_mem _ hx) k hk').1; omega

/-- append: the slice is nil or the holder's own; what is appended is seen in every world of the state. -/
theorem WL.append {s x : Operand} {t e : TypeId} {sz bytes : Nat} {i : TypeInfo} {z : Value} {v : Value} {n m c bx ox : Nat} {xs news : List Value} {C1 : List Chunk} (hd : Nat.blt d N = true)
    (ht : P.underlying t = some (.slice e)) (hi : P.info? e = some i) (hz : i.zero = some z) (hsize : i.size = sz) (hby : i.bytes = bytes) (hzs : z.cells.size = sz) (hsz : 0 < sz)
    (hs : ev L s = some v) (hx : ev L x = some (.slice (some ⟨bx, ox, none⟩) m c)) (hr : Rem (rowc v n e sz xs) C C1)
    (hnews : ∀ w, St w0 O C w → ∀ j u, news[j]? = some u → w.cell? ⟨bx, ox + j, none⟩ = some u) (hl : news.length = m * sz) (h1 : ∀ u ∈ news, u.oneCell' = true)
    (h63 : n + m ≤ maxLen) (hbytes : (n + m) * bytes ≤ 140737488355328)
    (h : ∀ a cap, WA w0 O K N D ((d, .slice a (n + m) cap) :: L) (rowc (.slice a (n + m) cap) (n + m) e sz (xs ++ news) :: C1)) :
    WK P w0 O ops Q ⟨some d, .call { callee := .builtin .append, args := #[s, x], argTypes := #[t, t] }, ty, pos, af, none⟩ K N D L C := fun a w hF hS => by
  obtain ⟨a', cap', w', hrun, hS'⟩ := append_st (P := P) (ty := ty) (c := c) ht hi hz hsize hby hzs hsz (hS.perm hr.perm) (hnews w hS) hl h1 h63 hbytes
  refine wpo_val rfl ?_ (h a' cap' _ w' (hF.put d _ hd) hS')
  simp only [execOp, resolve, invoke, builtin, Sem.run_bind, Sem.run_pure, Result.andThen_ok, List.map_toArray, List.map_cons, List.map_nil, hF.ev hs, hF.ev hx, hrun]

/-- A type's row for append and buildSlice, closed. -/
structure ElT (P : Program) (t e : TypeId) (sz bytes : Nat) : Prop where
  und : P.underlying t = some (.slice e)
  row : ∃ i z, P.info? e = some i ∧ i.zero = some z ∧ i.size = sz ∧ i.bytes = bytes ∧ z.cells.size = sz
  pos : 0 < sz

def elB (P : Program) (t : TypeId) : Option (TypeId × Nat × Nat × Nat) := match P.underlying t with
  | some (.slice e) => match P.info? e with
    | some i => match i.zero with
      | some z => some (e, i.size, i.bytes, z.cells.size)
      | none => none
    | none => none
  | _ => none
theorem ElT.of {t e : TypeId} {sz bytes : Nat} (h : elB P t = some (e, sz, bytes, sz)) (hp : 0 < sz) : ElT P t e sz bytes := by
  unfold elB at h
  split at h
  · rename_i e' hu
    split at h
    · rename_i i hi
      split at h
      · rename_i z hz
        simp only [Option.some.injEq, Prod.mk.injEq] at h
        obtain ⟨rfl, h1, h2, h3⟩ := h
        exact ⟨hu, ⟨i, z, hi, hz, h1, h2, h3⟩, hp⟩
      · cases h
    · cases h
  · cases h

theorem WL.appendE {s x : Operand} {t e : TypeId} {sz bytes : Nat} {v : Value} {n m c bx ox : Nat} {xs news : List Value} {C1 : List Chunk} (hE : ElT P t e sz bytes) (hd : Nat.blt d N = true)
    (hs : ev L s = some v) (hx : ev L x = some (.slice (some ⟨bx, ox, none⟩) m c)) (hr : Rem (rowc v n e sz xs) C C1)
    (hnews : ∀ w, St w0 O C w → ∀ j u, news[j]? = some u → w.cell? ⟨bx, ox + j, none⟩ = some u) (hl : news.length = m * sz) (h1 : ∀ u ∈ news, u.oneCell' = true)
    (h63 : n + m ≤ maxLen) (hbytes : (n + m) * bytes ≤ 140737488355328)
    (h : ∀ a cap, WA w0 O K N D ((d, .slice a (n + m) cap) :: L) (rowc (.slice a (n + m) cap) (n + m) e sz (xs ++ news) :: C1)) :
    WK P w0 O ops Q ⟨some d, .call { callee := .builtin .append, args := #[s, x], argTypes := #[t, t] }, ty, pos, af, none⟩ K N D L C := by
  obtain ⟨i, z, h1', h2, h3, h4, h5⟩ := hE.row
  exact WL.append hd hE.und h1' h2 h3 h4 h5 hE.pos hs hx hr hnews hl h1 h63 hbytes h

/-- Nothing is appended. -/
theorem WL.append0 {s x : Operand} {t e : TypeId} {sz bytes : Nat} {v : Value} {n : Nat} {xs : List Value} (hE : ElT P t e sz bytes) (hd : Nat.blt d N = true)
    (hs : ev L s = some v) (hx : ev L x = some (.slice none 0 0)) (hm : rowc v n e sz xs ∈ C) (h : WA w0 O K N D ((d, v) :: L) C) :
    WK P w0 O ops Q ⟨some d, .call { callee := .builtin .append, args := #[s, x], argTypes := #[t, t] }, ty, pos, af, none⟩ K N D L C := fun a w hF hS => by
  obtain ⟨i, z, h1', h2, h3, h4, h5⟩ := hE.row
  have hrun := run_append_owned_none (P := P) (w := w) 0 t ty e i sz hE.und h1' v n xs (hS.ok _ hm)
  refine wpo_val rfl ?_ (h _ w (hF.put d _ hd) hS)
  simp only [execOp, resolve, invoke, builtin, Sem.run_bind, Sem.run_pure, Result.andThen_ok, List.map_toArray, List.map_cons, List.map_nil, hF.ev hs, hF.ev hx, hrun]

/-- A nil slice is a row of nothing. -/
theorem St.rowNil {w : World} (hS : St w0 O C w) (e : TypeId) (sz : Nat) : St w0 O (rowc (.slice none 0 0) 0 e sz [] :: C) w :=
  ⟨hS.os, hS.tape, hS.output, hS.size, hS.old, fun x hx => by
    rcases List.mem_cons.1 hx with rfl | hx
    · exact World.ownsRow_nil w 0 e sz
    · exact hS.ok x hx, fun x hx k hk => by
    rcases List.mem_cons.1 hx with rfl | hx
    · cases hk
    · exact hS.bnd x hx k hk, List.Pairwise.cons (fun x hx k hk => by cases hk) hS.disj⟩


/-- An array's literal. -/
structure ArT (P : Program) (t e : TypeId) (n sz : Nat) (zs : List Value) : Prop where
  und : P.underlying t = some (.array n e)
  zero : zeroB P t = some zs
  size : sizeB P e = some sz
theorem Yl.buildA {F : World → Prop} {t e : TypeId} {n sz : Nat} {parts : List (Nat × Operand)} {ps : List (Nat × Value)} {zs cs : List Value} (ht : ArT P t e n sz zs) (hp : evp L parts = some ps) (hb : Built (fun i => some (i * sz, sz)) zs ps cs) : Yl P N D L F ⟨some d, .build t parts.toArray, ty, pos, af, none⟩ (.agg cs.toArray) := fun a w hF _ => by
      have hbu : P.built t ps = some cs.toArray := by
        have h1 := ht.zero
        have h2 := ht.size
        unfold zeroB at h1
        unfold sizeB at h2
        unfold Program.built
        cases hi : P.info? t with
        | none => simp [hi] at h1
        | some it =>
          cases hz : it.zero with
          | none => simp [hi, hz] at h1
          | some z =>
            simp only [hi, hz, Option.bind_some, Option.map_some, Option.some.injEq] at h1
            cases he : P.info? e with
            | none => simp [he] at h2
            | some ie =>
              simp only [he, Option.map_some, Option.some.injEq] at h2
              subst h2
              simp only [ht.und, hz, he]
              have e : z.cells = zs.toArray := by rw [← h1]
              rw [e]
              exact hb.fill
      have := run_build w t ps.toArray cs.toArray (by simpa using hbu)
      simp [execOp, evp_arr hF hp, this]
theorem WL.buildA {t e : TypeId} {n sz : Nat} {parts : List (Nat × Operand)} {ps : List (Nat × Value)} {zs cs : List Value} (ht : ArT P t e n sz zs) (hp : evp L parts = some ps) (hb : Built (fun i => some (i * sz, sz)) zs ps cs) (hd : Nat.blt d N = true)
    (h : WA w0 O K N D ((d, .agg cs.toArray) :: L) C) :
    WK P w0 O ops Q ⟨some d, .build t parts.toArray, ty, pos, af, none⟩ K N D L C := WL.y (F := fun _ => True) (Yl.buildA ht hp hb) hd (fun _ _ => trivial) h
/-- An element of an array's value: one cell; more than one. -/
theorem Yl.indexA1 {F : World → Prop} {t e : TypeId} {n : Nat} {x y : Operand} {cs : List Value} {k : IntKind} {i : Nat} {v : Value} (ht : P.underlying t = some (.array n e)) (he : One P e) (hx : ev L x = some (.agg cs.toArray)) (hy : ev L y = some (.int k i)) (hi : i < n) (hv : cs[i]? = some v) : Yl P N D L F ⟨some d, .index t x y, ty, pos, af, none⟩ (v) := fun a w hF _ => by
      have h1 : (0 : Int) ≤ (i : Int) ∧ (i : Int) < (n : Int) := by omega
      simp [execOp, hF.ev hx, hF.ev hy, Instr.index, run_underlying ht, asIntOf, h1, hi, run_sizeOf he.size, part, run_isAgg he.agg, hv]
theorem WL.indexA1 {t e : TypeId} {n : Nat} {x y : Operand} {cs : List Value} {k : IntKind} {i : Nat} {v : Value} (ht : P.underlying t = some (.array n e)) (he : One P e) (hd : Nat.blt d N = true) (hx : ev L x = some (.agg cs.toArray)) (hy : ev L y = some (.int k i)) (hi : i < n) (hv : cs[i]? = some v)
    (h : WA w0 O K N D ((d, v) :: L) C) :
    WK P w0 O ops Q ⟨some d, .index t x y, ty, pos, af, none⟩ K N D L C := WL.y (F := fun _ => True) (Yl.indexA1 ht he hx hy hi hv) hd (fun _ _ => trivial) h
theorem Yl.indexAN {F : World → Prop} {t e : TypeId} {n m : Nat} {x y : Operand} {cs vs : List Value} {k : IntKind} {i : Nat} (ht : P.underlying t = some (.array n e)) (he : Agg P e m) (hx : ev L x = some (.agg cs.toArray)) (hy : ev L y = some (.int k i)) (hi : i < n) (hv : (cs.drop (i * m)).take m = vs) : Yl P N D L F ⟨some d, .index t x y, ty, pos, af, none⟩ (.agg vs.toArray) := fun a w hF _ => by
      have h1 : (0 : Int) ≤ (i : Int) ∧ (i : Int) < (n : Int) := by omega
      have h2 : cs.toArray.extract (i * m) (i * m + m) = vs.toArray := by
        rw [← hv]
        apply Array.ext'
        simp [List.extract_eq_take_drop]
      simp [execOp, hF.ev hx, hF.ev hy, Instr.index, run_underlying ht, asIntOf, h1, hi, run_sizeOf he.size, part, run_isAgg he.agg, h2, hv]
theorem WL.indexAN {t e : TypeId} {n m : Nat} {x y : Operand} {cs vs : List Value} {k : IntKind} {i : Nat} (ht : P.underlying t = some (.array n e)) (he : Agg P e m) (hd : Nat.blt d N = true) (hx : ev L x = some (.agg cs.toArray)) (hy : ev L y = some (.int k i)) (hi : i < n) (hv : (cs.drop (i * m)).take m = vs)
    (h : WA w0 O K N D ((d, .agg vs.toArray) :: L) C) :
    WK P w0 O ops Q ⟨some d, .index t x y, ty, pos, af, none⟩ K N D L C := WL.y (F := fun _ => True) (Yl.indexAN ht he hx hy hi hv) hd (fun _ _ => trivial) h

theorem WL.buildSlice {t e : TypeId} {sz len : Nat} {parts : List (Nat × Operand)} {ps : List (Nat × Value)} {zs cs : List Value} (ht : SlT P t e sz) (hz : zeroB P e = some zs) (hzl : zs.length = sz) (h0 : Nat.blt 0 (len * sz) = true) (hmax : Nat.ble (len * sz) 16777216 = true)
    (hp : evp L parts = some ps) (hb : Built (fun i => some (i * sz, sz)) ((List.replicate len zs).flatten) ps cs) (hd : Nat.blt d N = true)
    (h : ∀ b, WA w0 O K N D ((d, .slice (some ⟨b, 0, none⟩) len len) :: L) (pt b cs e :: C)) :
    WK P w0 O ops Q ⟨some d, .buildSlice t len parts.toArray, ty, pos, af, none⟩ K N D L C := fun a w hF hS => by
  obtain ⟨z, hz1, hz2⟩ := run_zeroValue hz w
  subst hzl
  have hmax' : ¬ (len * zs.length > 2 ^ 24) := by have := Nat.le_of_ble_eq_true hmax; omega
  have hpos : 0 < len * zs.length := Nat.le_of_ble_eq_true h0
  have hne : ¬ (len * zs.length = 0) := by omega
  have hrep : (Array.range (len * zs.length)).map (zs.toArray[· % zs.toArray.size]!) = ((List.replicate len zs).flatten).toArray := by
    apply Array.ext'
    simp only [Array.toList_map, Array.toList_range, List.size_toArray]
    clear h hp hb hS hF hmax hmax' h0 hne
    have hzp : 0 < zs.length := Nat.pos_of_mul_pos_left hpos |> fun h => by rcases Nat.eq_zero_or_pos zs.length with h0 | h0; (rw [h0] at hpos; simp at hpos); exact h0
    apply List.ext_getElem?
    intro k
    simp only [List.getElem?_map]
    by_cases hk : k < len * zs.length
    · have e1 : (List.range (len * zs.length))[k]? = some k := by simp [hk]
      rw [e1]
      have hkl : ∀ (m k : Nat), k < m * zs.length → ((List.replicate m zs).flatten)[k]? = zs[k % zs.length]? := by
        intro m
        induction m with
        | zero => intro k hk; simp at hk
        | succ m ih =>
          intro k hk
          rw [List.replicate_succ, List.flatten_cons]
          by_cases h1 : k < zs.length
          · rw [List.getElem?_append_left h1, Nat.mod_eq_of_lt h1]
          · rw [List.getElem?_append_right (by omega), ih (k - zs.length) (by rw [Nat.succ_mul] at hk; omega), ← Nat.mod_eq_sub_mod (by omega)]
      simp only [Option.map_some]
      rw [show ((List.replicate len zs).flatten.toArray.toList)[k]? = ((List.replicate len zs).flatten)[k]? by simp, hkl len k hk]
      have hm : k % zs.length < zs.length := Nat.mod_lt _ hzp
      simp [hm]
    · rw [List.getElem?_eq_none (by simpa using hk)]
      simp only [Option.map_none]
      rw [List.getElem?_eq_none]
      simp [List.length_flatten]
      omega
  have hfill := hb.fill
  have hr : (execOp a.eval ⟨some d, .buildSlice t len parts.toArray, ty, pos, af, none⟩).run P w = .ok (.value (.slice (some ⟨w.heap.size, 0, none⟩) len len)) (w.alloc (.cells cs.toArray e)) := by
    simp only [execOp, Instr.buildSlice, evp_arr hF hp, Sem.run_bind, run_underlying ht.und, Result.andThen_ok, run_sizeOf ht.size, if_neg hmax', if_neg hne, hz1, Sem.run_pure, hz2, hrep, hfill, newRow, run_newObj, World.alloc_eq]
  refine wpo_val rfl hr ?_
  exact h w.heap.size _ _ (hF.put d _ hd) (hS.alloc cs e)

/-! slices of strings and of slices -/
theorem run_bound {w : World} {k : IntKind} {i y : Nat} {code : BoundsCode} (h : i ≤ y) : (Instr.sliceBound (.int k (i : Int)) y code).run P w = .ok i w := by
  have h1 : (0 : Int) ≤ (i : Int) ∧ (i : Int) ≤ (y : Int) := by omega
  simp [Instr.sliceBound, asIntOf, h1, h]
theorem Yl.sliceTo {F : World → Prop} {t : TypeId} {x y : Operand} {l : List UInt8} {k : IntKind} {n : Nat} (ht : P.underlying t = some .string) (hx : ev L x = some (.string (str l))) (hy : ev L y = some (.int k n)) (hn : n ≤ l.length) :
    Yl P N D L F ⟨some d, .slice t x none (some y) none, ty, pos, af, none⟩ (.string (str (l.take n))) := fun a w hF _ => by
  have h1 := run_bound (P := P) (w := w) (k := k) (i := n) (y := (str l).size) (code := .sliceAlen) (by rw [str_size]; exact hn)
  have h2 : (str l).extract 0 n = str (l.take n) := by rw [str_extract]; simp
  simp only [execOp, Instr.sliceAt, Instr.slice, Instr.sliceBounds, hF.ev hx, hF.ev hy, Option.map_some, Option.map_none, run_underlying ht, Sem.run_bind, Sem.run_pure, Result.andThen_ok, Option.isSome_none, Bool.false_eq_true, if_false, h1, h2]
theorem Yl.sliceFrom {F : World → Prop} {t : TypeId} {x y : Operand} {l : List UInt8} {k : IntKind} {n : Nat} (ht : P.underlying t = some .string) (hx : ev L x = some (.string (str l))) (hy : ev L y = some (.int k n)) (hn : n ≤ l.length) :
    Yl P N D L F ⟨some d, .slice t x (some y) none none, ty, pos, af, none⟩ (.string (str (l.drop n))) := fun a w hF _ => by
  have h1 := run_bound (P := P) (w := w) (k := k) (i := n) (y := (str l).size) (code := .sliceB) (by rw [str_size]; exact hn)
  have h2 : (str l).extract n (str l).size = str (l.drop n) := by rw [str_extract, str_size, List.take_of_length_le (by simp)]
  simp only [execOp, Instr.sliceAt, Instr.slice, Instr.sliceBounds, hF.ev hx, hF.ev hy, Option.map_some, Option.map_none, run_underlying ht, Sem.run_bind, Sem.run_pure, Result.andThen_ok, Option.isSome_none, Bool.false_eq_true, if_false, h1, h2]
theorem Yl.sliceFT {F : World → Prop} {t : TypeId} {x y z : Operand} {l : List UInt8} {k k' : IntKind} {m n : Nat} (ht : P.underlying t = some .string) (hx : ev L x = some (.string (str l))) (hy : ev L y = some (.int k m)) (hz : ev L z = some (.int k' n)) (hm : m ≤ n) (hn : n ≤ l.length) :
    Yl P N D L F ⟨some d, .slice t x (some y) (some z) none, ty, pos, af, none⟩ (.string (str ((l.drop m).take (n - m)))) := fun a w hF _ => by
  have h0 := run_bound (P := P) (w := w) (k := k') (i := n) (y := (str l).size) (code := .sliceAlen) (by rw [str_size]; exact hn)
  have h1 := run_bound (P := P) (w := w) (k := k) (i := m) (y := n) (code := .sliceB) hm
  simp only [execOp, Instr.sliceAt, Instr.slice, Instr.sliceBounds, hF.ev hx, hF.ev hy, hF.ev hz, Option.map_some, Option.map_none, run_underlying ht, Sem.run_bind, Sem.run_pure, Result.andThen_ok, Option.isSome_none, Bool.false_eq_true, if_false, h0, h1, str_extract]
/-- x[:n] of a slice. -/
theorem Yl.sliceSlTo {F : World → Prop} {t e : TypeId} {sz : Nat} {x y : Operand} {a0 : Option Addr} {len cap n : Nat} {k : IntKind} (ht : SlT P t e sz) (hx : ev L x = some (.slice a0 len cap)) (hy : ev L y = some (.int k n)) (hn : n ≤ cap) :
    Yl P N D L F ⟨some d, .slice t x none (some y) none, ty, pos, af, none⟩ (.slice a0 n cap) := fun a w hF _ => by
  have h1 := run_bound (P := P) (w := w) (k := k) (i := n) (y := cap) (code := .sliceAcap) hn
  by_cases hc : cap = 0
  · subst hc
    simp [execOp, Instr.sliceAt, Instr.slice, Instr.sliceBounds, hF.ev hx, hF.ev hy, run_underlying ht.und, h1, run_sizeOf ht.size]
  · cases a0 with
    | none => simp [execOp, Instr.sliceAt, Instr.slice, Instr.sliceBounds, hF.ev hx, hF.ev hy, run_underlying ht.und, h1, run_sizeOf ht.size]
    | some a1 => simp [execOp, Instr.sliceAt, Instr.slice, Instr.sliceBounds, hF.ev hx, hF.ev hy, run_underlying ht.und, h1, run_sizeOf ht.size, hc, Addr.add]
end
end Go.Eng

