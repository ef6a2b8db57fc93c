import Derived.Test.YtkgllhkhdjodeaaGreatEng6
set_option linter.unusedSimpArgs false
set_option linter.unusedVariables false
namespace Go.Eng
open Go Go.RowKit
section
variable {P : Program} {w0 : World} {O : List Nat} {ops : Array Oper} {Q : Exit → Act → World → Prop} {N : Nat} {D : List Deferred} {L : FL} {C : List Chunk} {K : Act → World → Prop}
variable {d : Nat} {ty : TypeId} {pos : String} {af : Array Edge}

/-- Calls by the shape of their contracts. -/
theorem WL.call1A {β : Type} {f : FuncId} {xs : List Operand} {tys : Array TypeId} {vs : List Value} {res : β → Value} {c1 c2 : β → Chunk} {b : Nat} {bs : List Value} {e : TypeId} {C1 : List Chunk}
    (hf : funB P f = some true) (hd : Nat.blt d N = true) (hx : evs L xs = some vs) (hr : Rem (pt b bs e) C C1)
    (hc : ∀ w, St w0 O C w → Calls P f vs.toArray w fun e w' => ∃ x, e = .returned (res x) ∧ St w [b] [c1 x, c2 x] w')
    (h : ∀ x, WA w0 O K N D ((d, res x) :: L) (c1 x :: c2 x :: C1)) :
    WK P w0 O ops Q ⟨some d, .call { callee := .value (.func f), args := xs.toArray, argTypes := tys }, ty, pos, af, none⟩ K N D L C :=
  WL.call1 (β := β) (res := fun x => .returned (res x)) (cs := fun x => [c1 x, c2 x]) (ψ := fun _ => True) hf (fun d' e => by cases e; exact hd) hx hr
    (fun w hS => (hc w hS).mono fun e w' ⟨x, h1, h2⟩ => ⟨x, trivial, h1, h2⟩) (fun x _ => h x)
theorem WL.call1N {f : FuncId} {xs : List Operand} {tys : Array TypeId} {vs : List Value} {v : Value} {b : Nat} {bs bs' : List Value} {e : TypeId} {C1 : List Chunk}
    (hf : funB P f = some true) (hx : evs L xs = some vs) (hr : Rem (pt b bs e) C C1)
    (hc : ∀ w, St w0 O C w → Calls P f vs.toArray w fun en w' => en = .returned v ∧ St w [b] [pt b bs' e] w') (h : WA w0 O K N D L (pt b bs' e :: C1)) :
    WK P w0 O ops Q ⟨none, .call { callee := .value (.func f), args := xs.toArray, argTypes := tys }, ty, pos, af, none⟩ K N D L C :=
  WL.call1 (β := Unit) (res := fun _ => .returned v) (cs := fun _ => [pt b bs' e]) (ψ := fun _ => True) hf (fun d' e => by cases e) hx hr
    (fun w hS => (hc w hS).mono fun e w' ⟨h1, h2⟩ => ⟨(), trivial, h1, h2⟩) (fun _ _ => h)
theorem WL.call1S {f : FuncId} {xs : List Operand} {tys : Array TypeId} {vs : List Value} {v : Value} {b : Nat} {bs bs' : List Value} {e : TypeId} {C1 : List Chunk}
    (hf : funB P f = some true) (hd : Nat.blt d N = true) (hx : evs L xs = some vs) (hr : Rem (pt b bs e) C C1)
    (hc : ∀ w, St w0 O C w → Calls P f vs.toArray w fun en w' => en = .returned v ∧ St w [b] [pt b bs' e] w') (h : WA w0 O K N D ((d, v) :: L) (pt b bs' e :: C1)) :
    WK P w0 O ops Q ⟨some d, .call { callee := .value (.func f), args := xs.toArray, argTypes := tys }, ty, pos, af, none⟩ K N D L C :=
  WL.call1V hf hd hx hr hc h
theorem WL.call1P {f : FuncId} {xs : List Operand} {tys : Array TypeId} {vs : List Value} {ch : List PanicEntry} {dst : Option Tmp} {b : Nat} {bs : List Value} {e : TypeId} {C1 : List Chunk}
    (hf : funB P f = some true) (hd : ∀ d, dst = some d → Nat.blt d N = true) (hx : evs L xs = some vs) (hr : Rem (pt b bs e) C C1)
    (hc : ∀ w, St w0 O C w → Calls P f vs.toArray w fun en w' => en = .panicked ch ∧ ∃ cs, St w [b] [pt b cs e] w') (h : ∀ cs, WQ w0 O Q (.panic ch) N D L (pt b cs e :: C1)) :
    WK P w0 O ops Q ⟨dst, .call { callee := .value (.func f), args := xs.toArray, argTypes := tys }, ty, pos, af, none⟩ K N D L C :=
  WL.call1 (β := List Value) (res := fun _ => .panicked ch) (cs := fun cs => [pt b cs e]) (ψ := fun _ => True) hf hd hx hr
    (fun w hS => (hc w hS).mono fun e w' ⟨h1, cs, h2⟩ => ⟨cs, trivial, h1, h2⟩) (fun cs _ => h cs)

theorem St.pick {w : World} {c : Chunk} {C1 : List Chunk} (h : St w0 O C w) (hr : Rem c C C1) : St w0 O (c :: C1) w := h.perm hr.perm

/-- The value of a tree. -/
abbrev tv (t : Tree) (a : Option Addr) (c : Nat) : Value := .agg [.int .u8 t.op, .string (str t.name), .slice a t.kids.length c].toArray

theorem St.rowOf {w : World} {b n : Nat} {cs : List Value} {e : TypeId} {sz : Nat} (h : St w0 O (pt b cs e :: C) w) (hl : cs.length = n * sz) (hn : n ≤ maxLen) : St w0 O (rowc (.slice (some ⟨b, 0, none⟩) n n) n e sz cs :: C) w :=
  h.swap (rowc_of_pt hl hn) (fun k hk => by simpa [rowc, Value.ownBlock, pt, eq_comm] using hk)

theorem St.node0 {w : World} (op : Int) (name : List UInt8) (h : St w0 O C w) : St w0 O (own [] (.mk op name []) (.agg #[.int .u8 op, .string (str name), .slice none 0 0]) :: C) w :=
  ⟨h.os, h.tape, h.output, h.size, h.old, fun x hx => by
    rcases List.mem_cons.1 hx with rfl | hx
    · refine ⟨List.nodup_nil, ?_⟩
      simp only [rdT]
      exact ⟨_, rfl, .inl ⟨trivial, trivial, none, 0, rfl⟩⟩
    · exact h.ok x hx, fun x hx k hk => by
    rcases List.mem_cons.1 hx with rfl | hx
    · cases hk
    · exact h.bnd x hx k hk, List.Pairwise.cons (fun x hx k hk => by cases hk) h.disj⟩

theorem St.node1 {w : World} {b : Nat} {e : TypeId} {F1 : List Nat} {t1 : Tree} {a1 : Option Addr} {c1 : Nat} (op : Int) (h : St w0 O (pt b [.int .u8 t1.op, .string (str t1.name), .slice a1 t1.kids.length c1] e :: own F1 t1 (tv t1 a1 c1) :: C) w) :
    ∃ F, St w0 O (own F (.mk op [] [t1]) (.agg #[.int .u8 op, .string (str []), .slice (some ⟨b, 0, none⟩) 1 1]) :: C) w := by
  have h1 := h.rowOf (n := 1) (sz := 3) rfl (by decide)
  have h2 := (h1.perm (List.Perm.swap _ _ _)).ownNil
  have h3 := (St.ownSnoc (C := rowc _ _ _ _ _ :: C) (F := []) (ts := []) (vs := []) h2)
  have h4 := h3.perm (List.Perm.swap _ _ _)
  exact St.ownNode op [] rfl (a := some ⟨b, 0, none⟩) (n := 1) (cap := 1) (e := e) (vs := [tv t1 a1 c1]) (by simpa [flat, tv, Value.cells] using h4)

theorem St.node2 {w : World} {b : Nat} {e : TypeId} {F1 F2 : List Nat} {t1 t2 : Tree} {a1 a2 : Option Addr} {c1 c2 : Nat} (op : Int)
    (h : St w0 O (pt b [.int .u8 t1.op, .string (str t1.name), .slice a1 t1.kids.length c1, .int .u8 t2.op, .string (str t2.name), .slice a2 t2.kids.length c2] e :: own F1 t1 (tv t1 a1 c1) :: own F2 t2 (tv t2 a2 c2) :: C) w) :
    ∃ F, St w0 O (own F (.mk op [] [t1, t2]) (.agg #[.int .u8 op, .string (str []), .slice (some ⟨b, 0, none⟩) 2 2]) :: C) w := by
  have h1 := h.rowOf (n := 2) (sz := 3) rfl (by decide)
  have h2 := (h1.perm ((List.Perm.swap _ _ _).trans (List.Perm.cons _ (List.Perm.swap _ _ _)))).ownNil
  have h3 := St.ownSnoc (F := []) (ts := []) (vs := []) h2
  have h4 := St.ownSnoc h3
  have h5 := h4.perm (List.Perm.swap _ _ _)
  exact St.ownNode op [] rfl (a := some ⟨b, 0, none⟩) (n := 2) (cap := 2) (e := e) (vs := [tv t1 a1 c1, tv t2 a2 c2]) (by simpa [flat, tv, Value.cells] using h5)

theorem St.node3 {w : World} {b : Nat} {e : TypeId} {F1 F2 F3 : List Nat} {t1 t2 t3 : Tree} {a1 a2 a3 : Option Addr} {c1 c2 c3 : Nat} (op : Int)
    (h : St w0 O (pt b [.int .u8 t1.op, .string (str t1.name), .slice a1 t1.kids.length c1, .int .u8 t2.op, .string (str t2.name), .slice a2 t2.kids.length c2, .int .u8 t3.op, .string (str t3.name), .slice a3 t3.kids.length c3] e :: own F1 t1 (tv t1 a1 c1) :: own F2 t2 (tv t2 a2 c2) :: own F3 t3 (tv t3 a3 c3) :: C) w) :
    ∃ F, St w0 O (own F (.mk op [] [t1, t2, t3]) (.agg #[.int .u8 op, .string (str []), .slice (some ⟨b, 0, none⟩) 3 3]) :: C) w := by
  have h1 := h.rowOf (n := 3) (sz := 3) rfl (by decide)
  have h2 := (h1.perm ((List.Perm.swap _ _ _).trans (List.Perm.cons _ ((List.Perm.swap _ _ _).trans (List.Perm.cons _ (List.Perm.swap _ _ _)))))).ownNil
  have h3 := St.ownSnoc (F := []) (ts := []) (vs := []) h2
  have h4 := St.ownSnoc h3
  have h4' := St.ownSnoc h4
  have h5 := h4'.perm (List.Perm.swap _ _ _)
  exact St.ownNode op [] rfl (a := some ⟨b, 0, none⟩) (n := 3) (cap := 3) (e := e) (vs := [tv t1 a1 c1, tv t2 a2 c2, tv t3 a3 c3]) (by simpa [flat, tv, Value.cells] using h5)

theorem own_val {w : World} {F : List Nat} {t : Tree} {v : Value} (h : (own F t v).ok w) : ∃ a c, v = tv t a c := by
  obtain ⟨a, n, c, hv, hn⟩ := rdT_val h.2
  exact ⟨a, c, by rw [hv, hn]⟩
end
end Go.Eng

