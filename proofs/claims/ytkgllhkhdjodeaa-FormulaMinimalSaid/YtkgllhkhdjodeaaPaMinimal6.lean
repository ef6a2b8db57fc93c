import Derived.Test.YtkgllhkhdjodeaaPaMinimal5
import Derived.RangeFuncOwn
import Derived.RangeFuncLeaves
import Derived.RangeFuncSeq
import Derived.OrdersIn
import Derived.TacticsIn
set_option linter.unusedSimpArgs false
set_option linter.unusedVariables false
/-
  A range over a function: the statement, its rounds, the functions that yield. By an AI agent.
-/
namespace Go.Eng
open Go Go.RowKit Go.Proofs.Ytkgllhkhdjodeaa
/-! ### from the plain calculus to a round's -/
abbrev FR (l : Nat) : Fence := Fence.wide.inRound l
def isDefer : Op → Bool
  | .defer _ => true
  | _ => false
theorem not_defer {op : Op} (h : isDefer op = false) : ∀ c, op ≠ .defer c := fun c e => by rw [e] at h; cases h
section
variable {P : Program} {ops : Array Oper} {Q : Exit → Act → World → Prop} {n : Nat}
theorem rowsIn_wide {row : String} {args : Array Value} {w : World} {R : Value → World → Prop} (h : Rows P row args w R) : RowsIn Fence.wide n P row args w R := fun c cs _ => by
  obtain ⟨v, w', h1, h2⟩ := h c cs
  exact ⟨v, w', h1, stepsIn_wide.2 h2⟩
theorem upon_in {F : Fence} (hF : F = Fence.wide ∨ ∃ l, F = FR l) {o : Oper} {a : Act} {K : Act → World → Prop} {r : Result Next} (h : o.upon P a K Q r) : o.uponIn F n P a K Q r := by
  have hc : ∀ {m : Nat} {f : FuncId} {args : Array Value} {w : World} {R : Ending → World → Prop}, Calls P f args w R → CallsIn F m P f args w R := fun {m} {f} {args} {w} {R} h => by
    rcases hF with rfl | ⟨l, rfl⟩
    · exact callsIn_wide.2 h
    · exact callsIn_wide.2 h
  have hr : ∀ {m : Nat} {row : String} {args : Array Value} {w : World} {R : Value → World → Prop}, Rows P row args w R → RowsIn F m P row args w R := fun {m} {row} {args} {w} {R} h => by
    rcases hF with rfl | ⟨l, rfl⟩
    · exact rowsIn_wide h
    · exact rowsIn_wide h
  have hd : F.depth.isSome = true → 1 ≤ n := by
    rcases hF with rfl | ⟨l, rfl⟩ <;> (intro h; cases h)
  cases r with
  | ok x w' =>
    cases x <;> simp only [Oper.upon] at h <;> first
      | exact h
      | exact ⟨hd, hc h⟩
      | exact ⟨hd, hr h⟩
      | exact h.elim
  | halt x w' => cases x <;> first | exact h | exact h.elim
theorem semAt_nd {ρ : Operand → Value} {o : Oper} {ro : Option Nat} (h : isDefer o.op = false) : Oper.semAt ro ρ o = execOp ρ o := Oper.semAt_eq ro ρ o (not_defer h)
theorem fn_in {F : Fence} (hF : F = Fence.wide ∨ ∃ l, F = FR l) (f : FuncId) : F.fn f := by
  rcases hF with rfl | ⟨l, rfl⟩ <;> trivial
theorem oper_in {F : Fence} (hF : F = Fence.wide ∨ ∃ l, F = FR l) {o : Oper} {a : Act} {w : World} {K : Act → World → Prop} (hd : isDefer o.op = false) (h : o.wp P a w K Q) : o.wpIn F n P a w K Q :=
  ⟨fun f _ => fn_in hF f, by rw [semAt_nd hd]; exact upon_in hF h⟩
theorem wpO_in {F : Fence} (hF : F = Fence.wide ∨ ∃ l, F = FR l) {o : Oper} {rest : List Oper} {a : Act} {w : World} (hd : isDefer o.op = false) (hQ : ¬ LetsOut Q) (h : wpO P ops Q o (wpListIn F n P ops Q rest) a w) : wpListIn F n P ops Q (o :: rest) a w := by
  unfold wpO at h
  unfold wpListIn
  split at h
  · rename_i hw
    rw [if_pos hw]
    rcases h with h | ⟨_, h⟩
    · exact oper_in hF hd h
    · exact absurd h hQ
  · rename_i hw
    rw [if_neg hw]
    exact ⟨fun f _ => fn_in hF f, h⟩
theorem list_in {F : Fence} (hF : F = Fence.wide ∨ ∃ l, F = FR l) (hQ : ¬ LetsOut Q) : ∀ (l : List Oper) (a : Act) (w : World), (l.all fun o => !isDefer o.op) = true → wpList P ops Q l a w → wpListIn F n P ops Q l a w
  | [], _, _, _, h => h
  | o :: rest, a, w, hd, h => by
    simp only [List.all_cons, Bool.and_eq_true, Bool.not_eq_true'] at hd
    unfold wpListIn
    unfold wpList at h
    split at h
    · rename_i hw
      rw [if_pos hw]
      rcases h with h | ⟨_, h⟩
      · exact Oper.wpIn_mono (fun a w h => list_in hF hQ rest a w hd.2 h) (oper_in hF hd.1 h)
      · exact absurd h hQ
    · rename_i hw
      rw [if_neg hw]
      exact ⟨fun f _ => fn_in hF f, list_in hF hQ rest _ _ hd.2 h⟩
theorem any_in {F : Fence} (hF : F = Fence.wide ∨ ∃ l, F = FR l) (hQ : ¬ LetsOut Q) (hd : (ops.toList.all fun o => !isDefer o.op) = true) : ∀ (fuel : Nat) (listed : Array Bool) (a : Act) (w : World), wpAny P .any ops Q fuel listed a w → wpAnyIn F n P .any ops Q fuel listed a w
  | 0, _, _, _, h => h
  | fuel + 1, listed, a, w, h => ⟨h.1, fun i hi => by
    have h1 := h.2 i hi
    unfold wpOp at h1
    unfold wpOpIn
    split at h1
    · rename_i ho; simp only [ho]; exact any_in hF hQ hd fuel _ _ _ h1
    · rename_i o ho
      simp only [ho]
      have hdo : isDefer o.op = false := by
        have := List.all_eq_true.1 hd o (by rw [← Array.getElem?_toList] at ho; exact List.mem_of_getElem? ho)
        simpa using this
      split at h1
      · rename_i hw
        rw [if_pos hw]
        rcases h1 with h1 | ⟨_, h1⟩
        · exact Oper.wpIn_mono (fun a w h => any_in hF hQ hd fuel _ a w h) (oper_in hF hdo h1)
        · exact absurd h1 hQ
      · rename_i hw
        rw [if_neg hw]
        exact ⟨fun f _ => fn_in hF f, any_in hF hQ hd fuel _ _ _ h1⟩⟩
end
/-! ### the control of a round -/
section
variable {P : Program} {w0 : World} {O : List Nat} {ops : Array Oper} {Q : Exit → Act → World → Prop} {N : Nat} {D : List Deferred} {L : FL} {C : List Chunk} {K : Act → World → Prop}
def WI (P : Program) (l : Nat) (w0 : World) (O : List Nat) (c : Code) (Q : Exit → Act → World → Prop) (N : Nat) (D : List Deferred) (L : FL) (C : List Chunk) : Prop :=
  ∀ a w, Fr N D L a → St w0 O C w → c.wpIn (FR l) 0 P Q a w
variable {l : Nat}
theorem WI.seq {x y : Code} (h : WI P l w0 O x (Exit.then (y.wpIn (FR l) 0 P Q) Q) N D L C) : WI P l w0 O (.seq x y) Q N D L C := fun a w hF hS => wpIn_seq (h a w hF hS)
theorem WI.skip (h : WQ w0 O Q .normal N D L C) : WI P l w0 O .skip Q N D L C := fun a w hF hS => wpIn_skip (h a w hF hS)
theorem WI.label {i : Nat} (h : WQ w0 O Q .normal N D L C) : WI P l w0 O (.label i) Q N D L C := fun a w hF hS => wpIn_label (h a w hF hS)
theorem WI.ret (h : WQ w0 O Q .ret N D L C) : WI P l w0 O .ret Q N D L C := fun a w hF hS => wpIn_ret (h a w hF hS)
theorem WI.exit {i : Nat} (h : WQ w0 O Q (.exit i) N D L C) : WI P l w0 O (.exit i) Q N D L C := fun a w hF hS => wpIn_exit (h a w hF hS)
theorem WI.block {i : Nat} {c : Code} (h : WI P l w0 O c (Exit.inBlock i Q) N D L C) : WI P l w0 O (.block i c) Q N D L C := fun a w hF hS => wpIn_block (h a w hF hS)
theorem WI.region {i : Nat} {r : List Oper} (hQ : ¬ LetsOut Q) (hd : (r.all fun o => !isDefer o.op) = true) (h : WA w0 O (wpList P r.toArray Q r) N D L C) : WI P l w0 O (.region i r.toArray false) Q N D L C := fun a w hF hS =>
  wpIn_region_lit (list_in (.inr ⟨l, rfl⟩) hQ r a w hd (h a w hF hS))
theorem WI.cond {c : Operand} {x y : Code} {t : Bool} (hc : ev L c = some (.bool t)) (ht : t = true → WI P l w0 O x Q N D L C) (hf : t = false → WI P l w0 O y Q N D L C) :
    WI P l w0 O (.cond c x y) Q N D L C := fun a w hF hS => wpIn_cond_split (hF.ev hc) (fun h => ht h a w hF hS) (fun h => hf h a w hF hS)
theorem WI.condT {c : Operand} {x y : Code} (hc : ev L c = some (.bool true)) (h : WI P l w0 O x Q N D L C) : WI P l w0 O (.cond c x y) Q N D L C :=
  fun a w hF hS => wpIn_cond_true (hF.ev hc) (h a w hF hS)
theorem WI.condF {c : Operand} {x y : Code} (hc : ev L c = some (.bool false)) (h : WI P l w0 O y Q N D L C) : WI P l w0 O (.cond c x y) Q N D L C :=
  fun a w hF hS => wpIn_cond_false (hF.ev hc) (h a w hF hS)
theorem WI.chunks {c : Code} {C' : List Chunk} (hs : ∀ w, St w0 O C w → St w0 O C' w) (h : WI P l w0 O c Q N D L C') : WI P l w0 O c Q N D L C := fun a w hF hS => h a w hF (hs w hS)
theorem WI.know {c : Code} {φ : Prop} (hs : ∀ w, St w0 O C w → φ) (h : φ → WI P l w0 O c Q N D L C) : WI P l w0 O c Q N D L C := fun a w hF hS => h (hs w hS) a w hF hS
/-- A region that draws, in a round. -/
theorem WI.drawsL {id : Nat} {r : List Oper} {Fs : List (List Nat × (World → Prop))} (hQ : ¬ LetsOut Q) (hd : (r.all fun o => !isDefer o.op) = true) (hm : P.follows .mixedOrders = true) (hF : FactsOk w0 O L C Fs)
    (h : WD P w0 O r.toArray Q Fs r.length (Array.replicate r.length false) N D L C) : WI P l w0 O (.region id r.toArray true) Q N D L C := fun a w hFr hS => by
  refine wpIn_region_any hm (any_in (.inr ⟨l, rfl⟩) hQ (by simpa using hd) _ _ _ _ (wpAny_of_T (Fs := Fs) _ _ _ _ ?_))
  have hc : Closed r.toArray (Array.replicate r.length false) := by
    intro j oj _ hl
    rcases Nat.lt_or_ge j r.length with h' | h'
    · simp [h'] at hl
    · simp [h'] at hl
  have hS' : St w0 O C { w with drawn := w.drawn + 1 } := ⟨hS.os, hS.tape, hS.output, hS.size, hS.old, fun c hc => c.loc w _ (fun _ _ => rfl) (hS.ok c hc), hS.bnd, hS.disj⟩
  have h1 := h hc a { w with drawn := w.drawn + 1 } hFr hS' (fun f hf _ => hF _ hS' f hf)
  simpa using h1
/-! ### a region that yields -/
theorem WC.regionIn {i : Nat} {r : List Oper} (h : WA w0 O (wpListIn Fence.wide 0 P r.toArray Q r) N D L C) : WC P w0 O (.region i r.toArray false) Q N D L C := fun a w hF hS =>
  wpIn_wide.1 (wpIn_region_lit (h a w hF hS))
theorem WIL.nil (h : WQ w0 O Q .normal N D L C) : WA w0 O (wpListIn Fence.wide 0 P ops Q []) N D L C := fun a w hF hS => h a w hF hS
theorem WIL.step {o : Oper} {rest : List Oper} (hQ : ¬ LetsOut Q) (hd : isDefer o.op = false) (h : WK P w0 O ops Q o (wpListIn Fence.wide 0 P ops Q rest) N D L C) : WA w0 O (wpListIn Fence.wide 0 P ops Q (o :: rest)) N D L C := fun a w hF hS =>
  wpO_in (.inl rfl) hd hQ (h a w hF hS)
theorem WIL.guardT {o : Oper} {rest : List Oper} {j : Nat} {g : Bool} {dj : Nat} (hgd : o.guard = some (j, g)) (hj : (ops[j]?).bind (·.dst) = some dj) (hv : lk L dj = some (.bool g))
    (h : WA w0 O (wpListIn Fence.wide 0 P ops Q ({ o with guard := none } :: rest)) N D L C) : WA w0 O (wpListIn Fence.wide 0 P ops Q (o :: rest)) N D L C := fun a w hF hS => by
  have h' := h a w hF hS
  have hw : Region.wanted o (yielded ops a.tmps) = true := by
    have := hF.get dj _ hv
    simp [Region.wanted, hgd, yielded, hj, this]
  unfold wpListIn at h' ⊢
  rw [if_pos hw]
  rw [if_pos (by simp [Region.wanted])] at h'
  exact h'
variable {d : Nat} {ty : TypeId} {pos : String} {af : Array Edge}
theorem WIL.yield {β : Type} {b : Bool} {rest : List Oper} {x : Operand} {xs : List Operand} {tys : Array TypeId} {vs : List Value} {cs : β → List Chunk} {Cs C1 : List Chunk} {O' : List Nat} {φ : β → Prop}
    (hd : Nat.blt d N = true) (hfv : ev L x = some (.func (.yield l) #[] #[])) (hx : evs L xs = some vs) (hp : C.Perm (Cs ++ C1)) (hO1 : ∀ c ∈ Cs, ∀ k, c.fp k → k ∈ O') (hO2 : ∀ k ∈ O', ∃ c ∈ Cs, c.fp k)
    (hc : ∀ w, St w0 O (Cs ++ C1) w → St w O' Cs w → YieldAt Fence.wide 0 P l vs.toArray w fun e w' => e = .returned (.bool b) ∧ ∃ x, φ x ∧ St w O' (cs x) w')
    (h : ∀ x, φ x → WA w0 O (wpListIn Fence.wide 0 P ops Q rest) N D ((d, .bool b) :: L) (cs x ++ C1)) :
    WA w0 O (wpListIn Fence.wide 0 P ops Q (⟨some d, .call { callee := .value x, args := xs.toArray, argTypes := tys }, ty, pos, af, none⟩ :: rest)) N D L C := fun a w hF hS => by
  have ha : xs.toArray.map a.eval = vs.toArray := by apply Array.ext'; simp [hF.evs hx]
  have hS1 := hS.perm hp
  obtain ⟨fn, tmps, assign, body, hy, hR⟩ := hc w hS1 (hS1.focus hO1)
  unfold wpListIn
  rw [if_pos (by simp [Region.wanted])]
  refine ⟨fun f _ => trivial, ?_⟩
  have e1 : (Oper.semAt Fence.wide.round a.eval ⟨some d, .call { callee := .value x, args := xs.toArray, argTypes := tys }, ty, pos, af, none⟩).run P w = .ok (.round l fn tmps assign body) w := by
    rw [semAt_nd rfl]
    simp [execOp, resolve, Deferred.ofValue, hF.ev hfv, invoke, ha, hy]
  rw [e1]
  refine ⟨fun h => (by cases h), hR.mono ?_⟩
  rintro e w' ⟨rfl, y, hφ, hS'⟩
  exact h y hφ _ w' (hF.put d _ hd) (hS1.callC hS' hO2)
end
/-! ### the statement -/
/-- One block that is no row of cells. -/
def ob1 (b : Nat) (o : Obj) : Chunk where
  fp k := k = b
  ok w := w.heap[b]? = some o
  loc w w' h hw := by rw [h b rfl]; exact hw
theorem FpIs.ob1 {b : Nat} {o : Obj} : FpIs (ob1 b o) [b] := fun k => by simp [Eng.ob1]
section
variable {P : Program} {w0 : World} {O : List Nat} {ops : Array Oper} {Q : Exit → Act → World → Prop} {N : Nat} {D : List Deferred} {L : FL} {C : List Chunk} {K : Act → World → Prop}
theorem St.allocO {w : World} (h : St w0 O C w) (o : Obj) : St w0 O (ob1 w.heap.size o :: C) (w.alloc o) := by
  have hh : ∀ k, k < w.heap.size → (w.alloc o).heap[k]? = w.heap[k]? := fun k hk => Below.heap_alloc w _ k hk
  refine ⟨h.os, h.tape, h.output, by have := h.size; simp; omega, fun k hk ho => ?_, ?_, ?_, ?_⟩
  · rw [hh k (Nat.lt_of_lt_of_le hk h.size)]; exact h.old k hk ho
  · intro c hc
    rcases List.mem_cons.1 hc with rfl | hc
    · exact World.alloc_heap_new w o
    · exact c.loc w _ (fun k hk => hh k (h.bnd c hc k hk).1) (h.ok c hc)
  · intro c hc k hk
    rcases List.mem_cons.1 hc with rfl | hc
    · have : k = w.heap.size := hk
      subst this
      exact ⟨by simp, fun hlt => absurd hlt (Nat.not_lt.2 h.size)⟩
    · exact ⟨by have := (h.bnd c hc k hk).1; simp; omega, (h.bnd c hc k hk).2⟩
  · refine List.Pairwise.cons (fun c hc k hk hk' => ?_) h.disj
    have : k = w.heap.size := hk
    subst this
    exact Nat.lt_irrefl _ (h.bnd c hc _ hk').1
theorem St.putO {w : World} {b : Nat} {o : Obj} (h : St w0 O (ob1 b o :: C) w) (o' : Obj) : St w0 O (ob1 b o' :: C) (w.putObj b o') := by
  have hb : b < w.heap.size := lt_of_heap (h.ok _ (List.mem_cons_self ..))
  have hbn := h.bnd _ (List.mem_cons_self ..) b rfl
  have hd := List.pairwise_cons.1 h.disj
  refine ⟨h.os, h.tape, h.output, by rw [World.putObj_size]; exact h.size, fun k hk ho => ?_, ?_, ?_, List.Pairwise.cons hd.1 hd.2⟩
  · rw [World.putObj_heap_other (fun e => by subst e; exact ho (hbn.2 hk))]; exact h.old k hk ho
  · intro c hc
    rcases List.mem_cons.1 hc with rfl | hc9
    · exact World.putObj_heap_same hb
    · exact c.loc w _ (fun k hk => World.putObj_heap_other (fun e => hd.1 c hc9 b rfl (e ▸ hk))) (h.ok c (List.mem_cons_of_mem _ hc9))
  · intro c hc k hk
    rw [World.putObj_size]
    rcases List.mem_cons.1 hc with rfl | hc
    · exact h.bnd _ (List.mem_cons_self ..) k hk
    · exact h.bnd c (List.mem_cons_of_mem _ hc) k hk
/-- What a round begins with. -/
def putL : List Nat → List Value → FL → FL
  | p :: ps, v :: vs, L => putL ps vs ((p, v) :: L)
  | _, _, L => L
theorem Fr.putL {Dd : List Deferred} : ∀ (ps : List Nat) (vs : List Value) {L : FL} {t : Array Value}, (ps.all fun p => Nat.blt p N) = true → Fr N Dd L { tmps := t, defers := Dd } →
    Fr N Dd (Eng.putL ps vs L) { tmps := (ps.zip vs).foldl (fun t (q : Nat × Value) => t.setIfInBounds q.1 q.2) t, defers := Dd }
  | [], _, _, _, _, h => by simpa [Eng.putL] using h
  | _ :: _, [], _, _, _, h => by simpa [Eng.putL] using h
  | p :: ps, v :: vs, L, t, hp, h => by
    simp only [List.all_cons, Bool.and_eq_true] at hp
    simp only [Eng.putL, List.zip_cons_cons, List.foldl_cons]
    exact Fr.putL ps vs hp.2 (h.put p v hp.1)
/-- How a round ends: on it goes. -/
def rdPost (G : Prop → Prop) (w1 : World) (O : List Nat) {σ : Type} (I : σ → Prop) (J : σ → List Chunk) : Exit → Act → World → Prop
  | .normal, _, w => ∃ y, I y ∧ St w1 O (J y) w
  | _, _, _ => False
theorem WQ.round {G : Prop → Prop} {σ : Type} {I : σ → Prop} {J : σ → List Chunk} (y : σ) (hI : I y) (h : ∀ w, St w0 O C w → St w0 O (J y) w) : WQ w0 O (rdPost G w0 O I J) .normal N D L C := fun a w hF hS => ⟨y, hI, h w hS⟩
/-- Between the assignment to the loop's left sides and the body. -/
def beginK (P : Program) (l : Nat) (body : Code) (Q : Exit → Act → World → Prop) (a : Act) (w : World) : Prop := ∃ w2, (Instr.beginRound l).run P w = .ok () w2 ∧ body.wpIn (FR l) 0 P Q a w2
theorem WQ.begin {l : Nat} {body : Code} {r : Loop} {C1 : List Chunk} (hr : r.state = .ready) (hp : C.Perm (ob1 l (.loop r) :: C1)) (h : WI P l w0 O body Q N D L (ob1 l (.loop { r with state := .busy }) :: C1)) :
    WQ w0 O (Exit.then (beginK P l body Q) (fun _ _ _ => False)) .normal N D L C := fun a w hF hS => by
  have hS1 := hS.perm hp
  exact ⟨_, run_beginRound (hS1.ok _ (List.mem_cons_self ..)) hr, h a _ hF (hS1.putO _)⟩
abbrev recOf (fn : FuncId) (t : Array Value) (ps : List Nat) (assign body : Code) (Db : Nat) : Loop := { state := .ready, pending := none, fn, tmps := t, params := ps.toArray, assign, body, defers := Db }
theorem WC.rangeFunc {σ : Type} {g : Operand} {ps : List Nat} {assign body : Code} {gf : FuncId} {cap : List Value} {C1 : List Chunk} {n : Nat} (encs : Nat → List Value) (I : Nat → σ → Prop) (J : σ → List Chunk) (G : σ → List Nat) (y0 : σ)
    (hJ : ∀ y, FpL (J y) (G y)) (hI0 : I 0 y0) (hg : ev L g = some (.func (.func gf) #[] cap.toArray)) (hf : funB P gf = some true) (hps : ∀ k, (encs k).length = ps.length) (hpN : (ps.all fun p => Nat.blt p N) = true) (hp : C.Perm (J y0 ++ C1))
    (hc : ∀ (l : Nat) (ch : σ → Chunk) (w : World), w0.heap.size ≤ l → St w0 O (J y0 ++ C1) w → (∀ y, FpIs (ch y) (l :: G y)) → (∀ c ∈ J y0 ++ C1, ∀ k, c.fp k → k ≠ l) → St w (l :: G y0) [ch y0] w →
      (∀ k y w1, k < n → I k y → St w (l :: G y0) [ch y] w1 → YieldAt Fence.wide 0 P l (encs k).toArray w1 fun e w' => e = .returned (.bool true) ∧ ∃ y', I (k + 1) y' ∧ St w1 (l :: G y) [ch y'] w') →
      Calls P gf (Value.func (.yield l) #[] #[] :: cap).toArray w fun e w' => ∃ y, (∃ v, e = .returned v) ∧ I n y ∧ St w (l :: G y0) [ch y] w')
    (hround : ∀ (l : Nat) (r : Loop) k y w1, k < n → I k y → r.state = .ready → w0.heap.size ≤ l → St w0 O (J y ++ C1) w1 →
      WI P l w1 (l :: G y) assign (Exit.then (beginK P l body (rdPost (fun p => p) w1 (l :: G y) (I (k + 1)) (fun y => ob1 l (.loop { r with state := .busy }) :: J y))) (fun _ _ _ => False)) N [] (putL ps (encs k) L) (ob1 l (.loop r) :: J y))
    (hdone : ∀ Db y, I n y → WQ w0 O Q .normal N ({ target := .collected Db, args := #[] } :: D) L (ob1 Db (.deferred (some [])) :: J y ++ C1)) :
    WC P w0 O (.rangeFunc g ps.toArray assign body) Q N D L C := fun a w hFr hS0 => by
  have hS := hS0.perm hp
  refine (wpIn_wide (n := 1)).1 (wpIn_rangeFunc ?_)
  intro fn _
  show ∃ l mark w₁ d w₁' f args w₂, (Instr.enterLoop fn a.tmps ps.toArray assign body none).run P w = _ ∧ _
  obtain ⟨W1, hW1⟩ : ∃ W1, (w.alloc (.deferred (some []))).alloc (.loop (recOf fn a.tmps ps assign body w.heap.size)) = W1 := ⟨_, rfl⟩
  have hSd := (hS.allocO (.deferred (some []))).allocO (.loop (recOf fn a.tmps ps assign body w.heap.size))
  rw [hW1, World.size_alloc] at hSd
  have hlsz : w0.heap.size ≤ w.heap.size + 1 := Nat.le_succ_of_le hS.size
  refine ⟨w.heap.size + 1, [{ target := .collected w.heap.size, args := #[] }], W1, { target := .fn (.func gf) cap.toArray, args := #[.func (.yield (w.heap.size + 1)) #[] #[]] }, W1, gf,
    #[.func (.yield (w.heap.size + 1)) #[] #[]] ++ cap.toArray, W1, ?_, ?_, ?_, ?_, fun h => (by cases h), ?_⟩
  · rw [← hW1]; exact run_enterLoop_outer _ _ _ _ _
  · simp only [resolve, hFr.ev hg]
    simp [go_sem]
  · intro f' _; trivial
  · simp [invoke, go_sem, run_callFunc hf]
  obtain ⟨Db, hD⟩ : ∃ Db, w.heap.size = Db := ⟨_, rfl⟩
  obtain ⟨l, hl⟩ : ∃ l, Db + 1 = l := ⟨_, rfl⟩
  rw [hD] at hSd hlsz ⊢
  rw [hl] at hSd hlsz ⊢
  have hch : ∀ y, FpIs (bun (l :: G y) (fun _ : Unit => ob1 l (.loop (recOf fn a.tmps ps assign body Db)) :: J y) (fun _ => True)) (l :: G y) := fun y k => Iff.rfl
  have hclose : ∀ (y : σ) {v : World} {O1 : List Nat} {C2 : List Chunk} {wb : World}, St wb O1 (ob1 l (.loop (recOf fn a.tmps ps assign body Db)) :: J y ++ C2) v → St wb O1 (bun (l :: G y) (fun _ : Unit => ob1 l (.loop (recOf fn a.tmps ps assign body Db)) :: J y) (fun _ => True) :: C2) v := fun y {v} {O1} {C2} {wb} h =>
    St.bunClose' (Cs := fun _ : Unit => ob1 l (.loop (recOf fn a.tmps ps assign body Db)) :: J y) () trivial (.cons FpIs.ob1 (hJ y)) h
  -- the world in which the iterator is called
  have hSP : St w0 O (ob1 l (.loop (recOf fn a.tmps ps assign body Db)) :: J y0 ++ (ob1 Db (.deferred (some [])) :: C1)) W1 := hSd.perm (.cons _ (List.perm_middle.symm))
  have hfoc : St W1 (l :: G y0) [bun (l :: G y0) (fun _ : Unit => ob1 l (.loop (recOf fn a.tmps ps assign body Db)) :: J y0) (fun _ => True)] W1 :=
    (hclose y0 hSP).focus (Cs := [_]) (C1 := ob1 Db (.deferred (some [])) :: C1) (fun c hc k hk => by rw [List.mem_singleton.1 hc] at hk; exact hk)
  have hJC : St w0 O (J y0 ++ C1) W1 := hSP.sublist (List.Sublist.cons _ ((List.Sublist.refl _).append (List.sublist_cons_self ..)))
  have hdis : ∀ c ∈ J y0 ++ C1, ∀ k, c.fp k → k ≠ l := fun c hc k hk e => by
    have h1 := (hS.bnd c hc k hk).1
    subst e; omega
  refine (callsIn_wide (n := 0)).2 ?_
  have hargs : #[Value.func (.yield l) #[] #[]] ++ cap.toArray = (Value.func (.yield l) #[] #[] :: cap).toArray := by simp
  rw [hargs]
  refine (hc l (fun y => bun (l :: G y) (fun _ : Unit => ob1 l (.loop (recOf fn a.tmps ps assign body Db)) :: J y) (fun _ => True)) W1 hlsz hJC hch hdis hfoc ?_).mono ?_
  · -- one round
    intro k y w1 hk hI hSy
    obtain ⟨_, _, _, _, hSo⟩ := hSy.bunOpen
    have hlr := hSo.ok _ (List.mem_cons_self ..)
    have hS1 : St w1 (l :: G y) (ob1 l (.loop (recOf fn a.tmps ps assign body Db)) :: J y) w1 := by
      have h9 : St W1 (l :: G y0) ((ob1 l (.loop (recOf fn a.tmps ps assign body Db)) :: J y) ++ []) w1 := hSo
      exact h9.focus (FpL.one (.cons FpIs.ob1 (hJ y)))
    have hglob : St w0 O (J y ++ C1) w1 := by
      have h8 : St w0 O ([bun (l :: G y0) (fun _ : Unit => ob1 l (.loop (recOf fn a.tmps ps assign body Db)) :: J y0) (fun _ => True)] ++ (ob1 Db (.deferred (some [])) :: C1)) W1 := hclose y0 hSP
      have h9 := h8.callC hSy (fun k hk => ⟨_, List.mem_singleton.2 rfl, hk⟩)
      obtain ⟨_, _, _, _, h7⟩ := (show St w0 O (bun (l :: G y) (fun _ : Unit => ob1 l (.loop (recOf fn a.tmps ps assign body Db)) :: J y) (fun _ => True) :: (ob1 Db (.deferred (some [])) :: C1)) w1 from h9).bunOpen
      exact (show St w0 O (ob1 l (.loop (recOf fn a.tmps ps assign body Db)) :: (J y ++ (ob1 Db (.deferred (some [])) :: C1))) w1 from h7).sublist (List.Sublist.cons _ ((List.Sublist.refl _).append (List.sublist_cons_self ..)))
    have hy := run_yield (P := P) (args := (encs k).toArray) hlr (by simp [hps k])
    refine ⟨_, _, _, _, hy, ?_⟩
    have hfr : Fr N [] (putL ps (encs k) L) { tmps := ((recOf fn a.tmps ps assign body Db).params.zip (encs k).toArray).foldl (fun t (q : Tmp × Value) => t.setIfInBounds q.1 q.2) (recOf fn a.tmps ps assign body Db).tmps, defers := [] } := by
      have h1 : Fr N [] L { tmps := a.tmps, defers := [] } := ⟨rfl, hFr.size, hFr.get⟩
      have h2 := Fr.putL ps (encs k) hpN h1
      simpa using h2
    have hw := hround l (recOf fn a.tmps ps assign body Db) k y w1 hk hI rfl hlsz hglob _ w1 hfr hS1
    refine roundIn_of_wpIn (F := Fence.wide) trivial (wpIn_mono hw ?_)
    intro e a1 w2 h
    cases e with
    | normal =>
      obtain ⟨w3, hb, hbody⟩ := h
      refine ⟨w3, hb, wpIn_mono hbody ?_⟩
      intro e2 a2 w4 h4
      cases e2 with
      | normal =>
        obtain ⟨y', hI', hS'⟩ := h4
        have hl4 := hS'.ok _ (List.mem_cons_self ..)
        refine ⟨_, _, run_endRound none hl4, rfl, y', hI', ?_⟩
        have h5 := hS'.putO (.loop { (recOf fn a.tmps ps assign body Db) with state := .ready, pending := none })
        have h6 : St w1 (l :: G y) (ob1 l (.loop (recOf fn a.tmps ps assign body Db)) :: J y' ++ []) (w4.putObj l (.loop { (recOf fn a.tmps ps assign body Db) with state := .ready, pending := none })) := by
          rw [List.append_nil]
          exact h5
        exact hclose y' h6
      | _ => exact h4.elim
    | _ => exact h.elim
  · -- behind the iterator
    rintro e W2 ⟨y, ⟨v, rfl⟩, hIn, hS2⟩
    have h8 : St w0 O ([bun (l :: G y0) (fun _ : Unit => ob1 l (.loop (recOf fn a.tmps ps assign body Db)) :: J y0) (fun _ => True)] ++ (ob1 Db (.deferred (some [])) :: C1)) W1 := hclose y0 hSP
    have h9 := h8.callC hS2 (fun k hk => ⟨_, List.mem_singleton.2 rfl, hk⟩)
    obtain ⟨_, _, _, _, h7⟩ := (show St w0 O (bun (l :: G y) (fun _ : Unit => ob1 l (.loop (recOf fn a.tmps ps assign body Db)) :: J y) (fun _ => True) :: (ob1 Db (.deferred (some [])) :: C1)) W2 from h9).bunOpen
    have hl7 := h7.ok _ (List.mem_cons_self ..)
    refine ⟨none, _, run_endLoop hl7 (by simp), ?_⟩
    have h6 := (show St w0 O (ob1 l (.loop (recOf fn a.tmps ps assign body Db)) :: (J y ++ (ob1 Db (.deferred (some [])) :: C1))) W2 from h7).putO (.loop { (recOf fn a.tmps ps assign body Db) with state := .exhausted })
    refine hdone Db y hIn _ _ ⟨?_, hFr.size, hFr.get⟩ ((h6.sublist (List.sublist_cons_self ..)).perm List.perm_middle)
    show [_] ++ a.defers = _
    rw [hFr.defers]; rfl
/-! ### a function that holds such a statement -/
/-- The body returns, its marks taken. -/
def bodyPostR (P : Program) (fn : Func) (R : Ending → World → Prop) : Exit → Act → World → Prop
  | .normal, a, w | .ret, a, w => LeavesInM Fence.wide 0 P fn a.tmps R a.defers .returning w
  | _, _, _ => False
theorem enterM {f : FuncId} {fn : Func} {c : Code} {args : List Value} {w : World} {R : Ending → World → Prop} (hf : P.funcs[f]? = some fn) (hb : fn.body = some c) (hn : fn.ntmps = N) (hl : Nat.ble args.length N = true) (hS : St w O C w)
    (h : WC P w O c (bodyPostR P fn R) N [] (fl0 args 0) C) : Calls P f args.toArray w R := by
  refine callsIn_wide.1 (callsIn_of_wp_marks (n := 0) hf hb trivial (wpIn_wide.2 (Code.wp_mono (Q := bodyPostR P fn R) (fun e a w h => by cases e <;> first | exact h | exact h.elim) ?_)))
  subst hn
  have := h _ w (Fr.init args fn.ntmps (Nat.le_of_ble_eq_true hl)) hS
  simpa using this
theorem WQ.retM0 {fn : Func} {R : Ending → World → Prop} {rs : List ResultVar} {vs : List Value} (hr : fn.results = rs.toArray) (h : RV P L C rs vs) (hR : ∀ w, St w0 O C w → R (.returned (tup vs)) w) :
    WQ w0 O (bodyPostR P fn R) .ret N [] L C := fun a w hF hS => by
  show LeavesInM Fence.wide 0 P fn a.tmps R a.defers .returning w
  rw [hF.defers]
  exact ⟨_, run_results hr h hF hS, hR w hS⟩
theorem WQ.retM1 {fn : Func} {R : Ending → World → Prop} {rs : List ResultVar} {vs : List Value} {Db : Nat} {C1 : List Chunk} (hr : fn.results = rs.toArray) (hp : C.Perm (ob1 Db (.deferred (some [])) :: C1)) (h : RV P L C1 rs vs) (hR : ∀ w, St w0 O C1 w → R (.returned (tup vs)) w) :
    WQ w0 O (bodyPostR P fn R) .ret N [{ target := .collected Db, args := #[] }] L C := fun a w hF hS => by
  show LeavesInM Fence.wide 0 P fn a.tmps R a.defers .returning w
  rw [hF.defers]
  have hS1 := hS.perm hp
  have hF' : Fr N a.defers L a := ⟨rfl, hF.size, hF.get⟩
  have hS2 := (hS1.putO (.deferred none)).sublist (List.sublist_cons_self ..)
  exact ⟨by simp, .inl ⟨Db, _, rfl, run_takeDeferred (hS1.ok _ (List.mem_cons_self ..)), _, run_results hr h hF' hS2, hR _ hS2⟩⟩
end
end Go.Eng

/-
  A row of sets: their nodes, to be read. By an AI agent.
-/
namespace Go.Proofs.Ytkgllhkhdjodeaa
open Go Go.Eng Go.Proofs Dg
abbrev DV := BT × Option Addr × Nat
def RdIn (w : World) (x : DV) (F : List Nat) : Prop := x.1.ok 0 ∧ ∀ (j : Nat) (u : Value), (decs (canon x.1).1)[j]? = some u → ∃ b off, x.2.1 = some ⟨b, off, none⟩ ∧ w.cell? ⟨b, off + j, none⟩ = some u ∧ b ∈ F
def dsC (F : List Nat) (l : List DV) : Chunk where
  fp k := k ∈ F
  ok w := ∀ x ∈ l, RdIn w x F
  loc w w' h hw := fun x hx => ⟨(hw x hx).1, fun j u hu => by
    obtain ⟨b, off, e1, e2, e3⟩ := (hw x hx).2 j u hu
    exact ⟨b, off, e1, by rw [World.cell?_of_block (h b e3)]; exact e2, e3⟩⟩
theorem FpIs.dsC {F : List Nat} {l : List DV} : FpIs (dsC F l) F := fun k => Iff.rfl
theorem dsC_rd {F : List Nat} {l : List DV} {w : World} {x : DV} (h : (dsC F l).ok w) (hx : x ∈ l) : RdD w x.1 x.2.1 := ⟨(h x hx).1, fun j u hu => by
  obtain ⟨b, off, e1, e2, _⟩ := (h x hx).2 j u hu
  exact ⟨b, off, e1, e2⟩⟩
abbrev dcs (l : List DV) : List Value := l.flatMap fun x => [.slice x.2.1 (canon x.1).1.length x.2.2, .int .i64 ((canon x.1).2 : Int)]
theorem dcs_append (l m : List DV) : dcs (l ++ m) = dcs l ++ dcs m := by simp [dcs]
theorem dcs_at : ∀ {l : List DV} {k : Nat} {x : DV}, l[k]? = some x → ∀ j u, [Value.slice x.2.1 (canon x.1).1.length x.2.2, .int .i64 ((canon x.1).2 : Int)][j]? = some u → (dcs l)[k * 2 + j]? = some u
  | y :: l, 0, x, h, j, u, hu => by
    simp at h; subst h
    have hj : j < 2 := by have := (List.getElem?_eq_some_iff.1 hu).1; simpa using this
    simp only [dcs, List.flatMap_cons, Nat.zero_mul, Nat.zero_add]
    rw [List.getElem?_append_left (by simpa using hj)]
    exact hu
  | y :: l, k + 1, x, h, j, u, hu => by
    have ih := dcs_at (l := l) (k := k) (by simpa using h) j u hu
    simp only [dcs, List.flatMap_cons] at ih ⊢
    rw [List.getElem?_append_right (by simp; omega), show (k + 1) * 2 + j - [Value.slice y.2.1 (canon y.1).1.length y.2.2, .int .i64 ((canon y.1).2 : Int)].length = k * 2 + j by simp; omega]
    exact ih
section
variable {w0 : World} {O : List Nat} {C : List Chunk}
theorem St.dsNil {w : World} (h : St w0 O C w) : St w0 O (dsC [] [] :: C) w :=
  ⟨h.os, h.tape, h.output, h.size, h.old, fun c hc => by
    rcases List.mem_cons.1 hc with rfl | hc
    · intro x hx; cases hx
    · exact h.ok c hc, fun c hc k hk => by
    rcases List.mem_cons.1 hc with rfl | hc
    · cases hk
    · exact h.bnd c hc k hk, List.Pairwise.cons (fun _ _ _ hk => by cases hk) h.disj⟩
theorem St.dsSnoc {w : World} {F : List Nat} {l : List DV} {t : BT} {a : Option Addr} {c : Nat} (ht : t.ok 0) (h : St w0 O (dsC F l :: dC a c t :: C) w) : ∃ F', St w0 O (dsC F' (l ++ [(t, a, c)]) :: C) w := by
  have hok : (dC a c t).ok w := h.ok _ (List.mem_cons_of_mem _ (List.mem_cons_self ..))
  have hob : ∃ G : List Nat, (∀ k ∈ G, (dC a c t).fp k) ∧ RdIn w (t, a, c) G := by
    by_cases h0 : (canon t).1.length = 0
    · exact ⟨[], by simp, ht, fun j u hu => by
        have := (List.getElem?_eq_some_iff.1 hu).1
        rw [decs_len] at this
        dsimp only at this
        omega⟩
    · obtain ⟨g, hg, _, _⟩ := rowc_addr hok (by omega)
      subst hg
      exact ⟨[g], fun k hk => by simp at hk; subst hk; rfl, ht, fun j u hu => ⟨g, 0, rfl, by rw [Nat.zero_add]; exact rowc_cells hok hu, by simp⟩⟩
  obtain ⟨G, hG1, hG2⟩ := hob
  refine ⟨F ++ G, h.join (fun k hk => ?_) (fun hc hd _ => ?_)⟩
  · rcases List.mem_append.1 hk with hk | hk
    · exact .inl hk
    · exact .inr (hG1 k hk)
  · intro x hx
    rcases List.mem_append.1 hx with hx | hx
    · exact ⟨(hc x hx).1, fun j u hu => by
        obtain ⟨b, off, e1, e2, e3⟩ := (hc x hx).2 j u hu
        exact ⟨b, off, e1, e2, List.mem_append_left _ e3⟩⟩
    · rw [List.mem_singleton.1 hx]
      exact ⟨hG2.1, fun j u hu => by
        obtain ⟨b, off, e1, e2, e3⟩ := hG2.2 j u hu
        exact ⟨b, off, e1, e2, List.mem_append_right _ e3⟩⟩
end
end Go.Proofs.Ytkgllhkhdjodeaa

namespace Go.Proofs.Ytkgllhkhdjodeaa
open Go Go.Eng Go.Proofs Dg
theorem Backward_c (a : Option Addr) (n cap : Nat) (w : World) :
    Calls Try.prog 50 [.slice a n cap].toArray w fun e w' => ∃ b : Nat, e = .returned (.func (.func 76) [].toArray [pp b].toArray) ∧ St w [] [pt b [.slice a n cap] 33] w' := by
  refine enter Try.func50 rfl Try.ntmps50 rfl (St.init _) ?_
  refine WC.seq ?_
  refine WC.region ?_
  refine WL.step ?_
  refine WL.box1 rfl rfl rfl (fun b1 => ?_)
  refine WL.step ?_
  refine WL.assign rfl rfl ?_
  refine WL.nil ?_
  refine WQ.then_normal ?_
  refine WC.seq ?_
  refine WC.region ?_
  refine WL.step ?_
  refine WL.makeFunc rfl rfl rfl ?_
  refine WL.step ?_
  refine WL.assign rfl rfl ?_
  refine WL.nil ?_
  refine WQ.then_normal ?_
  refine WC.ret ?_
  exact WQ.ret (rs := [.tmp 2]) rfl (.tmp rfl .nil) (fun w hS => ⟨_, rfl, hS⟩)

theorem Backward1_c {σ : Type} (ch : σ → Chunk) (Fs : σ → List Nat) (hch : ∀ y, FpIs (ch y) (Fs y)) (I : Nat → σ → Prop) (l b cap : Nat) (us : List Value) (a : Option Addr) (hlen : us.length ≤ 1099511627776) (y0 : σ) (hI0 : I 0 y0) (w : World)
    (hb : w.cell? ⟨b, 0, none⟩ = some (.slice a us.length cap)) (hbF : b ∉ Fs y0) (hus : ∀ (j : Nat) (u : Value), us[j]? = some u → ∃ blk off, a = some ⟨blk, off, none⟩ ∧ w.cell? ⟨blk, off + j, none⟩ = some u ∧ blk ∉ Fs y0)
    (hround : ∀ k y w1, k < us.length → I k y → St w (Fs y0) [ch y] w1 → YieldAt Fence.wide 0 Try.prog l ((fun k : Nat => [Value.int .i64 ((us.length : Int) - 1 - k), us.getD (us.length - 1 - k) undef]) k).toArray w1 fun e w' => e = .returned (.bool true) ∧ ∃ y', I (k + 1) y' ∧ St w1 (Fs y) [ch y'] w') (hS0 : St w (Fs y0) [ch y0] w) :
    Calls Try.prog 76 [Value.func (.yield l) #[] #[], pp b].toArray w fun e w' => ∃ y, (∃ v, e = .returned v) ∧ I us.length y ∧ St w (Fs y0) [ch y] w' := by
  refine enter Try.func76 rfl Try.ntmps76 rfl hS0 ?_
  refine WC.seq ?_
  refine WC.region ?_
  refine WL.step ?_
  refine WL.load1 F.one33 rfl rfl (v := .slice a us.length cap) (fun w hS => hS.oldc hb hbF) ?_
  refine WL.step ?_
  refine WL.lenSl F.und33 rfl rfl ?_
  refine WL.step ?_
  refine WL.sub rfl rfl rfl ⟨by omega, by omega⟩ ?_
  refine WL.step ?_
  refine WL.assign rfl rfl ?_
  refine WA.say 3 (.int .i64 ((us.length : Int) - 1 - ((0 : Nat) : Int))) (by rw [show (us.length : Int) - 1 - ((0 : Nat) : Int) = (us.length : Int) - 1 by omega]; rfl) ?_
  refine WL.nil ?_
  refine WQ.then_normal ?_
  refine WC.block ?_
  refine WC.chunks (C' := [ch y0]) (fun w hS => hS) ?_
  refine WC.loop (α := Nat × σ) (fun g => g.1 ≤ us.length ∧ I g.1 g.2) (fun g => [(0, Value.func (.yield l) #[] #[]), (1, pp b), (3, .int .i64 ((us.length : Int) - 1 - g.1))]) (fun g => [ch g.2]) (fun g => us.length - g.1) ((0, y0)) ?_ ?_ ?_ ?_
  · exact ⟨Nat.zero_le _, hI0⟩
  · exact ⟨rfl, rfl, rfl, trivial⟩
  · rfl
  rintro ⟨k, y⟩ ⟨hk, hI⟩
  dsimp only at hk hI
  show WC _ _ _ _ _ _ _ [(0, Value.func (.yield l) #[] #[]), (1, pp b), (3, .int .i64 ((us.length : Int) - 1 - k))] [ch y]
  refine WC.seq ?_
  refine WC.seq ?_
  refine WC.region ?_
  refine WL.step ?_
  refine WL.move rfl rfl ?_
  refine WL.step ?_
  refine WL.geI rfl rfl rfl ?_
  refine WL.nil ?_
  refine WQ.then_normal ?_
  refine WC.cond rfl (fun h8 => ?_) (fun h8 => ?_)
  · skip
    have hlt : k < us.length := by simp at h8; omega
    obtain ⟨u, hu⟩ : ∃ u, us[us.length - 1 - k]? = some u := ⟨_, List.getElem?_eq_getElem (by omega)⟩
    obtain ⟨blk, off, rfl, hcell, hblk⟩ := hus _ u hu
    have hgd : us.getD (us.length - 1 - k) undef = u := by rw [List.getD_eq_getElem?_getD, hu]; rfl
    refine WC.skip ?_
    refine WQ.then_normal ?_
    refine WC.seq ?_
    refine WC.block ?_
    refine WC.seq ?_
    refine WC.regionIn ?_
    refine WIL.step (fun ⟨_, _, _, ⟨_, h⟩, _⟩ => by cases h) rfl ?_
    refine WL.move rfl rfl ?_
    refine WIL.step (fun ⟨_, _, _, ⟨_, h⟩, _⟩ => by cases h) rfl ?_
    refine WL.move rfl rfl ?_
    refine WIL.step (fun ⟨_, _, _, ⟨_, h⟩, _⟩ => by cases h) rfl ?_
    refine WL.load1 F.one33 rfl rfl (v := .slice (some ⟨blk, off, none⟩) us.length cap) (fun w hS => hS.oldc hb hbF) ?_
    refine WIL.step (fun ⟨_, _, _, ⟨_, h⟩, _⟩ => by cases h) rfl ?_
    refine WL.move rfl rfl ?_
    refine WA.say 14 (.int .i64 ((us.length - 1 - k : Nat) : Int)) (by rw [show ((us.length - 1 - k : Nat) : Int) = (us.length : Int) - 1 - k by omega]; rfl) ?_
    refine WIL.step (fun ⟨_, _, _, ⟨_, h⟩, _⟩ => by cases h) rfl ?_
    refine WL.indexAddr F.sl33 rfl rfl rfl (by omega) ?_
    refine WIL.step (fun ⟨_, _, _, ⟨_, h⟩, _⟩ => by cases h) rfl ?_
    refine WL.load1 F.one23 rfl rfl (v := u) (fun w hS => by rw [Nat.mul_one]; exact hS.oldc hcell hblk) ?_
    refine WIL.yield (β := σ) (b := true) (vs := [.int .i64 ((us.length : Int) - 1 - k), u]) (cs := fun z => [ch z]) (Cs := [ch y]) (C1 := []) (O' := Fs y) (φ := I (k + 1)) (by rfl) rfl rfl (List.Perm.refl _) (fun c hc j hj => (by rw [List.mem_singleton.1 hc] at hj; exact (hch y j).1 hj)) (fun j hj => ⟨_, List.mem_singleton.2 rfl, (hch y j).2 hj⟩) (fun w hS hS2 => ?_) (fun y2 hI2 => ?_)
    · have h9 := hround k y w hlt hI hS
      dsimp only at h9
      rw [hgd] at h9
      exact h9
    refine WIL.step (fun ⟨_, _, _, ⟨_, h⟩, _⟩ => by cases h) rfl ?_
    refine WL.not rfl rfl ?_
    refine WIL.nil ?_
    refine WQ.then_normal ?_
    refine WC.condF rfl ?_
    refine WC.skip ?_
    refine WQ.block_normal ?_
    refine WQ.then_normal ?_
    refine WC.region ?_
    refine WL.step ?_
    refine WL.move rfl rfl ?_
    refine WL.step ?_
    refine WL.sub rfl rfl rfl ⟨by omega, by omega⟩ ?_
    refine WL.step ?_
    refine WL.assign rfl rfl ?_
    refine WL.nil ?_
    refine WQ.back (k + 1, y2) ⟨by show k + 1 ≤ us.length; omega, hI2⟩ (by show us.length - (k + 1) < us.length - k; omega) ?_ rfl
    exact ⟨rfl, rfl, by rw [show (us.length : Int) - 1 - ((k + 1 : Nat) : Int) = (us.length : Int) - 1 - (k : Int) - 1 by omega]; rfl, trivial⟩
  · skip
    have hke : k = us.length := by simp at h8; omega
    subst hke
    refine WC.exit ?_
    refine WQ.then_exit ?_
    refine WQ.then_exit ?_
    refine WQ.block_exit ?_
    refine WQ.fin (rs := []) rfl .nil (fun w hS => ⟨y, ⟨_, rfl⟩, hI, hS⟩)

end Go.Proofs.Ytkgllhkhdjodeaa

namespace Go.Proofs.Ytkgllhkhdjodeaa
open Go Go.Eng Go.Proofs Dg
abbrev dvs (x : DV) : List Value := [.slice x.2.1 (canon x.1).1.length x.2.2, .int .i64 ((canon x.1).2 : Int)]
theorem setn_dcs : ∀ (m : List DV) (k : Nat) (x : DV), k < m.length → SetN (dcs m) (k * 2) (dvs x) (dcs (m.set k x))
  | [], k, x, h => by simp at h
  | y :: m, 0, x, h => SetN.put (SetN.put .done)
  | y :: m, k + 1, x, h => by
    have ih := setn_dcs m k x (by simpa using h)
    have e : (k + 1) * 2 = k * 2 + 1 + 1 := by omega
    rw [e]
    exact SetN.skip (SetN.skip ih)
def revI (l : List DV) (i : Nat) : List DV := l.mapIdx fun k x => if k < i ∨ l.length ≤ k + i then l.reverse.getD k x else x
theorem revI_len (l : List DV) (i : Nat) : (revI l i).length = l.length := by simp [revI]
theorem revI_get (l : List DV) (i k : Nat) : (revI l i)[k]? = if k < l.length then (if k < i ∨ l.length ≤ k + i then l[l.length - 1 - k]? else l[k]?) else none := by
  unfold revI
  rw [List.getElem?_mapIdx]
  by_cases hk : k < l.length
  · rw [if_pos hk, List.getElem?_eq_getElem hk, Option.map_some]
    split
    · rw [List.getD_eq_getElem?_getD, List.getElem?_reverse hk, List.getElem?_eq_getElem (show l.length - 1 - k < l.length by omega)]; rfl
    · rfl
  · rw [if_neg hk, List.getElem?_eq_none (by omega)]; rfl
theorem revI_zero (l : List DV) : revI l 0 = l := by
  apply List.ext_getElem?
  intro k
  rw [revI_get]
  by_cases hk : k < l.length
  · rw [if_pos hk, if_neg (by omega)]
  · rw [if_neg hk, List.getElem?_eq_none (by omega)]
theorem revI_end (l : List DV) (i : Nat) (h : l.length ≤ i + i + 1) : revI l i = l.reverse := by
  apply List.ext_getElem?
  intro k
  rw [revI_get]
  by_cases hk : k < l.length
  · rw [if_pos hk, List.getElem?_reverse hk]
    split
    · rfl
    · rw [show l.length - 1 - k = k by omega]
  · rw [if_neg hk, List.getElem?_eq_none (by simp; omega)]
theorem revI_step (l : List DV) (i : Nat) {x y : DV} (h : i + i + 1 < l.length) (hx : l[i]? = some x) (hy : l[l.length - 1 - i]? = some y) : ((revI l i).set i y).set (l.length - 1 - i) x = revI l (i + 1) := by
  apply List.ext_getElem?
  intro k
  rw [List.getElem?_set, List.getElem?_set, revI_get, revI_get]
  simp only [List.length_set, revI_len]
  by_cases hk : k < l.length
  · by_cases h1 : l.length - 1 - i = k
    · subst h1
      rw [if_pos rfl, if_pos hk, if_pos hk, if_pos (by omega), show l.length - 1 - (l.length - 1 - i) = i by omega, hx]
    · rw [if_neg h1]
      by_cases h2 : i = k
      · subst h2
        rw [if_pos rfl, if_pos hk, if_pos hk, if_pos (by omega), hy]
      · rw [if_neg h2, if_pos hk]
        by_cases h3 : k < i ∨ l.length ≤ k + i
        · rw [if_pos h3, if_pos hk, if_pos (by omega)]
        · rw [if_neg h3, if_pos hk, if_neg (by omega)]
  · rw [if_neg (by omega), if_neg (by omega), if_neg hk, if_neg hk]

theorem Reverse_c (ls : List DV) (g cap : Nat) (hlen : ls.length ≤ 1099511627776) (w : World) (hS0 : St w [g] [rowc (.slice (some ⟨g, 0, none⟩) ls.length cap) ls.length 27 2 (dcs (ls))] w) :
    Calls Try.prog 51 [.slice (some ⟨g, 0, none⟩) ls.length cap].toArray w fun e w' => e = .returned (.tuple #[]) ∧ St w [g] [rowc (.slice (some ⟨g, 0, none⟩) ls.length cap) ls.length 27 2 (dcs (ls.reverse))] w' := by
  refine enter Try.func51 rfl Try.ntmps51 rfl (C := [rowc (.slice (some ⟨g, 0, none⟩) ls.length cap) ls.length 27 2 (dcs (ls))]) hS0 ?_
  refine WC.seq ?_
  refine WC.region ?_
  refine WL.step ?_
  refine WL.move rfl rfl ?_
  refine WL.step ?_
  refine WL.lenSl F.und88 rfl rfl ?_
  refine WL.step ?_
  refine WL.sub rfl rfl rfl ⟨by omega, by omega⟩ ?_
  refine WL.step ?_
  refine WL.assign rfl rfl ?_
  refine WL.step ?_
  refine WL.assign rfl rfl ?_
  refine WA.say 3 (.int .i64 ((ls.length : Int) - 1 - ((0 : Nat) : Int))) (by rw [show (ls.length : Int) - 1 - ((0 : Nat) : Int) = (ls.length : Int) - 1 by omega]; rfl) ?_
  refine WL.nil ?_
  refine WQ.then_normal ?_
  refine WC.block ?_
  refine WC.chunks (C' := [rowc (.slice (some ⟨g, 0, none⟩) ls.length cap) ls.length 27 2 (dcs (revI ls 0))]) (fun w hS => by rw [revI_zero]; exact hS) ?_
  refine WC.loop (α := Nat) (fun i => i + i ≤ ls.length) (fun i => [(0, .slice (some ⟨g, 0, none⟩) ls.length cap), (2, .int .i64 (i : Int)), (3, .int .i64 ((ls.length : Int) - 1 - i))]) (fun i => [rowc (.slice (some ⟨g, 0, none⟩) ls.length cap) ls.length 27 2 (dcs (revI ls i))]) (fun i => ls.length - i) (0) ?_ ?_ ?_ ?_
  · exact by omega
  · exact ⟨rfl, rfl, rfl, trivial⟩
  · rfl
  rintro i hi
  show WC _ _ _ _ _ _ _ [(0, .slice (some ⟨g, 0, none⟩) ls.length cap), (2, .int .i64 (i : Int)), (3, .int .i64 ((ls.length : Int) - 1 - i))] [rowc (.slice (some ⟨g, 0, none⟩) ls.length cap) ls.length 27 2 (dcs (revI ls i))]
  refine WC.seq ?_
  refine WC.seq ?_
  refine WC.region ?_
  refine WL.step ?_
  refine WL.move rfl rfl ?_
  refine WL.step ?_
  refine WL.move rfl rfl ?_
  refine WL.step ?_
  refine WL.ltI rfl rfl rfl ?_
  refine WL.nil ?_
  refine WQ.then_normal ?_
  refine WC.cond rfl (fun h9 => ?_) (fun h9 => ?_)
  · skip
    have hlt : i + i + 1 < ls.length := by simp at h9; omega
    have hji : ((ls.length : Int) - 1 - i) = ((ls.length - 1 - i : Nat) : Int) := by omega
    rw [hji]
    obtain ⟨x, hx⟩ : ∃ x, ls[i]? = some x := ⟨_, List.getElem?_eq_getElem (by omega)⟩
    obtain ⟨y, hy⟩ : ∃ y, ls[ls.length - 1 - i]? = some y := ⟨_, List.getElem?_eq_getElem (by omega)⟩
    refine WC.skip ?_
    refine WQ.then_normal ?_
    refine WC.seq ?_
    refine WC.block ?_
    refine WC.drawsL (by kernel_rfl) (FactsOk.cons (ds := [13, 15]) (LoadOk.by (Y := (fun w => ∀ j v, (dvs y)[j]? = some v → w.cell? ⟨g, 0 + (ls.length - 1 - i) * 2 + j, none⟩ = some v)) (fun w hS => fun j v hv => by rw [Nat.zero_add]; exact rowc_cells (hS.ok (rowc (.slice (some ⟨g, 0, none⟩) ls.length cap) ls.length 27 2 (dcs (revI ls i))) (by repeat (first | exact List.Mem.head _ | apply List.Mem.tail))) (dcs_at (by rw [revI_get, if_pos (by omega), if_neg (by omega)]; exact hy) j v hv))) (FactsOk.cons (ds := [13, 15]) (LoadOk.by (Y := (fun w => ∀ j v, (dvs x)[j]? = some v → w.cell? ⟨g, 0 + i * 2 + j, none⟩ = some v)) (fun w hS => fun j v hv => by rw [Nat.zero_add]; exact rowc_cells (hS.ok (rowc (.slice (some ⟨g, 0, none⟩) ls.length cap) ls.length 27 2 (dcs (revI ls i))) (by repeat (first | exact List.Mem.head _ | apply List.Mem.tail))) (dcs_at (by rw [revI_get, if_pos (by omega), if_neg (by omega)]; exact hx) j v hv))) (FactsOk.nil))) ?_
    refine WD.take (i := 0) rfl rfl rfl rfl (by kernel_rfl) (by kernel_rfl) (by kernel_rfl) (fun _ _ _ h => h) (by kernel_rfl) need_none (Yl.move rfl) ?_
    refine WD.take (i := 1) rfl rfl rfl rfl (by kernel_rfl) (by kernel_rfl) (by kernel_rfl) (fun _ _ _ h => h) (by kernel_rfl) need_none (Yl.move rfl) ?_
    refine WD.take (i := 2) rfl rfl rfl rfl (by kernel_rfl) (by kernel_rfl) (by kernel_rfl) (fun _ _ _ h => h) (by kernel_rfl) need_none (Yl.move rfl) ?_
    refine WD.take (i := 3) rfl rfl rfl rfl (by kernel_rfl) (by kernel_rfl) (by kernel_rfl) (fun _ _ _ h => h) (by kernel_rfl) need_none (Yl.move rfl) ?_
    refine WD.take (i := 4) rfl rfl rfl rfl (by kernel_rfl) (by kernel_rfl) (by kernel_rfl) (fun _ _ _ h => h) (by kernel_rfl) need_none (Yl.move rfl) ?_
    refine WD.take (i := 5) rfl rfl rfl rfl (by kernel_rfl) (by kernel_rfl) (by kernel_rfl) (fun _ _ _ h => h) (by kernel_rfl) need_none (Yl.move rfl) ?_
    refine WD.take (i := 6) rfl rfl rfl rfl (by kernel_rfl) (by kernel_rfl) (by kernel_rfl) (fun _ _ _ h => h) (by kernel_rfl) need_none (Yl.indexAddr F.sl88 rfl rfl (by omega)) ?_
    refine WD.take (i := 7) rfl rfl rfl rfl (by kernel_rfl) (by kernel_rfl) (by kernel_rfl) (fun _ _ _ h => h) (by kernel_rfl) (need_at 0 16 rfl (by kernel_rfl)) (Yl.loadN F.agg27 rfl rfl) ?_
    refine WD.take (i := 8) rfl rfl rfl rfl (by kernel_rfl) (by kernel_rfl) (by kernel_rfl) (fun _ _ _ h => h) (by kernel_rfl) need_none (Yl.move rfl) ?_
    refine WD.take (i := 9) rfl rfl rfl rfl (by kernel_rfl) (by kernel_rfl) (by kernel_rfl) (fun _ _ _ h => h) (by kernel_rfl) need_none (Yl.move rfl) ?_
    refine WD.take (i := 10) rfl rfl rfl rfl (by kernel_rfl) (by kernel_rfl) (by kernel_rfl) (fun _ _ _ h => h) (by kernel_rfl) need_none (Yl.indexAddr F.sl88 rfl rfl (by omega)) ?_
    refine WD.take (i := 11) rfl rfl rfl rfl (by kernel_rfl) (by kernel_rfl) (by kernel_rfl) (fun _ _ _ h => h) (by kernel_rfl) (need_at 1 16 rfl (by kernel_rfl)) (Yl.loadN F.agg27 rfl rfl) ?_
    refine WD.take (i := 12) rfl rfl rfl rfl (by kernel_rfl) (by kernel_rfl) (by kernel_rfl) (fun _ _ _ h => h) (by kernel_rfl) need_none (Yl.indexAddr F.sl88 rfl rfl (by omega)) ?_
    refine WD.one (i := 13) (by kernel_rfl) rfl ?_
    refine WL.storeRow F.agg27 rfl rfl (n := ls.length) (sz := 2) (cap := cap) (g := g) (e := 27) (xs := dcs (revI ls i)) (xs' := dcs ((revI ls i).set i y)) (vs := dvs y) rfl (by simp [Value.oneCell']) (by omega) (by repeat (first | exact Upd.here | apply Upd.there)) (by rw [Nat.zero_add]; exact setn_dcs _ i _ (by simp [revI_len]; omega)) ?_
    refine WD.on (closed_of (by kernel_rfl)) (fun w hS => Sx.gone rfl (Sx.gone rfl (Sx.none))) ?_
    refine WD.take (i := 14) rfl rfl rfl rfl (by kernel_rfl) (by kernel_rfl) (by kernel_rfl) (fun _ _ _ h => h) (by kernel_rfl) need_none (Yl.indexAddr F.sl88 rfl rfl (by omega)) ?_
    refine WD.one (i := 15) (by kernel_rfl) rfl ?_
    refine WL.storeRow F.agg27 rfl rfl (n := ls.length) (sz := 2) (cap := cap) (g := g) (e := 27) (xs := dcs ((revI ls i).set i y)) (xs' := dcs (((revI ls i).set i y).set (ls.length - 1 - i) x)) (vs := dvs x) rfl (by simp [Value.oneCell']) (by omega) (by repeat (first | exact Upd.here | apply Upd.there)) (by rw [Nat.zero_add]; exact setn_dcs _ (ls.length - 1 - i) _ (by simp [revI_len]; omega)) ?_
    refine WD.on (closed_of (by kernel_rfl)) (fun w hS => Sx.gone rfl (Sx.gone rfl (Sx.none))) ?_
    refine WD.done (by kernel_rfl) ?_
    refine WQ.block_normal ?_
    refine WQ.then_normal ?_
    refine WC.region ?_
    refine WL.step ?_
    refine WL.move rfl rfl ?_
    refine WL.step ?_
    refine WL.add rfl rfl rfl ⟨by omega, by omega⟩ ?_
    refine WL.step ?_
    refine WL.move rfl rfl ?_
    refine WL.step ?_
    refine WL.sub rfl rfl rfl ⟨by omega, by omega⟩ ?_
    refine WL.step ?_
    refine WL.assign rfl rfl ?_
    refine WL.step ?_
    refine WL.assign rfl rfl ?_
    refine WL.nil ?_
    refine WQ.chunks (C' := [rowc (.slice (some ⟨g, 0, none⟩) ls.length cap) ls.length 27 2 (dcs (revI ls (i + 1)))]) (fun w hS => by rw [← revI_step ls i (by omega) hx hy]; exact hS) ?_
    refine WQ.back (i + 1) (by show (i + 1) + (i + 1) ≤ ls.length; omega) (by show ls.length - (i + 1) < ls.length - i; omega) ?_ rfl
    exact ⟨rfl, rfl, by rw [show (ls.length : Int) - 1 - ((i + 1 : Nat) : Int) = ((ls.length - 1 - i : Nat) : Int) - 1 by omega]; rfl, trivial⟩
  · skip
    have hge : ls.length ≤ i + i + 1 := by simp at h9; omega
    refine WC.exit ?_
    refine WQ.then_exit ?_
    refine WQ.then_exit ?_
    refine WQ.block_exit ?_
    refine WQ.fin (rs := []) rfl .nil (fun w hS => ⟨rfl, by rw [revI_end ls i hge] at hS; exact hS⟩)

end Go.Proofs.Ytkgllhkhdjodeaa

/-
  What a round knows of what lay there before. By an AI agent.
-/
namespace Go.Proofs.Ytkgllhkhdjodeaa
open Go Go.Eng Go.Proofs Dg
theorem St.off {w0 w : World} {O : List Nat} {Cs C1 : List Chunk} {G : List Nat} (h : St w0 O (Cs ++ C1) w) (hG : FpL Cs G) {c : Chunk} (hc : c ∈ C1) {k : Nat} (hk : c.fp k) : k ∉ G := fun hk' => by
  obtain ⟨d, hd, hdk⟩ := hG.two k hk'
  exact (List.pairwise_append.1 h.disj).2.2 d hd c hc k hdk hk
theorem St.off0 {w0 w : World} {Cs C1 : List Chunk} {G : List Nat} {l : Nat} (h : St w0 [] (Cs ++ C1) w) (hG : FpL Cs G) (hl : w0.heap.size ≤ l) {k : Nat} (hk : k < w0.heap.size) : k ∉ l :: G := fun hk' => by
  rcases List.mem_cons.1 hk' with rfl | hk'
  · omega
  · obtain ⟨d, hd, hdk⟩ := hG.two k hk'
    have := (h.bnd d (List.mem_append_left _ hd) k hdk).2 hk
    cases this
theorem St.extR {w0 w1 w : World} {Cs C1 C : List Chunk} {G : List Nat} {l : Nat} (h : St w0 [] (Cs ++ C1) w1) (hG : FpL Cs G) (hl : w0.heap.size ≤ l) (hS : St w1 (l :: G) C w) : Ext w0 w :=
  ⟨Nat.le_trans h.size hS.size, fun k hk => (hS.old k (Nat.lt_of_lt_of_le hk h.size) (St.off0 h hG hl hk)).trans (h.old k hk (by simp))⟩
theorem RdC.ext {w0 w : World} {c : List Int} {a : Option Addr} (h : RdC w0 c a) (hE : Ext w0 w) : RdC w c a := fun j x hx => by
  obtain ⟨b, off, ha, hc⟩ := h j x hx
  exact ⟨b, off, ha, hE.cell hc⟩
end Go.Proofs.Ytkgllhkhdjodeaa

/-! The core of clauses. -/
namespace Dg
open Classical in
noncomputable def satB (ls : List (List Int)) : Bool := decide (∃ cf, ls.all (fun k => clauseB k cf) = true)
open Classical in
theorem satB_iff {ls : List (List Int)} : satB ls = true ↔ ∃ cf, ls.all (fun k => clauseB k cf) = true := by unfold satB; exact decide_eq_true_iff
def pickL (ls : List (List Int)) (o : List Nat) : List (List Int) := o.filterMap (fun i => ls[i]?)
theorem pickL_append (ls : List (List Int)) (o p : List Nat) : pickL ls (o ++ p) = pickL ls o ++ pickL ls p := by simp [pickL]
theorem pickL_one {ls : List (List Int)} {k : Nat} {c : List Int} (h : ls[k]? = some c) : pickL ls [k] = [c] := by simp [pickL, h]
noncomputable def coreG (ls : List (List Int)) : Nat → List Nat
  | 0 => []
  | k + 1 => if satB (pickL ls (coreG ls k) ++ ls.drop (k + 1)) then coreG ls k ++ [k] else coreG ls k
theorem coreG_lt (ls : List (List Int)) : ∀ k, ∀ i ∈ coreG ls k, i < k
  | 0, i, h => by simp [coreG] at h
  | k + 1, i, h => by
    unfold coreG at h
    split at h
    · rcases List.mem_append.1 h with h | h
      · exact Nat.lt_succ_of_lt (coreG_lt ls k i h)
      · rw [List.mem_singleton.1 h]; exact Nat.lt_succ_self k
    · exact Nat.lt_succ_of_lt (coreG_lt ls k i h)
theorem coreG_sorted (ls : List (List Int)) : ∀ k, (coreG ls k).Pairwise (· < ·)
  | 0 => .nil
  | k + 1 => by
    unfold coreG
    split
    · exact List.pairwise_append.2 ⟨coreG_sorted ls k, List.pairwise_singleton _ _, fun a ha b hb => by rw [List.mem_singleton.1 hb]; exact coreG_lt ls k a ha⟩
    · exact coreG_sorted ls k
theorem coreG_len (ls : List (List Int)) : ∀ k, (coreG ls k).length ≤ k
  | 0 => Nat.le_refl _
  | k + 1 => by
    have ih := coreG_len ls k
    unfold coreG
    split
    · simp; omega
    · omega
/-- What is left has no model. -/
theorem coreG_unsat (ls : List (List Int)) (h : satB ls = false) : ∀ k, k ≤ ls.length → satB (pickL ls (coreG ls k) ++ ls.drop k) = false
  | 0, _ => by simpa [coreG, pickL] using h
  | k + 1, hk => by
    have ih := coreG_unsat ls h k (by omega)
    obtain ⟨c, hc⟩ : ∃ c, ls[k]? = some c := ⟨_, List.getElem?_eq_getElem (by omega)⟩
    have hd : ls.drop k = c :: ls.drop (k + 1) := by
      rw [List.drop_eq_getElem_cons (by omega : k < ls.length)]
      rw [(List.getElem?_eq_some_iff.1 hc).2]
    unfold coreG
    split
    · rw [pickL_append, pickL_one hc, List.append_assoc]
      rw [hd] at ih
      exact ih
    · rename_i hs
      simpa using hs
theorem sat_sub {ls ms : List (List Int)} (h : ∀ c ∈ ms, c ∈ ls) (hs : satB ls = true) : satB ms = true := by
  obtain ⟨cf, hc⟩ := satB_iff.1 hs
  exact satB_iff.2 ⟨cf, List.all_eq_true.2 fun c hm => List.all_eq_true.1 hc c (h c hm)⟩
/-- Each that is left is needed. -/
theorem coreG_need (ls : List (List Int)) : ∀ k, k ≤ ls.length → ∀ i, i < k → i ∈ coreG ls k → satB (pickL ls ((coreG ls k).filter (fun j => j != i)) ++ ls.drop k) = true
  | 0, _, i, hi, _ => absurd hi (Nat.not_lt_zero _)
  | k + 1, hk, i, hi, hm => by
    obtain ⟨c, hc⟩ : ∃ c, ls[k]? = some c := ⟨_, List.getElem?_eq_getElem (by omega)⟩
    have hd : ls.drop k = c :: ls.drop (k + 1) := by
      rw [List.drop_eq_getElem_cons (by omega : k < ls.length)]
      rw [(List.getElem?_eq_some_iff.1 hc).2]
    unfold coreG at hm ⊢
    split at hm <;> rename_i hs
    · rw [if_pos hs]
      by_cases hik : i = k
      · subst hik
        have e : (coreG ls i ++ [i]).filter (fun j => j != i) = coreG ls i := by
          rw [List.filter_append]
          have e1 : [i].filter (fun j => j != i) = [] := by simp
          rw [e1, List.append_nil]
          exact List.filter_eq_self.2 fun j hj => by have := coreG_lt ls i j hj; simp; omega
        rw [e]; exact hs
      · have hm' : i ∈ coreG ls k := by
          rcases List.mem_append.1 hm with h | h
          · exact h
          · exact absurd (List.mem_singleton.1 h) hik
        have ih := coreG_need ls k (by omega) i (by omega) hm'
        refine sat_sub (fun x hx => ?_) ih
        rw [List.filter_append, pickL_append] at hx
        rw [hd]
        have e1 : [k].filter (fun j => j != i) = [k] := by
          rw [List.filter_eq_self]; intro j hj; rw [List.mem_singleton.1 hj]; simp; omega
        rw [e1, pickL_one hc] at hx
        simp only [List.mem_append, List.mem_cons, List.not_mem_nil, or_false] at hx ⊢
        rcases hx with (h | h) | h
        · exact .inl h
        · exact .inr (.inl h)
        · exact .inr (.inr h)
    · rw [if_neg hs]
      have ih := coreG_need ls k (by omega) i (coreG_lt ls k i hm) hm
      refine sat_sub (fun x hx => ?_) ih
      rw [hd]
      simp only [List.mem_append, List.mem_cons] at hx ⊢
      rcases hx with h | h
      · exact .inl h
      · exact .inr (.inr h)
end Dg

namespace Go.Proofs.Ytkgllhkhdjodeaa
open Go Go.Eng Go.Proofs Dg
structure BehG where
  Bs : List DV
  sa : Option Addr
  sc : Nat
  Fb : List Nat
structure BehI (ls : List (List Int)) (k : Nat) (y : BehG) : Prop where
  len : y.Bs.length = k + 1
  le : k ≤ ls.length
  ev : ∀ (j : Nat) (x : DV), y.Bs[j]? = some x → ∀ cf, x.1.ev cf = (ls.drop (ls.length - j)).all (fun k => clauseB k cf)
abbrev behJ (b8 : Nat) (y : BehG) : List Chunk := [pt b8 [.slice y.sa y.Bs.length y.sc] 88, rowc (.slice y.sa y.Bs.length y.sc) y.Bs.length 27 2 (dcs y.Bs), dsC y.Fb y.Bs]
abbrev behF (b8 : Nat) (y : BehG) : List Nat := [b8] ++ (ob (.slice y.sa y.Bs.length y.sc) ++ (y.Fb ++ []))
theorem behFp (b8 : Nat) (y : BehG) : FpL (behJ b8 y) (behF b8 y) := .cons FpIs.pt (.cons FpIs.rowc (.cons FpIs.dsC .nil))
structure CoreS where
  i : Nat
  t : BT
  ad : Option Addr
  ac : Nat
  oa : Option Addr
  oc : Nat
noncomputable def coreR (ls : List (List Int)) : List Nat := if satB ls then [] else coreG ls ls.length
noncomputable def coreE (ls : List (List Int)) : Int := if satB ls then 8 else 0
theorem sat_canon {t : BT} {ls : List (List Int)} (ht : t.ok 0) (h : ∀ cf, t.ev cf = ls.all (fun k => clauseB k cf)) : (!((canon t).2 == 0)) = satB ls := by
  cases hs : satB ls with
  | false =>
    have : ((canon t).2 == 0) = true := (emptyT ht).2 fun cf => by
      rw [h]
      cases hc : ls.all (fun k => clauseB k cf) with
      | false => rfl
      | true => exact absurd (satB_iff.2 ⟨cf, hc⟩) (by rw [hs]; simp)
    rw [this]; rfl
  | true =>
    obtain ⟨cf, hc⟩ := satB_iff.1 hs
    cases he : ((canon t).2 == 0) with
    | false => rfl
    | true =>
      have := (emptyT ht).1 he cf
      rw [h, hc] at this; cases this
theorem drop_all {ls : List (List Int)} {m : Nat} {c : List Int} (h : ls[m]? = some c) (cf : Cf) : (ls.drop m).all (fun k => clauseB k cf) = ((ls.drop (m + 1)).all (fun k => clauseB k cf) && clauseB c cf) := by
  rw [List.drop_eq_getElem_cons (List.getElem?_eq_some_iff.1 h).1, (List.getElem?_eq_some_iff.1 h).2, List.all_cons, Bool.and_comm]
theorem behI_next {ls : List (List Int)} {k : Nat} {y : BehG} (h : BehI ls k y) (hk : k < ls.length) {c : List Int} (hc : ls[ls.length - 1 - k]? = some c) {x : DV} (hx : y.Bs[k]? = some x) {t : BT} (ht : ∀ cf, t.ev cf = (x.1.ev cf && clauseB c cf)) {a : Option Addr} {cc : Nat} {sa : Option Addr} {sc : Nat} {Fb : List Nat} : BehI ls (k + 1) ⟨y.Bs ++ [(t, a, cc)], sa, sc, Fb⟩ := by
  refine ⟨by simp [h.len], hk, fun j z hz cf => ?_⟩
  by_cases hj : j < y.Bs.length
  · rw [List.getElem?_append_left hj] at hz
    exact h.ev j z hz cf
  · rw [List.getElem?_append_right (by omega)] at hz
    have hj0 : j = k + 1 := by
      have := (List.getElem?_eq_some_iff.1 hz).1
      have := h.len
      simp at *; omega
    subst hj0
    rw [h.len, Nat.sub_self] at hz
    simp at hz
    subst hz
    dsimp only
    rw [ht, h.ev k x hx, show ls.length - (k + 1) = ls.length - 1 - k by omega, drop_all hc cf, show ls.length - 1 - k + 1 = ls.length - k by omega]

set_option maxRecDepth 100000 in
theorem Core_in (n : Int) (ls : List (List Int)) (a : Option Addr) (cap : Nat) (us : List Value) (hm : Fm.mayE n ls = 0) (w : World) (hr : RdLL w ls a us) :
    Calls Try.prog 21 [.int .i64 n, .slice a ls.length cap].toArray w fun e w' => ∃ y : Option Addr × Nat, e = .returned (.tuple #[.slice y.1 (coreR ls).length y.2, .int .i64 (coreE ls)]) ∧ St w [] [rowc (.slice y.1 (coreR ls).length y.2) (coreR ls).length 3 1 (nums (coreR ls))] w' := by
  have hin := may_in hm
  have hul := hr.len
  refine enterM Try.func21 rfl Try.ntmps21 rfl (St.init _) ?_
  refine WC.seq ?_
  refine WC.region ?_
  refine WL.step ?_
  refine WL.assign rfl rfl ?_
  refine WL.step ?_
  refine WL.assign rfl rfl ?_
  refine WL.nil ?_
  refine WQ.then_normal ?_
  refine WC.seq ?_
  refine WC.region ?_
  refine WL.step ?_
  refine WL.move rfl rfl ?_
  refine WL.step ?_
  refine WL.move rfl rfl ?_
  refine WL.step ?_
  refine WL.call0 (β := DRes (fun cf => ls.all (fun k => clauseB k cf))) (res := fun z => .returned (.tuple #[z.v, .int .i64 0])) (cs := fun z => [z.ch]) (ψ := fun _ => True) F.fun17 (fun d h => by cases h; rfl) rfl (fun w hS => (Conj_in n ls a cap us hm w (hr.next hS)).mono (fun e w2 ⟨x, h1, h2⟩ => ⟨x, trivial, h1, h2⟩)) (fun z18 _ => ?_)
  refine WL.step ?_
  refine WL.move rfl rfl ?_
  refine WL.step ?_
  refine WL.extract rfl rfl rfl ?_
  refine WL.step ?_
  refine WL.extract rfl rfl rfl ?_
  refine WL.step ?_
  refine WL.alloc F.zero27 rfl (fun b6 => ?_)
  refine WL.step ?_
  refine WL.storeN F.agg27 rfl rfl rfl (by simp [Value.oneCell']) (by repeat (first | exact Upd.here | apply Upd.there)) (by repeat constructor) ?_
  refine WL.step ?_
  refine WL.assign rfl rfl ?_
  refine WL.nil ?_
  refine WQ.then_normal ?_
  refine WC.seq ?_
  refine WC.block ?_
  refine WC.seq ?_
  refine WC.region ?_
  refine WL.step ?_
  refine WL.move rfl rfl ?_
  refine WL.step ?_
  refine WL.neI rfl rfl rfl ?_
  refine WL.step ?_
  refine WL.assign rfl rfl ?_
  refine WL.nil ?_
  refine WQ.then_normal ?_
  refine WC.cond rfl (fun h21 => ?_) (fun h21 => ?_)
  · skip
    exfalso; revert h21; decide
  · skip
    refine WC.seq ?_
    refine WC.region ?_
    have hsat := sat_canon z18.2.1 z18.2.2
    refine WL.step ?_
    refine WL.loadW F.agg27 rfl rfl (by repeat (first | exact List.Mem.head _ | apply List.Mem.tail)) rfl ?_
    refine WL.step ?_
    refine WL.callV F.fun18 rfl rfl (fun w hS => Empty_c z18.1.1 z18.1.2.1 z18.1.2.2 w) ?_
    refine WL.step ?_
    refine WL.not rfl rfl ?_
    refine WL.step ?_
    refine WL.assign rfl rfl ?_
    refine WL.nil ?_
    refine WQ.then_normal ?_
    refine WC.cond rfl (fun h25 => ?_) (fun h25 => ?_)
    · skip
      have hs : satB ls = true := by (rw [← hsat]; exact h25)
      refine WC.seq ?_
      refine WC.region ?_
      refine WL.step ?_
      refine WL.assign rfl rfl ?_
      refine WL.step ?_
      refine WL.assign rfl rfl ?_
      refine WL.nil ?_
      refine WQ.then_normal ?_
      refine WC.ret ?_
      refine WQ.block_ret ?_
      refine WQ.then_ret ?_
      exact WQ.retM0 (rs := [.tmp 4, .tmp 5]) rfl (.tmp rfl (.tmp rfl .nil)) (fun w hS => ⟨(none, 0), by (unfold coreR coreE; rw [if_pos hs, if_pos hs]; rfl), by (unfold coreR; rw [if_pos hs]; exact (hS.sublist (List.nil_sublist _)).rowNil 3 1)⟩)
    · skip
      have hs : satB ls = false := by (rw [← hsat]; exact h25)
      refine WC.skip ?_
      refine WQ.block_normal ?_
      refine WQ.then_normal ?_
      refine WC.seq ?_
      refine WC.region ?_
      refine WL.step ?_
      refine WL.call0 (β := DRes (fun _ => true)) (res := fun z => .returned z.v) (cs := fun z => [z.ch]) (ψ := fun _ => True) F.fun46 (fun d h => by cases h; rfl) rfl (fun w hS => (True_c w).mono (fun e w2 ⟨x, h1, h2⟩ => ⟨x, trivial, h1, h2⟩)) (fun z29 _ => ?_)
      refine WL.step ?_
      refine WL.buildSlice F.sl88 F.ez88 rfl rfl rfl rfl (by repeat (first | exact Built.nil | apply Built.one rfl rfl (by repeat constructor) | apply Built.agg rfl rfl (by repeat constructor))) rfl (fun b30 => ?_)
      refine WL.step ?_
      refine WL.alloc F.zero88 rfl (fun b8 => ?_)
      refine WL.step ?_
      refine WL.store1 F.one88 rfl rfl rfl (by repeat (first | exact Upd.here | apply Upd.there)) (by repeat constructor) ?_
      refine WL.nil ?_
      refine WQ.then_normal ?_
      refine WC.seq ?_
      refine WC.seq ?_
      refine WC.region ?_
      refine WL.step ?_
      refine WL.move rfl rfl ?_
      refine WL.step ?_
      refine WL.call0 (β := Nat) (res := fun y => .returned (.func (.func 76) [].toArray [pp y].toArray)) (cs := fun y => [pt y [.slice a ls.length cap] 33]) (ψ := fun _ => True) F.fun50 (fun d h => by cases h; rfl) rfl (fun w hS => (Backward_c a ls.length cap w).mono (fun e w2 ⟨x, h1, h2⟩ => ⟨x, trivial, h1, h2⟩)) (fun b32 _ => ?_)
      refine WL.nil ?_
      refine WQ.then_normal ?_
      refine WC.block ?_
      refine WC.chunksE (C' := fun F1 => [pt b8 [.slice (some ⟨b30, 0, none⟩) 1 1] 88, rowc (.slice (some ⟨b30, 0, none⟩) 1 1) 1 27 2 (dcs [(z29.1.1, z29.1.2.1, z29.1.2.2)]), dsC F1 [(z29.1.1, z29.1.2.1, z29.1.2.2)], pt b32 [.slice a ls.length cap] 33]) (fun w hS => ?_) (fun F1 => ?_)
      · have hS1 := St.rowOf (n := 1) (sz := 2) ((St.pick hS (c := pt b30 [.slice z29.1.2.1 (canon z29.1.1).1.length z29.1.2.2, .int .i64 ((canon z29.1.1).2 : Int)] 27) (by repeat (first | exact Rem.here | apply Rem.there)))) rfl (by decide)
        obtain ⟨F1, hF1⟩ := St.dsSnoc z29.2.1 ((show St _ _ (dsC [] [] :: dC z29.1.2.1 z29.1.2.2 z29.1.1 :: _) w from St.dsNil ((St.pick hS1 (c := z29.ch) (by repeat (first | exact Rem.here | apply Rem.there))))))
        exact ⟨F1, ((St.pick (St.pick (St.pick (St.pick hF1 (c := pt b32 [.slice a ls.length cap] 33) (by repeat (first | exact Rem.here | apply Rem.there))) (c := dsC F1 ([] ++ [(z29.1.1, z29.1.2.1, z29.1.2.2)])) (by repeat (first | exact Rem.here | apply Rem.there))) (c := rowc (.slice (some ⟨b30, 0, none⟩) 1 1) 1 27 2 [.slice z29.1.2.1 (canon z29.1.1).1.length z29.1.2.2, .int .i64 ((canon z29.1.1).2 : Int)]) (by repeat (first | exact Rem.here | apply Rem.there))) (c := pt b8 [.slice (some ⟨b30, 0, none⟩) 1 1] 88) (by repeat (first | exact Rem.here | apply Rem.there)))).sublist (List.Sublist.cons_cons _ (List.Sublist.cons_cons _ (List.Sublist.cons_cons _ (List.Sublist.cons_cons _ (List.nil_sublist _)))))⟩
      have hI0 : BehI ls 0 (⟨[(z29.1.1, z29.1.2.1, z29.1.2.2)], some ⟨b30, 0, none⟩, 1, F1⟩ : BehG) := ⟨rfl, Nat.zero_le _, fun j x hx cf => by
        have hj : j = 0 := by (have := (List.getElem?_eq_some_iff.1 hx).1; simp at this; omega)
        subst hj; simp at hx; subst hx
        dsimp only; rw [z29.2.2]; simp⟩
      refine WC.rangeFunc (σ := BehG) (ps := [33, 34]) (gf := 76) (cap := [pp b32]) (n := us.length) (C1 := [pt b32 [.slice a ls.length cap] 33]) (fun k : Nat => [Value.int .i64 ((us.length : Int) - 1 - k), us.getD (us.length - 1 - k) undef]) (BehI ls) (behJ b8) (behF b8) (⟨[(z29.1.1, z29.1.2.1, z29.1.2.2)], some ⟨b30, 0, none⟩, 1, F1⟩ : BehG) (behFp b8) hI0 rfl F.fun76 (fun _ => rfl) (by kernel_rfl) (List.Perm.refl _) (fun l ch w hl hS hch hdis hf hrd => ?_) (fun l r k y w1 hk hI hrs hl hS1 => ?_) (fun Db y hI => ?_)
      · refine Backward1_c ch (fun y => l :: behF b8 y) hch (BehI ls) l b32 cap us a (by omega) (⟨[(z29.1.1, z29.1.2.1, z29.1.2.2)], some ⟨b30, 0, none⟩, 1, F1⟩ : BehG) hI0 w ?_ ?_ ?_ hrd hf
        · rw [hr.len]; exact hS.cell (List.mem_append_right _ (List.mem_cons_self ..)) rfl
        · intro hb
          rcases List.mem_cons.1 hb with e | hb
          · exact hdis _ (List.mem_append_right _ (List.mem_cons_self ..)) b32 rfl e
          · exact St.off hS (behFp b8 (⟨[(z29.1.1, z29.1.2.1, z29.1.2.2)], some ⟨b30, 0, none⟩, 1, F1⟩ : BehG)) (List.mem_cons_self ..) (k := b32) rfl hb
        · intro j u hu
          obtain ⟨blk, off, e1, e2⟩ := hr.hd j u hu
          exact ⟨blk, off, e1, hS.oldc e2 (by simp), St.off0 hS (behFp b8 (⟨[(z29.1.1, z29.1.2.1, z29.1.2.2)], some ⟨b30, 0, none⟩, 1, F1⟩ : BehG)) hl (World.block_lt_of_cell? _ _ e2)⟩
      · skip
        have hk' : k < ls.length := by (rw [← hr.len]; exact hk)
        obtain ⟨c, bb, off, a1, cap1, hc, hu, hab, hcell, hrc⟩ := hr.at2 (i := us.length - 1 - k) (by have := hr.len; omega)
        have hgd : us.getD (us.length - 1 - k) undef = .slice a1 c.length cap1 := by rw [List.getD_eq_getElem?_getD, hu]; rfl
        rw [hr.len] at hc
        have hcc := hc
        obtain ⟨hkl, hkb⟩ := hin.2.2 c (List.mem_of_getElem? hc)
        have hE : ∀ {C : List Chunk} {w : World}, St w1 (l :: behF b8 y) C w → Ext _ w := fun hS => St.extR hS1 (behFp b8 y) hl hS
        obtain ⟨x, hx⟩ : ∃ x, y.Bs[k]? = some x := ⟨_, List.getElem?_eq_getElem (by have := hI.len; omega)⟩
        have hBl := hI.len
        obtain ⟨Bs, sa, sc, Fb⟩ := y
        dsimp only at hI hx hBl hE ⊢
        simp only [putL, behJ]
        rw [hgd]
        refine WI.know (φ := ∃ g, sa = some ⟨g, 0, none⟩ ∧ Bs.length = Bs.length ∧ Bs.length ≤ sc) (fun w hS => rowc_addr (hS.ok (rowc (.slice sa Bs.length sc) Bs.length 27 2 (dcs Bs)) (by repeat (first | exact List.Mem.head _ | apply List.Mem.tail))) (by omega)) (fun ⟨g8, hg8, _, _⟩ => ?_)
        subst hg8
        have hxm : x ∈ Bs := List.mem_of_getElem? hx
        refine WI.region (fun ⟨_, _, h⟩ => h) (by kernel_rfl) ?_
        refine WL.step ?_
        refine WL.assign rfl rfl ?_
        refine WL.nil ?_
        refine WQ.begin hrs (C1 := [pt b8 [.slice (some ⟨g8, 0, none⟩) Bs.length sc] 88, rowc (.slice (some ⟨g8, 0, none⟩) Bs.length sc) Bs.length 27 2 (dcs Bs), dsC Fb Bs]) (List.Perm.refl _) ?_
        refine WI.block ?_
        refine WI.drawsL (fun ⟨_, _, h⟩ => h) (by kernel_rfl) (by kernel_rfl) (FactsOk.cons (ds := [11, 12]) (LoadOk.one (t := 8) (off := 0) rfl (by repeat (first | exact List.Mem.head _ | apply List.Mem.tail)) rfl) (FactsOk.cons (ds := [9, 10, 11, 12]) (LoadOk.one (t := 8) (off := 0) rfl (by repeat (first | exact List.Mem.head _ | apply List.Mem.tail)) rfl) (FactsOk.cons (ds := [9, 10, 11, 12]) (LoadOk.one (t := 8) (off := 0) rfl (by repeat (first | exact List.Mem.head _ | apply List.Mem.tail)) rfl) (FactsOk.cons (ds := [9, 10, 11, 12]) (LoadOk.by (Y := (fun w => ∀ j v, (dvs x)[j]? = some v → w.cell? ⟨g8, 0 + k * 2 + j, none⟩ = some v)) (fun w hS => fun j v hv => by rw [Nat.zero_add]; exact rowc_cells (hS.ok (rowc (.slice (some ⟨g8, 0, none⟩) Bs.length sc) Bs.length 27 2 (dcs Bs)) (by repeat (first | exact List.Mem.head _ | apply List.Mem.tail))) (dcs_at hx j v hv))) (FactsOk.nil))))) ?_
        refine WD.take (i := 0) rfl rfl rfl rfl (by kernel_rfl) (by kernel_rfl) (by kernel_rfl) (fun _ _ _ h => h) (by kernel_rfl) (need_at 0 13 rfl (by kernel_rfl)) (Yl.load1 F.one88 rfl) ?_
        refine WD.take (i := 1) rfl rfl rfl rfl (by kernel_rfl) (by kernel_rfl) (by kernel_rfl) (fun _ _ _ h => h) (by kernel_rfl) (need_at 1 13 rfl (by kernel_rfl)) (Yl.load1 F.one88 rfl) ?_
        refine WD.take (i := 2) rfl rfl rfl rfl (by kernel_rfl) (by kernel_rfl) (by kernel_rfl) (fun _ _ _ h => h) (by kernel_rfl) (need_at 2 13 rfl (by kernel_rfl)) (Yl.load1 F.one88 rfl) ?_
        refine WD.take (i := 3) rfl rfl rfl rfl (by kernel_rfl) (by kernel_rfl) (by kernel_rfl) (fun _ _ _ h => h) (by kernel_rfl) need_none (Yl.lenSl F.und88 rfl) ?_
        refine WD.take (i := 4) rfl rfl rfl rfl (by kernel_rfl) (by kernel_rfl) (by kernel_rfl) (fun _ _ _ h => h) (by kernel_rfl) need_none (show Yl _ _ _ _ _ _ (Value.int .i64 (k : Int)) from by rw [show (k : Int) = (Bs.length : Int) - 1 by omega]; exact Yl.sub rfl rfl ⟨by omega, by omega⟩) ?_
        refine WD.take (i := 5) rfl rfl rfl rfl (by kernel_rfl) (by kernel_rfl) (by kernel_rfl) (fun _ _ _ h => h) (by kernel_rfl) need_none (Yl.indexAddr F.sl88 rfl rfl (by omega)) ?_
        refine WD.take (i := 6) rfl rfl rfl rfl (by kernel_rfl) (by kernel_rfl) (by kernel_rfl) (fun _ _ _ h => h) (by kernel_rfl) (need_at 3 13 rfl (by kernel_rfl)) (Yl.loadN F.agg27 rfl rfl) ?_
        refine WD.take (i := 7) rfl rfl rfl rfl (by kernel_rfl) (by kernel_rfl) (by kernel_rfl) (fun _ _ _ h => h) (by kernel_rfl) need_none (Yl.move rfl) ?_
        refine WD.one (i := 8) (by kernel_rfl) rfl ?_
        refine WL.call0 (β := DRes (clauseB c)) (res := fun z => .returned z.v) (cs := fun z => [z.ch]) (ψ := fun _ => True) F.fun48 (fun d h => by cases h; rfl) rfl (fun w hS => (clause_c c a1 cap1 hkb (by omega) w (RdC.ext hrc (hE hS))).mono (fun e w2 ⟨x, h1, h2⟩ => ⟨x, trivial, h1, h2⟩)) (fun z43 _ => ?_)
        refine WD.on (closed_of (by kernel_rfl)) (fun w hS => Sx.keep (hS.cell (by repeat (first | exact List.Mem.head _ | apply List.Mem.tail)) rfl) (Sx.keep (hS.cell (by repeat (first | exact List.Mem.head _ | apply List.Mem.tail)) rfl) (Sx.keep (hS.cell (by repeat (first | exact List.Mem.head _ | apply List.Mem.tail)) rfl) (Sx.keep (fun j v hv => by rw [Nat.zero_add]; exact rowc_cells (hS.ok (rowc (.slice (some ⟨g8, 0, none⟩) Bs.length sc) Bs.length 27 2 (dcs Bs)) (by repeat (first | exact List.Mem.head _ | apply List.Mem.tail))) (dcs_at hx j v hv)) (Sx.none))))) ?_
        refine WD.one (i := 9) (by kernel_rfl) rfl ?_
        refine WL.call0 (β := DRes (fun cf => x.1.ev cf && z43.1.1.ev cf)) (res := fun z => .returned z.v) (cs := fun z => [z.ch]) (ψ := fun _ => True) F.fun47 (fun d h => by cases h; rfl) rfl (fun w hS => (And_c x.1 z43.1.1 x.2.1 z43.1.2.1 x.2.2 z43.1.2.2 w (dsC_rd (hS.ok (dsC Fb Bs) (by repeat (first | exact List.Mem.head _ | apply List.Mem.tail))) hxm) (z43.rd hS (by repeat (first | exact List.Mem.head _ | apply List.Mem.tail)))).mono (fun e w2 ⟨x, h1, h2⟩ => ⟨x, trivial, h1, h2⟩)) (fun z44 _ => ?_)
        refine WD.on (closed_of (by kernel_rfl)) (fun w hS => Sx.keep (hS.cell (by repeat (first | exact List.Mem.head _ | apply List.Mem.tail)) rfl) (Sx.gone rfl (Sx.gone rfl (Sx.gone rfl (Sx.none))))) ?_
        refine WD.one (i := 10) (by kernel_rfl) rfl ?_
        refine WL.buildSlice F.sl88 F.ez88 rfl rfl rfl rfl (by repeat (first | exact Built.nil | apply Built.one rfl rfl (by repeat constructor) | apply Built.agg rfl rfl (by repeat constructor))) rfl (fun b45 => ?_)
        refine WD.on (closed_of (by kernel_rfl)) (fun w hS => Sx.keep (hS.cell (by repeat (first | exact List.Mem.head _ | apply List.Mem.tail)) rfl) (Sx.gone rfl (Sx.gone rfl (Sx.gone rfl (Sx.none))))) ?_
        refine WD.one (i := 11) (by kernel_rfl) rfl ?_
        refine WL.appendE (news := dvs (z44.1.1, z44.1.2.1, z44.1.2.2)) F.el88 rfl rfl rfl (by repeat (first | exact Rem.here | apply Rem.there)) (fun w hS jj u hu => by rw [Nat.zero_add]; exact hS.cell (cs := dvs (z44.1.1, z44.1.2.1, z44.1.2.2)) (by repeat (first | exact List.Mem.head _ | apply List.Mem.tail)) hu) rfl (by simp [Value.oneCell']) (Nat.le_trans (m := 5000) (by omega) (by decide)) (by omega) (fun a2 c2 => ?_)
        refine WD.on (closed_of (by kernel_rfl)) (fun w hS => Sx.gone rfl (Sx.gone rfl (Sx.gone rfl (Sx.gone rfl (Sx.none))))) ?_
        refine WD.one (i := 12) (by kernel_rfl) rfl ?_
        refine WL.store1 F.one88 rfl rfl rfl (by repeat (first | exact Upd.here | apply Upd.there)) (by repeat constructor) ?_
        refine WD.on (closed_of (by kernel_rfl)) (fun w hS => Sx.gone rfl (Sx.gone rfl (Sx.gone rfl (Sx.gone rfl (Sx.none))))) ?_
        refine WD.done (by kernel_rfl) ?_
        refine WQ.block_normal ?_
        refine WQ.chunksE (C' := fun F9 => [ob1 l (.loop { r with state := .busy }), pt b8 [.slice a2 (Bs.length + 1) c2] 88, rowc (.slice a2 (Bs.length + 1) c2) (Bs.length + 1) 27 2 (dcs Bs ++ dvs (z44.1.1, z44.1.2.1, z44.1.2.2)), dsC F9 (Bs ++ [(z44.1.1, z44.1.2.1, z44.1.2.2)])]) (fun w hS => ?_) (fun F9 => ?_)
        · obtain ⟨F9, hF9⟩ := St.dsSnoc z44.2.1 ((St.pick (St.pick hS (c := z44.ch) (by repeat (first | exact Rem.here | apply Rem.there))) (c := dsC Fb Bs) (by repeat (first | exact Rem.here | apply Rem.there))))
          exact ⟨F9, ((St.pick (St.pick (St.pick (St.pick hF9 (c := dsC F9 (Bs ++ [(z44.1.1, z44.1.2.1, z44.1.2.2)])) (by repeat (first | exact Rem.here | apply Rem.there))) (c := rowc (.slice a2 (Bs.length + 1) c2) (Bs.length + 1) 27 2 (dcs Bs ++ dvs (z44.1.1, z44.1.2.1, z44.1.2.2))) (by repeat (first | exact Rem.here | apply Rem.there))) (c := pt b8 [.slice a2 (Bs.length + 1) c2] 88) (by repeat (first | exact Rem.here | apply Rem.there))) (c := ob1 l (.loop { r with state := .busy })) (by repeat (first | exact Rem.here | apply Rem.there)))).sublist (List.Sublist.cons_cons _ (List.Sublist.cons_cons _ (List.Sublist.cons_cons _ (List.Sublist.cons_cons _ (List.nil_sublist _)))))⟩
        refine WQ.round (⟨Bs ++ [(z44.1.1, z44.1.2.1, z44.1.2.2)], a2, c2, F9⟩ : BehG) (behI_next hI hk' hcc hx (fun cf => by rw [z44.2.2]; dsimp only; rw [z43.2.2])) (fun w hS => ?_)
        have e : (Bs ++ [(z44.1.1, z44.1.2.1, z44.1.2.2)]).length = Bs.length + 1 := by simp
        simp only [behJ, e, dcs_append]
        exact hS
      obtain ⟨Bs, sa, sc, Fb⟩ := y
      have hBl := hI.len
      have hBe := hI.ev
      rw [hr.len] at hBl
      dsimp only at hBl hBe
      refine WQ.chunks (C' := [ob1 Db (.deferred (some [])), pt b8 [.slice sa Bs.length sc] 88, rowc (.slice sa Bs.length sc) Bs.length 27 2 (dcs Bs), dsC Fb Bs]) (fun w hS => ((St.pick (St.pick (St.pick (St.pick hS (c := dsC Fb Bs) (by repeat (first | exact Rem.here | apply Rem.there))) (c := rowc (.slice sa Bs.length sc) Bs.length 27 2 (dcs Bs)) (by repeat (first | exact Rem.here | apply Rem.there))) (c := pt b8 [.slice sa Bs.length sc] 88) (by repeat (first | exact Rem.here | apply Rem.there))) (c := ob1 Db (.deferred (some []))) (by repeat (first | exact Rem.here | apply Rem.there)))).sublist (List.Sublist.cons_cons _ (List.Sublist.cons_cons _ (List.Sublist.cons_cons _ (List.Sublist.cons_cons _ (List.nil_sublist _)))))) ?_
      refine WQ.block_normal ?_
      refine WQ.then_normal ?_
      refine WC.seq ?_
      refine WC.region ?_
      refine WA.know (φ := ∃ g, sa = some ⟨g, 0, none⟩ ∧ Bs.length = Bs.length ∧ Bs.length ≤ sc) (fun w hS => rowc_addr (hS.ok (rowc (.slice sa Bs.length sc) Bs.length 27 2 (dcs Bs)) (by repeat (first | exact List.Mem.head _ | apply List.Mem.tail))) (by omega)) (fun ⟨g8, hg8, _, _⟩ => ?_)
      subst hg8
      refine WL.step ?_
      refine WL.loadP F.one88 rfl rfl (by repeat (first | exact List.Mem.head _ | apply List.Mem.tail)) rfl ?_
      refine WA.chunks (C' := [rowc (.slice (some ⟨g8, 0, none⟩) Bs.length sc) Bs.length 27 2 (dcs Bs), ob1 Db (.deferred (some [])), pt b8 [.slice (some ⟨g8, 0, none⟩) Bs.length sc] 88, dsC Fb Bs]) (fun w hS => ((St.pick (St.pick (St.pick (St.pick hS (c := dsC Fb Bs) (by repeat (first | exact Rem.here | apply Rem.there))) (c := pt b8 [.slice (some ⟨g8, 0, none⟩) Bs.length sc] 88) (by repeat (first | exact Rem.here | apply Rem.there))) (c := ob1 Db (.deferred (some []))) (by repeat (first | exact Rem.here | apply Rem.there))) (c := rowc (.slice (some ⟨g8, 0, none⟩) Bs.length sc) Bs.length 27 2 (dcs Bs)) (by repeat (first | exact Rem.here | apply Rem.there)))).sublist (List.Sublist.cons_cons _ (List.Sublist.cons_cons _ (List.Sublist.cons_cons _ (List.Sublist.cons_cons _ (List.nil_sublist _)))))) ?_
      refine WL.step ?_
      refine WL.callC (β := Unit) (res := fun _ => .tuple #[]) (cs := fun _ => [rowc (.slice (some ⟨g8, 0, none⟩) Bs.length sc) Bs.length 27 2 (dcs Bs.reverse)]) (Cs := [rowc (.slice (some ⟨g8, 0, none⟩) Bs.length sc) Bs.length 27 2 (dcs Bs)]) (C1 := [ob1 Db (.deferred (some [])), pt b8 [.slice (some ⟨g8, 0, none⟩) Bs.length sc] 88, dsC Fb Bs]) (O' := [g8]) F.fun51 (fun d h => by cases h; rfl) rfl (List.Perm.refl _) (fun c hc k hk => (by rw [List.mem_singleton.1 hc] at hk; have e : some g8 = some k := hk; injection e with e; subst e; simp)) (fun k hk => ⟨_, List.mem_singleton.2 rfl, by rw [List.mem_singleton.1 hk]; rfl⟩) (fun w hS hS2 => (Reverse_c Bs g8 sc (by omega) w hS2).mono (fun e w2 ⟨h1, h2⟩ => ⟨(), h1, h2⟩)) (fun _ => ?_)
      refine WL.nil ?_
      refine WQ.then_normal ?_
      refine WC.seq ?_
      refine WC.region ?_
      refine WL.step ?_
      refine WL.assign rfl rfl ?_
      refine WL.nil ?_
      refine WQ.then_normal ?_
      refine WC.seq ?_
      refine WC.region ?_
      refine WL.step ?_
      refine WL.call0 (β := DRes (fun _ => true)) (res := fun z => .returned z.v) (cs := fun z => [z.ch]) (ψ := fun _ => True) F.fun46 (fun d h => by cases h; rfl) rfl (fun w hS => (True_c w).mono (fun e w2 ⟨x, h1, h2⟩ => ⟨x, trivial, h1, h2⟩)) (fun z49 _ => ?_)
      refine WL.step ?_
      refine WL.alloc F.zero27 rfl (fun b12 => ?_)
      refine WL.step ?_
      refine WL.storeN F.agg27 rfl rfl rfl (by simp [Value.oneCell']) (by repeat (first | exact Upd.here | apply Upd.there)) (by repeat constructor) ?_
      refine WL.nil ?_
      refine WQ.then_normal ?_
      refine WC.seq ?_
      refine WC.seq ?_
      refine WC.region ?_
      refine WL.step ?_
      refine WL.move rfl rfl ?_
      refine WL.step ?_
      refine WL.lenSl F.und33 rfl rfl ?_
      refine WL.step ?_
      refine WL.move rfl rfl ?_
      refine WL.nil ?_
      refine WQ.then_normal ?_
      refine WC.block ?_
      refine WC.chunks (C' := [ob1 Db (.deferred (some [])), pt b8 [.slice (some ⟨g8, 0, none⟩) Bs.length sc] 88, rowc (.slice (some ⟨g8, 0, none⟩) Bs.length sc) Bs.length 27 2 (dcs Bs.reverse), dsC Fb Bs, pt b12 [.slice z49.1.2.1 (canon z49.1.1).1.length z49.1.2.2, .int .i64 ((canon z49.1.1).2 : Int)] 27, z49.ch, rowc (.slice none 0 0) 0 3 1 []]) (fun w hS => ((St.pick (St.pick (St.pick (St.pick (St.pick (St.pick (St.pick (hS.rowNil 3 1) (c := rowc (.slice none 0 0) 0 3 1 []) (by repeat (first | exact Rem.here | apply Rem.there))) (c := z49.ch) (by repeat (first | exact Rem.here | apply Rem.there))) (c := pt b12 [.slice z49.1.2.1 (canon z49.1.1).1.length z49.1.2.2, .int .i64 ((canon z49.1.1).2 : Int)] 27) (by repeat (first | exact Rem.here | apply Rem.there))) (c := dsC Fb Bs) (by repeat (first | exact Rem.here | apply Rem.there))) (c := rowc (.slice (some ⟨g8, 0, none⟩) Bs.length sc) Bs.length 27 2 (dcs Bs.reverse)) (by repeat (first | exact Rem.here | apply Rem.there))) (c := pt b8 [.slice (some ⟨g8, 0, none⟩) Bs.length sc] 88) (by repeat (first | exact Rem.here | apply Rem.there))) (c := ob1 Db (.deferred (some []))) (by repeat (first | exact Rem.here | apply Rem.there)))).sublist (List.Sublist.cons_cons _ (List.Sublist.cons_cons _ (List.Sublist.cons_cons _ (List.Sublist.cons_cons _ (List.Sublist.cons_cons _ (List.Sublist.cons_cons _ (List.Sublist.cons_cons _ (List.nil_sublist _))))))))) ?_
      refine WC.loop (α := CoreS) (fun g => g.i ≤ ls.length ∧ g.t.ok 0 ∧ ∀ cf, g.t.ev cf = (pickL ls (coreG ls g.i)).all (fun k => clauseB k cf)) (fun g => [(8, pp b8), (12, pp b12), (11, .slice g.oa (coreG ls g.i).length g.oc), (50, .slice a ls.length cap), (51, .int .i64 (ls.length : Int)), (52, .int .i64 (g.i : Int))]) (fun g => [ob1 Db (.deferred (some [])), pt b8 [.slice (some ⟨g8, 0, none⟩) Bs.length sc] 88, rowc (.slice (some ⟨g8, 0, none⟩) Bs.length sc) Bs.length 27 2 (dcs Bs.reverse), dsC Fb Bs, pt b12 [.slice g.ad (canon g.t).1.length g.ac, .int .i64 ((canon g.t).2 : Int)] 27, dC g.ad g.ac g.t, rowc (.slice g.oa (coreG ls g.i).length g.oc) (coreG ls g.i).length 3 1 (nums (coreG ls g.i))]) (fun g => ls.length - g.i) (⟨0, z49.1.1, z49.1.2.1, z49.1.2.2, none, 0⟩) ?_ ?_ ?_ ?_
      · exact ⟨Nat.zero_le _, z49.2.1, fun cf => by rw [z49.2.2]; rfl⟩
      · exact ⟨rfl, rfl, rfl, rfl, rfl, rfl, trivial⟩
      · rfl
      rintro ⟨i, t, ad, ac, oa, oc⟩ ⟨hi, hok, hev⟩
      dsimp only at hi hok hev
      show WC _ _ _ _ _ _ _ [(8, pp b8), (12, pp b12), (11, .slice oa (coreG ls i).length oc), (50, .slice a ls.length cap), (51, .int .i64 (ls.length : Int)), (52, .int .i64 (i : Int))] [ob1 Db (.deferred (some [])), pt b8 [.slice (some ⟨g8, 0, none⟩) Bs.length sc] 88, rowc (.slice (some ⟨g8, 0, none⟩) Bs.length sc) Bs.length 27 2 (dcs Bs.reverse), dsC Fb Bs, pt b12 [.slice ad (canon t).1.length ac, .int .i64 ((canon t).2 : Int)] 27, dC ad ac t, rowc (.slice oa (coreG ls i).length oc) (coreG ls i).length 3 1 (nums (coreG ls i))]
      refine WC.seq ?_
      refine WC.region ?_
      refine WL.step ?_
      refine WL.ltI rfl rfl rfl ?_
      refine WL.nil ?_
      refine WQ.then_normal ?_
      refine WC.seq ?_
      refine WC.cond rfl (fun h53 => ?_) (fun h53 => ?_)
      · skip
        have hlt : i < ls.length := by simpa using h53
        obtain ⟨c, b, off, a1, cap1, hc, rfl, hcell, hrc⟩ := hr.at hlt
        obtain ⟨hkl, hkb⟩ := hin.2.2 c (List.mem_of_getElem? hc)
        obtain ⟨x, hx⟩ : ∃ x, Bs.reverse[i + 1]? = some x := ⟨_, List.getElem?_eq_getElem (by simp; omega)⟩
        have hx' := hx
        rw [List.getElem?_reverse (by omega)] at hx'
        have hxm : x ∈ Bs := List.mem_of_getElem? hx'
        have hxe := hBe _ x hx'
        rw [show ls.length - (Bs.length - 1 - (i + 1)) = i + 1 by omega] at hxe
        have hgl := coreG_len ls i
        refine WC.skip ?_
        refine WQ.then_normal ?_
        refine WC.seq ?_
        refine WC.block ?_
        refine WC.seq ?_
        refine WC.region ?_
        refine WL.step ?_
        refine WL.move rfl rfl ?_
        refine WL.step ?_
        refine WL.indexAddr F.sl33 rfl rfl rfl hlt ?_
        refine WL.step ?_
        refine WL.load1 F.one23 rfl rfl (v := .slice a1 c.length cap1) (fun w hS => hS.oldc (by simpa using hcell) (by simp)) ?_
        refine WL.step ?_
        refine WL.assign rfl rfl ?_
        refine WL.step ?_
        refine WL.assign rfl rfl ?_
        refine WL.nil ?_
        refine WQ.then_normal ?_
        refine WC.seq ?_
        refine WC.drawsL (by kernel_rfl) (FactsOk.cons (ds := [6, 7]) (LoadOk.whole (t := 12) rfl (by repeat (first | exact List.Mem.head _ | apply List.Mem.tail))) (FactsOk.cons (ds := [6, 7]) (LoadOk.one (t := 8) (off := 0) rfl (by repeat (first | exact List.Mem.head _ | apply List.Mem.tail)) rfl) (FactsOk.cons (ds := [6, 7]) (LoadOk.by (Y := (fun w => ∀ j v, (dvs x)[j]? = some v → w.cell? ⟨g8, 0 + (i + 1) * 2 + j, none⟩ = some v)) (fun w hS => fun j v hv => by rw [Nat.zero_add]; exact rowc_cells (hS.ok (rowc (.slice (some ⟨g8, 0, none⟩) Bs.length sc) Bs.length 27 2 (dcs Bs.reverse)) (by repeat (first | exact List.Mem.head _ | apply List.Mem.tail))) (dcs_at hx j v hv))) (FactsOk.nil)))) ?_
        refine WD.take (i := 0) rfl rfl rfl rfl (by kernel_rfl) (by kernel_rfl) (by kernel_rfl) (fun _ _ _ h => h) (by kernel_rfl) (need_at 0 9 rfl (by kernel_rfl)) (Yl.loadN F.agg27 rfl rfl) ?_
        refine WD.take (i := 1) rfl rfl rfl rfl (by kernel_rfl) (by kernel_rfl) (by kernel_rfl) (fun _ _ _ h => h) (by kernel_rfl) (need_at 1 9 rfl (by kernel_rfl)) (Yl.load1 F.one88 rfl) ?_
        refine WD.take (i := 2) rfl rfl rfl rfl (by kernel_rfl) (by kernel_rfl) (by kernel_rfl) (fun _ _ _ h => h) (by kernel_rfl) need_none (Yl.move rfl) ?_
        refine WD.take (i := 3) rfl rfl rfl rfl (by kernel_rfl) (by kernel_rfl) (by kernel_rfl) (fun _ _ _ h => h) (by kernel_rfl) need_none (show Yl _ _ _ _ _ _ (Value.int .i64 ((i + 1 : Nat) : Int)) from by rw [show ((i + 1 : Nat) : Int) = (i : Int) + 1 by omega]; exact Yl.add rfl rfl ⟨by omega, by omega⟩) ?_
        refine WD.take (i := 4) rfl rfl rfl rfl (by kernel_rfl) (by kernel_rfl) (by kernel_rfl) (fun _ _ _ h => h) (by kernel_rfl) need_none (Yl.indexAddr F.sl88 rfl rfl (by omega)) ?_
        refine WD.take (i := 5) rfl rfl rfl rfl (by kernel_rfl) (by kernel_rfl) (by kernel_rfl) (fun _ _ _ h => h) (by kernel_rfl) (need_at 2 9 rfl (by kernel_rfl)) (Yl.loadN F.agg27 rfl rfl) ?_
        refine WD.one (i := 6) (by kernel_rfl) rfl ?_
        refine WL.call0 (β := DRes (fun cf => t.ev cf && x.1.ev cf)) (res := fun z => .returned z.v) (cs := fun z => [z.ch]) (ψ := fun _ => True) F.fun47 (fun d h => by cases h; rfl) rfl (fun w hS => (And_c t x.1 ad x.2.1 ac x.2.2 w (RdD.of_row hok (hS.ok (dC ad ac t) (by repeat (first | exact List.Mem.head _ | apply List.Mem.tail)))) (dsC_rd (hS.ok (dsC Fb Bs) (by repeat (first | exact List.Mem.head _ | apply List.Mem.tail))) hxm)).mono (fun e w2 ⟨x, h1, h2⟩ => ⟨x, trivial, h1, h2⟩)) (fun z63 _ => ?_)
        refine WD.on (closed_of (by kernel_rfl)) (fun w hS => Sx.gone rfl (Sx.gone rfl (Sx.gone rfl (Sx.none)))) ?_
        refine WD.one (i := 7) (by kernel_rfl) rfl ?_
        refine WL.callV F.fun18 rfl rfl (fun w hS => Empty_c z63.1.1 z63.1.2.1 z63.1.2.2 w) ?_
        refine WD.on (closed_of (by kernel_rfl)) (fun w hS => Sx.gone rfl (Sx.gone rfl (Sx.gone rfl (Sx.none)))) ?_
        refine WD.take (i := 8) rfl rfl rfl rfl (by kernel_rfl) (by kernel_rfl) (by kernel_rfl) (fun _ _ _ h => h) (by kernel_rfl) need_none (Yl.not rfl) ?_
        refine WD.done (by kernel_rfl) ?_
        refine WQ.then_normal ?_
        refine WC.cond rfl (fun h65 => ?_) (fun h65 => ?_)
        · skip
          have hz := sat_canon (ls := pickL ls (coreG ls i) ++ ls.drop (i + 1)) z63.2.1 (fun cf => by rw [z63.2.2]; dsimp only; rw [hev, hxe, List.all_append])
          rw [hz] at h65
          have hstep : coreG ls (i + 1) = coreG ls i ++ [i] := by (conv => lhs; unfold coreG); rw [if_pos h65]
          refine WC.seq ?_
          refine WC.region ?_
          refine WL.step ?_
          refine WL.move rfl rfl ?_
          refine WL.step ?_
          refine WL.move rfl rfl ?_
          refine WL.step ?_
          refine WL.buildSlice F.sl23 F.ez23 rfl rfl rfl rfl (by repeat (first | exact Built.nil | apply Built.one rfl rfl (by repeat constructor) | apply Built.agg rfl rfl (by repeat constructor))) rfl (fun b68 => ?_)
          refine WL.step ?_
          refine WL.appendE (news := [.int .i64 (i : Int)]) F.el23 rfl rfl rfl (by repeat (first | exact Rem.here | apply Rem.there)) (fun w hS jj u hu => by rw [Nat.zero_add]; exact hS.cell (cs := [.int .i64 (i : Int)]) (by repeat (first | exact List.Mem.head _ | apply List.Mem.tail)) hu) (by simp [nums]) (by simp [Value.oneCell']) (Nat.le_trans (m := 5000) (by omega) (by decide)) (by omega) (fun a2 c2 => ?_)
          refine WL.step ?_
          refine WL.assign rfl rfl ?_
          refine WL.nil ?_
          refine WQ.then_normal ?_
          refine WC.drawsL (by kernel_rfl) (FactsOk.cons (ds := [3, 4]) (LoadOk.whole (t := 12) rfl (by repeat (first | exact List.Mem.head _ | apply List.Mem.tail))) (FactsOk.nil)) ?_
          refine WD.take (i := 0) rfl rfl rfl rfl (by kernel_rfl) (by kernel_rfl) (by kernel_rfl) (fun _ _ _ h => h) (by kernel_rfl) (need_at 0 5 rfl (by kernel_rfl)) (Yl.loadN F.agg27 rfl rfl) ?_
          refine WD.take (i := 1) rfl rfl rfl rfl (by kernel_rfl) (by kernel_rfl) (by kernel_rfl) (fun _ _ _ h => h) (by kernel_rfl) need_none (Yl.move rfl) ?_
          refine WD.one (i := 2) (by kernel_rfl) rfl ?_
          refine WL.call0 (β := DRes (clauseB c)) (res := fun z => .returned z.v) (cs := fun z => [z.ch]) (ψ := fun _ => True) F.fun48 (fun d h => by cases h; rfl) rfl (fun w hS => (clause_c c a1 cap1 hkb (by omega) w (hrc.next hS)).mono (fun e w2 ⟨x, h1, h2⟩ => ⟨x, trivial, h1, h2⟩)) (fun z72 _ => ?_)
          refine WD.on (closed_of (by kernel_rfl)) (fun w hS => Sx.keep ((fun j v hv => by rw [Nat.zero_add]; exact hS.cell (by repeat (first | exact List.Mem.head _ | apply List.Mem.tail)) hv)) (Sx.none)) ?_
          refine WD.one (i := 3) (by kernel_rfl) rfl ?_
          refine WL.call0 (β := DRes (fun cf => t.ev cf && z72.1.1.ev cf)) (res := fun z => .returned z.v) (cs := fun z => [z.ch]) (ψ := fun _ => True) F.fun47 (fun d h => by cases h; rfl) rfl (fun w hS => (And_c t z72.1.1 ad z72.1.2.1 ac z72.1.2.2 w (RdD.of_row hok (hS.ok (dC ad ac t) (by repeat (first | exact List.Mem.head _ | apply List.Mem.tail)))) (z72.rd hS (by repeat (first | exact List.Mem.head _ | apply List.Mem.tail)))).mono (fun e w2 ⟨x, h1, h2⟩ => ⟨x, trivial, h1, h2⟩)) (fun z73 _ => ?_)
          refine WD.on (closed_of (by kernel_rfl)) (fun w hS => Sx.gone rfl (Sx.none)) ?_
          refine WD.one (i := 4) (by kernel_rfl) rfl ?_
          refine WL.storeN F.agg27 rfl rfl rfl (by simp [Value.oneCell']) (by repeat (first | exact Upd.here | apply Upd.there)) (by repeat constructor) ?_
          refine WD.on (closed_of (by kernel_rfl)) (fun w hS => Sx.gone rfl (Sx.none)) ?_
          refine WD.done (by kernel_rfl) ?_
          refine WQ.block_normal ?_
          refine WQ.then_normal ?_
          refine WC.region ?_
          refine WL.step ?_
          refine WL.add rfl rfl rfl ⟨by omega, by omega⟩ ?_
          refine WL.step ?_
          refine WL.move rfl rfl ?_
          refine WL.nil ?_
          refine WQ.chunks (C' := [ob1 Db (.deferred (some [])), pt b8 [.slice (some ⟨g8, 0, none⟩) Bs.length sc] 88, rowc (.slice (some ⟨g8, 0, none⟩) Bs.length sc) Bs.length 27 2 (dcs Bs.reverse), dsC Fb Bs, pt b12 [.slice z73.1.2.1 (canon z73.1.1).1.length z73.1.2.2, .int .i64 ((canon z73.1.1).2 : Int)] 27, z73.ch, rowc (.slice a2 ((coreG ls i).length + 1) c2) ((coreG ls i).length + 1) 3 1 (nums (coreG ls i) ++ [.int .i64 (i : Int)])]) (fun w hS => ((St.pick (St.pick (St.pick (St.pick (St.pick (St.pick (St.pick hS (c := rowc (.slice a2 ((coreG ls i).length + 1) c2) ((coreG ls i).length + 1) 3 1 (nums (coreG ls i) ++ [.int .i64 (i : Int)])) (by repeat (first | exact Rem.here | apply Rem.there))) (c := z73.ch) (by repeat (first | exact Rem.here | apply Rem.there))) (c := pt b12 [.slice z73.1.2.1 (canon z73.1.1).1.length z73.1.2.2, .int .i64 ((canon z73.1.1).2 : Int)] 27) (by repeat (first | exact Rem.here | apply Rem.there))) (c := dsC Fb Bs) (by repeat (first | exact Rem.here | apply Rem.there))) (c := rowc (.slice (some ⟨g8, 0, none⟩) Bs.length sc) Bs.length 27 2 (dcs Bs.reverse)) (by repeat (first | exact Rem.here | apply Rem.there))) (c := pt b8 [.slice (some ⟨g8, 0, none⟩) Bs.length sc] 88) (by repeat (first | exact Rem.here | apply Rem.there))) (c := ob1 Db (.deferred (some []))) (by repeat (first | exact Rem.here | apply Rem.there)))).sublist (List.Sublist.cons_cons _ (List.Sublist.cons_cons _ (List.Sublist.cons_cons _ (List.Sublist.cons_cons _ (List.Sublist.cons_cons _ (List.Sublist.cons_cons _ (List.Sublist.cons_cons _ (List.nil_sublist _))))))))) ?_
          refine WQ.back ⟨i + 1, z73.1.1, z73.1.2.1, z73.1.2.2, a2, c2⟩ ⟨by show i + 1 ≤ ls.length; omega, z73.2.1, fun cf => by (show z73.1.1.ev cf = _; rw [z73.2.2, hstep, pickL_append, pickL_one hc, List.all_append]; dsimp only; rw [hev, z72.2.2]; simp)⟩ (by show ls.length - (i + 1) < ls.length - i; omega) ?_ ?_
          · simp only [hstep, List.length_append, List.length_singleton]
            exact ⟨rfl, rfl, rfl, rfl, rfl, rfl, trivial⟩
          · simp only [hstep, List.length_append, List.length_singleton, nums, List.map_append, List.map_cons, List.map_nil]
        · skip
          have hz := sat_canon (ls := pickL ls (coreG ls i) ++ ls.drop (i + 1)) z63.2.1 (fun cf => by rw [z63.2.2]; dsimp only; rw [hev, hxe, List.all_append])
          rw [hz] at h65
          have hstep : coreG ls (i + 1) = coreG ls i := by (conv => lhs; unfold coreG); rw [if_neg (by rw [h65]; simp)]
          refine WC.skip ?_
          refine WQ.block_normal ?_
          refine WQ.then_normal ?_
          refine WC.region ?_
          refine WL.step ?_
          refine WL.add rfl rfl rfl ⟨by omega, by omega⟩ ?_
          refine WL.step ?_
          refine WL.move rfl rfl ?_
          refine WL.nil ?_
          refine WQ.chunks (C' := [ob1 Db (.deferred (some [])), pt b8 [.slice (some ⟨g8, 0, none⟩) Bs.length sc] 88, rowc (.slice (some ⟨g8, 0, none⟩) Bs.length sc) Bs.length 27 2 (dcs Bs.reverse), dsC Fb Bs, pt b12 [.slice ad (canon t).1.length ac, .int .i64 ((canon t).2 : Int)] 27, dC ad ac t, rowc (.slice oa (coreG ls i).length oc) (coreG ls i).length 3 1 (nums (coreG ls i))]) (fun w hS => ((St.pick (St.pick (St.pick (St.pick (St.pick (St.pick (St.pick hS (c := rowc (.slice oa (coreG ls i).length oc) (coreG ls i).length 3 1 (nums (coreG ls i))) (by repeat (first | exact Rem.here | apply Rem.there))) (c := dC ad ac t) (by repeat (first | exact Rem.here | apply Rem.there))) (c := pt b12 [.slice ad (canon t).1.length ac, .int .i64 ((canon t).2 : Int)] 27) (by repeat (first | exact Rem.here | apply Rem.there))) (c := dsC Fb Bs) (by repeat (first | exact Rem.here | apply Rem.there))) (c := rowc (.slice (some ⟨g8, 0, none⟩) Bs.length sc) Bs.length 27 2 (dcs Bs.reverse)) (by repeat (first | exact Rem.here | apply Rem.there))) (c := pt b8 [.slice (some ⟨g8, 0, none⟩) Bs.length sc] 88) (by repeat (first | exact Rem.here | apply Rem.there))) (c := ob1 Db (.deferred (some []))) (by repeat (first | exact Rem.here | apply Rem.there)))).sublist (List.Sublist.cons_cons _ (List.Sublist.cons_cons _ (List.Sublist.cons_cons _ (List.Sublist.cons_cons _ (List.Sublist.cons_cons _ (List.Sublist.cons_cons _ (List.Sublist.cons_cons _ (List.nil_sublist _))))))))) ?_
          refine WQ.back ⟨i + 1, t, ad, ac, oa, oc⟩ ⟨by show i + 1 ≤ ls.length; omega, hok, fun cf => by (show t.ev cf = _; rw [hstep]; exact hev cf)⟩ (by show ls.length - (i + 1) < ls.length - i; omega) ?_ ?_
          · simp only [hstep]
            exact ⟨rfl, rfl, rfl, rfl, rfl, rfl, trivial⟩
          · simp only [hstep]
      · skip
        have hie : i = ls.length := by simp at h53; omega
        rw [hie] at *
        refine WC.exit ?_
        refine WQ.then_exit ?_
        refine WQ.then_exit ?_
        refine WQ.block_exit ?_
        refine WQ.then_normal ?_
        refine WC.seq ?_
        refine WC.region ?_
        refine WL.step ?_
        refine WL.move rfl rfl ?_
        refine WL.step ?_
        refine WL.assign rfl rfl ?_
        refine WL.step ?_
        refine WL.assign rfl rfl ?_
        refine WL.nil ?_
        refine WQ.then_normal ?_
        refine WC.ret ?_
        exact WQ.retM1 (rs := [.tmp 4, .tmp 5]) rfl (List.Perm.refl _) (.tmp rfl (.tmp rfl .nil)) (fun w hS => ⟨(oa, oc), by (unfold coreR coreE; rw [hs]; rfl), by (unfold coreR; rw [hs]; exact ((St.pick hS (c := rowc (.slice oa (coreG ls ls.length).length oc) (coreG ls ls.length).length 3 1 (nums (coreG ls ls.length))) (by repeat (first | exact Rem.here | apply Rem.there)))).sublist (List.Sublist.cons_cons _ (List.nil_sublist _)))⟩)

end Go.Proofs.Ytkgllhkhdjodeaa

/-! The core, as the document finds it. -/
namespace Go.Proofs.Ytkgllhkhdjodeaa
open Go Go.Eng Go.Proofs Dg
noncomputable def leftL (ls : List (List Int)) (i : Nat) : List Nat := coreG ls i ++ List.range' i (ls.length - i)
theorem pickL_len (ls : List (List Int)) : ∀ (o : List Nat), (∀ j ∈ o, j < ls.length) → (pickL ls o).length = o.length
  | [], _ => rfl
  | j :: o, h => by
    have ih := pickL_len ls o fun k hk => h k (List.mem_cons_of_mem _ hk)
    unfold pickL at ih ⊢
    rw [List.filterMap_cons, List.getElem?_eq_getElem (h j (List.mem_cons_self ..))]
    simp [ih]
theorem pickL_mem {ls : List (List Int)} {o : List Nat} {c : List Int} (h : c ∈ pickL ls o) : c ∈ ls := by
  obtain ⟨j, _, hj⟩ := List.mem_filterMap.1 h
  exact List.mem_of_getElem? hj
theorem pickL_at (ls : List (List Int)) : ∀ (o : List Nat), (∀ j ∈ o, j < ls.length) → ∀ (i : Nat) (c : List Int), (pickL ls o)[i]? = some c → ∃ j, o[i]? = some j ∧ ls[j]? = some c
  | [], _, i, c, h => by simp [pickL] at h
  | j :: o, h, i, c, hi => by
    have e : pickL ls (j :: o) = ls[j]'(h j (List.mem_cons_self ..)) :: pickL ls o := by
      unfold pickL
      rw [List.filterMap_cons, List.getElem?_eq_getElem (h j (List.mem_cons_self ..))]
    rw [e] at hi
    cases i with
    | zero =>
      simp at hi
      exact ⟨j, rfl, by rw [List.getElem?_eq_getElem (h j (List.mem_cons_self ..)), hi]⟩
    | succ i =>
      obtain ⟨k, h1, h2⟩ := pickL_at ls o (fun k hk => h k (List.mem_cons_of_mem _ hk)) i c (by simpa using hi)
      exact ⟨k, by simpa using h1, h2⟩
abbrev hdrs (us : List Value) (o : List Nat) : List Value := o.map (fun j => us.getD j undef)
theorem pick_rd {w : World} {ls : List (List Int)} {a aa : Option Addr} {us : List Value} (h : RdLL w ls a us) {o : List Nat} (ho : ∀ j ∈ o, j < ls.length) {n cap : Nat} (hn : n = o.length) (hr : (rowc (.slice aa n cap) n 23 1 (hdrs us o)).ok w) : RdLL w (pickL ls o) aa (hdrs us o) := by
  refine ⟨by rw [pickL_len ls o ho]; simp, fun i u hu => ?_, fun i c u hc hu => ?_⟩
  · have hlt := (List.getElem?_eq_some_iff.1 hu).1
    simp only [List.length_map] at hlt
    obtain ⟨g, hg, _, _⟩ := rowc_addr hr (by omega)
    subst hg
    exact ⟨g, 0, rfl, by rw [Nat.zero_add]; exact rowc_cell hr hu⟩
  · obtain ⟨j, hj, hcj⟩ := pickL_at ls o ho i c hc
    rw [List.getElem?_map, hj] at hu
    simp at hu
    have hjl : j < us.length := by rw [h.len]; exact (List.getElem?_eq_some_iff.1 hcj).1
    exact h.rd j c u hcj (by rw [List.getElem?_eq_getElem hjl] at hu ⊢; simpa using hu)
end Go.Proofs.Ytkgllhkhdjodeaa

namespace Go.Proofs.Ytkgllhkhdjodeaa
open Go Go.Eng Go.Proofs Dg
structure RcS where
  k : Nat
  oa : Option Addr
  oc : Nat
  ca : Option Addr
  cc : Nat
structure LfS where
  i : Nat
  a : Option Addr
  c : Nat

end Go.Proofs.Ytkgllhkhdjodeaa

namespace Go.Proofs.Ytkgllhkhdjodeaa
open Go Go.Eng Go.Proofs Dg
abbrev zs (o : List Nat) : List Int := o.map (fun i : Nat => (i : Int))
end Go.Proofs.Ytkgllhkhdjodeaa

/-! A core without one of its clauses. -/
namespace Go.Proofs.Ytkgllhkhdjodeaa
open Go Go.Eng Go.Proofs Dg
def exO (cr : List Nat) (o : Nat) : Option Nat := if o = 0 then none else cr[o - 1]?
def othO (cr : List Nat) (o k : Nat) : List Nat := (cr.take k).filter (fun j => some j != exO cr o)
theorem othO_zero (cr : List Nat) (o : Nat) : othO cr o 0 = [] := by simp [othO]
theorem othO_len (cr : List Nat) (o k : Nat) : (othO cr o k).length ≤ k := Nat.le_trans (List.length_filter_le _ _) (by simp; omega)
theorem sorted_ne {cr : List Nat} (h : cr.Pairwise (· < ·)) {i k a b : Nat} (hi : cr[i]? = some a) (hk : cr[k]? = some b) (hne : i ≠ k) : a ≠ b := by
  have key : ∀ {i k a b : Nat}, cr[i]? = some a → cr[k]? = some b → i < k → a < b := fun {i k a b} hi hk hlt => by
    obtain ⟨h1, h2⟩ := List.getElem?_eq_some_iff.1 hi
    obtain ⟨h3, h4⟩ := List.getElem?_eq_some_iff.1 hk
    have := List.pairwise_iff_getElem.1 h i k h1 h3 hlt
    omega
  rcases Nat.lt_or_gt_of_ne hne with h1 | h1
  · have := key hi hk h1; omega
  · have := key hk hi h1; omega
theorem othO_succ {cr : List Nat} (h : cr.Pairwise (· < ·)) {o k v : Nat} (ho : o ≤ cr.length) (hv : cr[k]? = some v) : othO cr o (k + 1) = othO cr o k ++ (if k + 1 = o then [] else [v]) := by
  unfold othO
  rw [List.take_add_one, hv, List.filter_append]
  congr 1
  by_cases h0 : o = 0
  · subst h0
    simp [exO]
  · obtain ⟨x, hx⟩ : ∃ x, cr[o - 1]? = some x := ⟨_, List.getElem?_eq_getElem (by omega)⟩
    by_cases hk : k + 1 = o
    · have e : k = o - 1 := by omega
      subst e
      rw [hv] at hx
      injection hx with hx
      simp [exO, h0, hv, hk]
    · have := sorted_ne h hv hx (by omega)
      simp [exO, h0, hx, hk, this]
theorem othO_full (cr : List Nat) (k : Nat) (hk : cr.length ≤ k) : othO cr 0 k = cr := by
  unfold othO
  rw [List.take_of_length_le hk]
  exact List.filter_eq_self.2 fun j _ => by simp [exO]
theorem othO_drop (cr : List Nat) {o k x : Nat} (hk : cr.length ≤ k) (ho : o ≠ 0) (hx : cr[o - 1]? = some x) : othO cr o k = cr.filter (fun j => j != x) := by
  unfold othO
  have e : exO cr o = some x := by unfold exO; rw [if_neg ho]; exact hx
  rw [List.take_of_length_le hk, e]
  apply List.filter_congr
  intro j _
  by_cases h : j = x
  · subst h; simp
  · have h1 : (j != x) = true := by simpa using h
    rw [h1]
    simpa using h
theorem oth_sat (ls : List (List Int)) (hs : satB ls = false) {o : Nat} (ho : o ≤ (coreG ls ls.length).length) : satB (pickL ls (othO (coreG ls ls.length) o (coreG ls ls.length).length)) = decide (o ≠ 0) := by
  by_cases h0 : o = 0
  · subst h0
    rw [othO_full _ _ (Nat.le_refl _)]
    have := coreG_unsat ls hs ls.length (Nat.le_refl _)
    rw [List.drop_length, List.append_nil] at this
    rw [this]; rfl
  · obtain ⟨x, hx⟩ : ∃ x, (coreG ls ls.length)[o - 1]? = some x := ⟨_, List.getElem?_eq_getElem (by omega)⟩
    rw [othO_drop _ (Nat.le_refl _) h0 hx]
    have hm := List.mem_of_getElem? hx
    have := coreG_need ls ls.length (Nat.le_refl _) x (coreG_lt ls _ x hm) hm
    rw [List.drop_length, List.append_nil] at this
    rw [this]; simp [h0]
theorem core_pos (ls : List (List Int)) (hs : satB ls = false) : 0 < (coreG ls ls.length).length := by
  cases hc : coreG ls ls.length with
  | cons x r => simp
  | nil =>
    have := coreG_unsat ls hs ls.length (Nat.le_refl _)
    rw [List.drop_length, List.append_nil, hc] at this
    have h1 : satB (pickL ls []) = true := satB_iff.2 ⟨fun _ => false, rfl⟩
    rw [h1] at this; cases this
theorem may_pick {n : Int} {ls : List (List Int)} (h : Fm.mayE n ls = 0) {o : List Nat} (hl : ∀ j ∈ o, j < ls.length) (hol : o.length ≤ ls.length) : Fm.mayE n (pickL ls o) = 0 := by
  obtain ⟨h1, h2, h3⟩ := may_zero h
  have hp := pickL_len ls o hl
  have hall : (pickL ls o).all (Fm.fitsB n) = true := List.all_eq_true.2 fun c hc => List.all_eq_true.1 h3 c (pickL_mem hc)
  unfold Fm.mayE
  simp only [hall]
  split
  · omega
  · split
    · omega
    · simp
end Go.Proofs.Ytkgllhkhdjodeaa

namespace Go.Proofs.Ytkgllhkhdjodeaa
open Go Go.Eng Go.Proofs Dg
structure MinS where
  k : Nat
  ca : Option Addr
  cc : Nat

set_option maxRecDepth 100000 in
theorem FormulaMinimal_c (n : Int) (ls : List (List Int)) (a : Option Addr) (cap : Nat) (us : List Value) (w : World) (_hn : -9223372036854775808 ≤ n ∧ n < 9223372036854775808) (hr : RdLL w ls a us) : Pure Try.prog 6 [.int .i64 n, .slice a ls.length cap] w (.bool true) := by
  refine enter Try.func6 rfl Try.ntmps6 rfl (St.init _) ?_
  refine WC.seq ?_
  refine WC.region ?_
  refine WL.step ?_
  refine WL.assign rfl rfl ?_
  refine WL.nil ?_
  refine WQ.then_normal ?_
  refine WC.seq ?_
  refine WC.seq ?_
  refine WC.cutF [(25, .bool (largeB ls || (decide (12 < n) || (Fm.mayE n ls != 0)))), (0, .int .i64 n), (1, .slice a ls.length cap)] (fun Q' hQ => ?_) ?_
  · skip
    refine WC.region ?_
    refine WL.step ?_
    refine WL.move rfl rfl ?_
    refine WL.step ?_
    refine WL.callV F.fun14 rfl rfl (fun w hS => Large_c ls a cap us w (hr.next hS)) ?_
    refine WL.step ?_
    refine WL.move rfl rfl ?_
    refine WA.splitB (i := 16) rfl (fun g16 => ?_) (fun g16 => ?_)
    · skip
      refine WL.step (WL.guardF rfl rfl rfl rfl rfl rfl ?_)
      refine WL.step (WL.guardF rfl rfl rfl rfl rfl rfl ?_)
      refine WL.step ?_
      refine WL.pickT rfl rfl rfl ?_
      refine WL.step ?_
      refine WL.move rfl rfl ?_
      refine WL.step (WL.guardF rfl rfl rfl rfl rfl rfl ?_)
      refine WL.step (WL.guardF rfl rfl rfl rfl rfl rfl ?_)
      refine WL.step (WL.guardF rfl rfl rfl rfl rfl rfl ?_)
      refine WL.step (WL.guardF rfl rfl rfl rfl rfl rfl ?_)
      refine WL.step ?_
      refine WL.pickT rfl rfl rfl ?_
      refine WL.nil ?_
      refine WQ.byCut hQ (subF_bool ?_ ⟨rfl, rfl, trivial⟩ rfl)
      first | (simp [g16]; done) | (simp [g16, g20]; done)
    · skip
      refine WL.step (WL.guardT rfl rfl rfl ?_)
      refine WL.move rfl rfl ?_
      refine WL.step (WL.guardT rfl rfl rfl ?_)
      refine WL.gtI rfl rfl rfl ?_
      refine WL.step ?_
      refine WL.pickF rfl rfl rfl ?_
      refine WL.step ?_
      refine WL.move rfl rfl ?_
      refine WA.splitB (i := 20) rfl (fun g20 => ?_) (fun g20 => ?_)
      · skip
        refine WL.step (WL.guardF rfl rfl rfl rfl rfl rfl ?_)
        refine WL.step (WL.guardF rfl rfl rfl rfl rfl rfl ?_)
        refine WL.step (WL.guardF rfl rfl rfl rfl rfl rfl ?_)
        refine WL.step (WL.guardF rfl rfl rfl rfl rfl rfl ?_)
        refine WL.step ?_
        refine WL.pickT rfl rfl rfl ?_
        refine WL.nil ?_
        refine WQ.byCut hQ (subF_bool ?_ ⟨rfl, rfl, trivial⟩ rfl)
        first | (simp [g16]; done) | (simp [g16, g20]; done)
      · skip
        refine WL.step (WL.guardT rfl rfl rfl ?_)
        refine WL.move rfl rfl ?_
        refine WL.step (WL.guardT rfl rfl rfl ?_)
        refine WL.move rfl rfl ?_
        refine WL.step (WL.guardT rfl rfl rfl ?_)
        refine WL.callV F.fun15 rfl rfl (fun w hS => rclauses_c n ls a cap us (by have := (large_no g16).1; omega) (fun c hc => by have := (large_no g16).2 c hc; omega) w (hr.next hS)) ?_
        refine WL.step (WL.guardT rfl rfl rfl ?_)
        refine WL.neI rfl rfl rfl ?_
        refine WL.step ?_
        refine WL.pickF rfl rfl rfl ?_
        refine WL.nil ?_
        refine WQ.byCut hQ (subF_bool ?_ ⟨rfl, rfl, trivial⟩ rfl)
        first | (simp [g16]; done) | (simp [g16, g20]; done)
  refine WQ.then_normal ?_
  refine WC.cond rfl (fun h25 => ?_) (fun h25 => ?_)
  · skip
    refine WC.seq ?_
    refine WC.region ?_
    refine WL.step ?_
    refine WL.callV F.fun13 rfl rfl (fun w _ => wakes_c w) ?_
    refine WL.step ?_
    refine WL.assign rfl rfl ?_
    refine WL.nil ?_
    refine WQ.then_normal ?_
    refine WC.ret ?_
    refine WQ.then_ret ?_
    exact WQ.ret (rs := [.tmp 4]) rfl (.tmp rfl .nil) (fun w hS => ⟨by first | rfl | simp [tup], hS.sublist (List.nil_sublist _)⟩)
  · skip
    simp only [Bool.or_eq_false_iff, decide_eq_false_iff_not, bne_eq_false_iff_eq] at h25
    obtain ⟨hL1, hn12, hme⟩ := h25
    obtain ⟨hl40, hc80⟩ := large_no hL1
    obtain ⟨hm0, hcount, hall⟩ := may_zero hme
    obtain ⟨m, rfl⟩ : ∃ m : Nat, n = (m : Int) := ⟨n.toNat, by omega⟩
    refine WC.skip ?_
    refine WQ.then_normal ?_
    refine WC.seq ?_
    refine WC.region ?_
    refine WL.step ?_
    refine WL.move rfl rfl ?_
    refine WL.step ?_
    refine WL.move rfl rfl ?_
    refine WL.step ?_
    refine WL.call0 (β := DRes (fun cf => ls.all (fun k => clauseB k cf))) (res := fun z => .returned (.tuple #[z.v, .int .i64 0])) (cs := fun z => [z.ch]) (ψ := fun _ => True) F.fun17 (fun d h => by cases h; rfl) rfl (fun w hS => (Conj_in m ls a cap us hme w (hr.next hS)).mono (fun e w2 ⟨x, h1, h2⟩ => ⟨x, trivial, h1, h2⟩)) (fun z30 _ => ?_)
    refine WL.step ?_
    refine WL.move rfl rfl ?_
    refine WL.step ?_
    refine WL.extract rfl rfl rfl ?_
    refine WL.step ?_
    refine WL.extract rfl rfl rfl ?_
    refine WL.step ?_
    refine WL.alloc F.zero27 rfl (fun b5 => ?_)
    refine WL.step ?_
    refine WL.storeN F.agg27 rfl rfl rfl (by simp [Value.oneCell']) (by repeat (first | exact Upd.here | apply Upd.there)) (by repeat constructor) ?_
    refine WL.step ?_
    refine WL.assign rfl rfl ?_
    refine WL.nil ?_
    refine WQ.then_normal ?_
    refine WC.seq ?_
    refine WC.region ?_
    refine WL.step ?_
    refine WL.move rfl rfl ?_
    refine WL.step ?_
    refine WL.move rfl rfl ?_
    refine WL.step ?_
    refine WL.callC (β := Option Addr × Nat) (res := fun y => .tuple #[.slice y.1 (coreR ls).length y.2, .int .i64 (coreE ls)]) (cs := fun y => [rowc (.slice y.1 (coreR ls).length y.2) (coreR ls).length 3 1 (nums (coreR ls))]) (Cs := []) (O' := []) F.fun21 (fun d h => by cases h; rfl) rfl (List.Perm.refl _) (by simp) (by simp) (fun w hS _ => Core_in m ls a cap us hme w (hr.next hS)) (fun y36 => ?_)
    have hsat := sat_canon z30.2.1 z30.2.2
    obtain ⟨ka, kc⟩ := y36
    dsimp only
    refine WL.step ?_
    refine WL.move rfl rfl ?_
    refine WL.step ?_
    refine WL.extract rfl rfl rfl ?_
    refine WL.step ?_
    refine WL.extract rfl rfl rfl ?_
    refine WL.step ?_
    refine WL.assign rfl rfl ?_
    refine WL.step ?_
    refine WL.assign rfl rfl ?_
    refine WL.nil ?_
    refine WQ.then_normal ?_
    refine WC.seq ?_
    refine WC.seq ?_
    refine WC.region ?_
    refine WL.step ?_
    refine WL.loadW F.agg27 rfl rfl (by repeat (first | exact List.Mem.head _ | apply List.Mem.tail)) rfl ?_
    refine WL.step ?_
    refine WL.callV F.fun18 rfl rfl (fun w hS => Empty_c z30.1.1 z30.1.2.1 z30.1.2.2 w) ?_
    refine WL.step ?_
    refine WL.not rfl rfl ?_
    refine WL.nil ?_
    refine WQ.then_normal ?_
    refine WC.cond rfl (fun h41 => ?_) (fun h41 => ?_)
    · skip
      have hs : satB ls = true := by (rw [← hsat]; exact h41)
      have hcE : coreE ls = 8 := by (unfold coreE; rw [if_pos hs])
      have hcR : coreR ls = [] := by (unfold coreR; rw [if_pos hs])
      rw [hcE, hcR]
      refine WC.seq ?_
      refine WC.region ?_
      refine WL.step ?_
      refine WL.move rfl rfl ?_
      refine WL.step ?_
      refine WL.eqI rfl rfl rfl ?_
      refine WL.step ?_
      refine WL.move rfl rfl ?_
      refine WA.splitB (i := 44) rfl (fun g44 => ?_) (fun g44 => ?_)
      · skip
        refine WL.step (WL.guardT rfl rfl rfl ?_)
        refine WL.move rfl rfl ?_
        refine WL.step (WL.guardT rfl rfl rfl ?_)
        refine WL.lenSl F.und23 rfl rfl ?_
        refine WL.step (WL.guardT rfl rfl rfl ?_)
        refine WL.eqI rfl rfl rfl ?_
        refine WL.step ?_
        refine WL.pickT rfl rfl rfl ?_
        refine WL.step ?_
        refine WL.move rfl rfl ?_
        refine WA.splitB (i := 49) rfl (fun g49 => ?_) (fun g49 => ?_)
        · skip
          refine WL.step (WL.guardT rfl rfl rfl ?_)
          refine WL.callV F.fun13 rfl rfl (fun w _ => wakes_c w) ?_
          refine WL.step ?_
          refine WL.pickT rfl rfl rfl ?_
          refine WL.step ?_
          refine WL.assign rfl rfl ?_
          refine WL.nil ?_
          refine WQ.then_normal ?_
          refine WC.ret ?_
          refine WQ.then_ret ?_
          exact WQ.ret (rs := [.tmp 4]) rfl (.tmp rfl .nil) (fun w hS => ⟨by first | rfl | simp [tup], hS.sublist (List.nil_sublist _)⟩)
        · skip
          exact absurd g49 (by simp)
      · skip
        exact absurd g44 (by simp)
    · skip
      have hs : satB ls = false := by (rw [← hsat]; exact h41)
      have hcE : coreE ls = 0 := by (unfold coreE; rw [hs]; rfl)
      have hcR : coreR ls = (coreG ls ls.length) := by (unfold coreR; rw [hs]; rfl)
      rw [hcE, hcR]
      have hos := fun o ho => oth_sat ls hs (o := o) ho
      have hpos := core_pos ls hs
      have hsrt := coreG_sorted ls ls.length
      have hclt := coreG_lt ls ls.length
      have hcln := coreG_len ls ls.length
      revert hos hpos hsrt hclt hcln
      generalize (coreG ls ls.length) = cr
      intro hos hpos hsrt hclt hcln
      refine WC.skip ?_
      refine WQ.then_normal ?_
      refine WC.seq ?_
      refine WC.seq ?_
      refine WC.region ?_
      refine WL.step ?_
      refine WL.move rfl rfl ?_
      refine WL.step ?_
      refine WL.neI rfl rfl rfl ?_
      refine WL.step ?_
      refine WL.move rfl rfl ?_
      refine WA.splitB (i := 54) rfl (fun g54 => ?_) (fun g54 => ?_)
      · skip
        exfalso; first | (revert g54; decide) | simp at g54
      · skip
        refine WL.step (WL.guardT rfl rfl rfl ?_)
        refine WL.move rfl rfl ?_
        refine WL.step (WL.guardT rfl rfl rfl ?_)
        refine WL.lenSl F.und23 rfl rfl ?_
        refine WL.step (WL.guardT rfl rfl rfl ?_)
        refine WL.eqI rfl rfl rfl ?_
        refine WL.step ?_
        refine WL.pickF rfl rfl rfl ?_
        refine WL.nil ?_
        refine WQ.then_normal ?_
        refine WC.cond rfl (fun h58 => ?_) (fun h58 => ?_)
        · skip
          exfalso; simp at h58; rw [h58] at hpos; simp at hpos
        · skip
          refine WC.skip ?_
          refine WQ.then_normal ?_
          refine WC.seq ?_
          refine WC.seq ?_
          refine WC.region ?_
          refine WL.step ?_
          refine WL.assign rfl rfl ?_
          refine WL.nil ?_
          refine WQ.then_normal ?_
          refine WC.block ?_
          refine WC.chunks (C' := [rowc (.slice ka cr.length kc) cr.length 3 1 (nums cr)]) (fun w hS => ((St.pick hS (c := rowc (.slice ka cr.length kc) cr.length 3 1 (nums cr)) (by repeat (first | exact Rem.here | apply Rem.there)))).sublist (List.Sublist.cons_cons _ (List.nil_sublist _))) ?_
          refine WC.facts (M := [(0, .int .i64 (m : Int)), (1, .slice a ls.length cap), (7, .slice ka cr.length kc), (9, .int .i64 ((((0 : Nat) : Int) : Int) - 1))]) ⟨rfl, rfl, rfl, rfl, trivial⟩ ?_
          refine WC.loop (α := Nat) (fun o => o ≤ cr.length + 1) (fun o => [(0, .int .i64 (m : Int)), (1, .slice a ls.length cap), (7, .slice ka cr.length kc), (9, .int .i64 ((o : Int) - 1))]) (fun _ => [rowc (.slice ka cr.length kc) cr.length 3 1 (nums cr)]) (fun o => cr.length + 1 - o) (0) ?_ ?_ ?_ ?_
          · exact Nat.zero_le _
          · exact ⟨rfl, rfl, rfl, rfl, trivial⟩
          · rfl
          rintro o ho
          show WC _ _ _ _ _ _ _ [(0, .int .i64 (m : Int)), (1, .slice a ls.length cap), (7, .slice ka cr.length kc), (9, .int .i64 ((o : Int) - 1))] [rowc (.slice ka cr.length kc) cr.length 3 1 (nums cr)]
          refine WC.seq ?_
          refine WC.seq ?_
          refine WC.region ?_
          refine WL.step ?_
          refine WL.move rfl rfl ?_
          refine WL.step ?_
          refine WL.move rfl rfl ?_
          refine WL.step ?_
          refine WL.lenSl F.und23 rfl rfl ?_
          refine WL.step ?_
          refine WL.ltI rfl rfl rfl ?_
          refine WL.nil ?_
          refine WQ.then_normal ?_
          refine WC.cond rfl (fun h62 => ?_) (fun h62 => ?_)
          · skip
            have hol : o ≤ cr.length := by simp at h62; omega
            have hnil := othO_zero cr o
            refine WC.know (φ := ∃ g, ka = some ⟨g, 0, none⟩ ∧ cr.length = cr.length ∧ cr.length ≤ kc) (fun w hS => rowc_addr (hS.ok (rowc (.slice ka cr.length kc) cr.length 3 1 (nums cr)) (by repeat (first | exact List.Mem.head _ | apply List.Mem.tail))) (by omega)) (fun ⟨g7, hg7, _, _⟩ => ?_)
            subst hg7
            refine WC.skip ?_
            refine WQ.then_normal ?_
            refine WC.seq ?_
            refine WC.block ?_
            refine WC.seq ?_
            refine WC.region ?_
            refine WL.step ?_
            refine WL.assign rfl rfl ?_
            refine WL.nil ?_
            refine WQ.then_normal ?_
            refine WC.seq ?_
            refine WC.seq ?_
            refine WC.region ?_
            refine WL.step ?_
            refine WL.assign rfl rfl ?_
            refine WL.nil ?_
            refine WQ.then_normal ?_
            refine WC.block ?_
            refine WC.chunks (C' := [rowc (.slice (some ⟨g7, 0, none⟩) cr.length kc) cr.length 3 1 (nums cr), rowc (.slice none (othO cr o 0).length 0) (othO cr o 0).length 23 1 (hdrs us (othO cr o 0))]) (fun w hS => by rw [hnil]; exact (((St.pick (St.pick (hS.rowNil 23 1) (c := rowc (.slice none 0 0) 0 23 1 []) (by repeat (first | exact Rem.here | apply Rem.there))) (c := rowc (.slice (some ⟨g7, 0, none⟩) cr.length kc) cr.length 3 1 (nums cr)) (by repeat (first | exact Rem.here | apply Rem.there)))).sublist (List.Sublist.cons_cons _ (List.Sublist.cons_cons _ (List.nil_sublist _))))) ?_
            refine WC.facts (M := [(0, .int .i64 (m : Int)), (1, .slice a ls.length cap), (7, .slice (some ⟨g7, 0, none⟩) cr.length kc), (9, .int .i64 ((o : Int) - 1)), (10, .slice none (othO cr o 0).length 0), (11, .int .i64 (((0 : Nat)) : Int))]) ⟨rfl, rfl, rfl, rfl, by rw [hnil]; rfl, rfl, trivial⟩ ?_
            refine WC.loop (α := MinS) (fun g => g.k ≤ cr.length) (fun g => [(0, .int .i64 (m : Int)), (1, .slice a ls.length cap), (7, .slice (some ⟨g7, 0, none⟩) cr.length kc), (9, .int .i64 ((o : Int) - 1)), (10, .slice g.ca (othO cr o g.k).length g.cc), (11, .int .i64 (g.k : Int))]) (fun g => [rowc (.slice (some ⟨g7, 0, none⟩) cr.length kc) cr.length 3 1 (nums cr), rowc (.slice g.ca (othO cr o g.k).length g.cc) (othO cr o g.k).length 23 1 (hdrs us (othO cr o g.k))]) (fun g => cr.length - g.k) (⟨0, none, 0⟩) ?_ ?_ ?_ ?_
            · exact Nat.zero_le _
            · exact ⟨rfl, rfl, rfl, rfl, rfl, rfl, trivial⟩
            · rfl
            rintro ⟨k, ca, cc⟩ hk
            dsimp only at hk
            show WC _ _ _ _ _ _ _ [(0, .int .i64 (m : Int)), (1, .slice a ls.length cap), (7, .slice (some ⟨g7, 0, none⟩) cr.length kc), (9, .int .i64 ((o : Int) - 1)), (10, .slice ca (othO cr o k).length cc), (11, .int .i64 (k : Int))] [rowc (.slice (some ⟨g7, 0, none⟩) cr.length kc) cr.length 3 1 (nums cr), rowc (.slice ca (othO cr o k).length cc) (othO cr o k).length 23 1 (hdrs us (othO cr o k))]
            refine WC.seq ?_
            refine WC.seq ?_
            refine WC.region ?_
            refine WL.step ?_
            refine WL.move rfl rfl ?_
            refine WL.step ?_
            refine WL.move rfl rfl ?_
            refine WL.step ?_
            refine WL.lenSl F.und23 rfl rfl ?_
            refine WL.step ?_
            refine WL.ltI rfl rfl rfl ?_
            refine WL.nil ?_
            refine WQ.then_normal ?_
            refine WC.cond rfl (fun h68 => ?_) (fun h68 => ?_)
            · skip
              have hkl : k < cr.length := by simpa using h68
              obtain ⟨v, hv⟩ : ∃ v, cr[k]? = some v := ⟨_, List.getElem?_eq_getElem hkl⟩
              have hvl := hclt v (List.mem_of_getElem? hv)
              have hos2 := othO_succ hsrt hol hv
              have hoth := othO_len cr o k
              have hv1 : cr[k - 1]? = some (cr.getD (k - 1) 0) := by rw [List.getD_eq_getElem?_getD, List.getElem?_eq_getElem (show k - 1 < cr.length by omega)]; rfl
              refine WC.skip ?_
              refine WQ.then_normal ?_
              refine WC.seq ?_
              refine WC.block ?_
              refine WC.seq ?_
              refine WC.seq ?_
              refine WC.cutP [(100, .bool false), (0, .int .i64 (m : Int)), (1, .slice a ls.length cap), (7, .slice (some ⟨g7, 0, none⟩) cr.length kc), (9, .int .i64 ((o : Int) - 1)), (10, .slice ca (othO cr o k).length cc), (11, .int .i64 (k : Int))] (fun c a d v w h => by cases d <;> exact h) (fun Q' hP hQ => ?_) ?_
              · skip
                skip
                refine WC.drawsL (by kernel_rfl) (FactsOk.cons (ds := []) (LoadOk.by (Y := fun w => w.cell? ⟨g7, 0 + k * 1, none⟩ = some (.int .i64 (v : Int))) (fun w hS => by rw [Nat.zero_add, Nat.mul_one]; exact rowc_cell (hS.ok (rowc (.slice (some ⟨g7, 0, none⟩) cr.length kc) cr.length 3 1 (nums cr)) (by repeat (first | exact List.Mem.head _ | apply List.Mem.tail))) (nums_at hv))) (FactsOk.cons (ds := []) (LoadOk.by (Y := fun w => w.cell? ⟨g7, 0 + k * 1, none⟩ = some (.int .i64 (v : Int))) (fun w hS => by rw [Nat.zero_add, Nat.mul_one]; exact rowc_cell (hS.ok (rowc (.slice (some ⟨g7, 0, none⟩) cr.length kc) cr.length 3 1 (nums cr)) (by repeat (first | exact List.Mem.head _ | apply List.Mem.tail))) (nums_at hv))) (FactsOk.cons (ds := []) (LoadOk.by (Y := fun w => w.cell? ⟨g7, 0 + k * 1, none⟩ = some (.int .i64 (v : Int))) (fun w hS => by rw [Nat.zero_add, Nat.mul_one]; exact rowc_cell (hS.ok (rowc (.slice (some ⟨g7, 0, none⟩) cr.length kc) cr.length 3 1 (nums cr)) (by repeat (first | exact List.Mem.head _ | apply List.Mem.tail))) (nums_at hv))) (FactsOk.cons (ds := []) (LoadOk.by (Y := fun w => w.cell? ⟨g7, 0 + (k - 1) * 1, none⟩ = some (.int .i64 ((cr.getD (k - 1) 0) : Int))) (fun w hS => by rw [Nat.zero_add, Nat.mul_one]; exact rowc_cell (hS.ok (rowc (.slice (some ⟨g7, 0, none⟩) cr.length kc) cr.length 3 1 (nums cr)) (by repeat (first | exact List.Mem.head _ | apply List.Mem.tail))) (nums_at hv1))) (FactsOk.nil))))) ?_
                refine WD.take (i := 0) rfl rfl rfl rfl (by kernel_rfl) (by kernel_rfl) (by kernel_rfl) (fun _ _ _ h => hP _ _ _ _ _ h) (by kernel_rfl) need_none (Yl.move rfl) ?_
                refine WD.take (i := 1) rfl rfl rfl rfl (by kernel_rfl) (by kernel_rfl) (by kernel_rfl) (fun _ _ _ h => hP _ _ _ _ _ h) (by kernel_rfl) need_none (Yl.move rfl) ?_
                refine WD.take (i := 2) rfl rfl rfl rfl (by kernel_rfl) (by kernel_rfl) (by kernel_rfl) (fun _ _ _ h => hP _ _ _ _ _ h) (by kernel_rfl) need_none (Yl.indexAddr F.sl23 rfl rfl (by omega)) ?_
                refine WD.take (i := 3) rfl rfl rfl rfl (by kernel_rfl) (by kernel_rfl) (by kernel_rfl) (fun _ _ _ h => hP _ _ _ _ _ h) (by kernel_rfl) (need_at 0 30 rfl (by kernel_rfl)) (Yl.load1 F.one3 rfl) ?_
                refine WD.take (i := 4) rfl rfl rfl rfl (by kernel_rfl) (by kernel_rfl) (by kernel_rfl) (fun _ _ _ h => hP _ _ _ _ _ h) (by kernel_rfl) need_none (Yl.ltI rfl rfl) ?_
                refine WD.take (i := 5) rfl rfl rfl rfl (by kernel_rfl) (by kernel_rfl) (by kernel_rfl) (fun _ _ _ h => hP _ _ _ _ _ h) (by kernel_rfl) need_none (Yl.move rfl) ?_
                refine fun hcl => WA.splitB (i := 76) rfl (fun g76 => ?_) (fun g76 => ?_)
                · skip
                  refine (show WD _ _ _ _ _ _ _ _ _ _ _ _ from ?_) hcl
                  exfalso; simp at g76; omega
                · skip
                  refine (show WD _ _ _ _ _ _ _ _ _ _ _ _ from ?_) hcl
                  refine WD.takeG (i := 6) rfl rfl rfl rfl rfl rfl (by kernel_rfl) (by kernel_rfl) (by kernel_rfl) (fun _ _ _ h => hP _ _ _ _ _ h) (by kernel_rfl) need_none (Yl.move rfl) ?_
                  refine WD.takeG (i := 7) rfl rfl rfl rfl rfl rfl (by kernel_rfl) (by kernel_rfl) (by kernel_rfl) (fun _ _ _ h => hP _ _ _ _ _ h) (by kernel_rfl) need_none (Yl.move rfl) ?_
                  refine WD.takeG (i := 8) rfl rfl rfl rfl rfl rfl (by kernel_rfl) (by kernel_rfl) (by kernel_rfl) (fun _ _ _ h => hP _ _ _ _ _ h) (by kernel_rfl) need_none (Yl.indexAddr F.sl23 rfl rfl (by omega)) ?_
                  refine WD.takeG (i := 9) rfl rfl rfl rfl rfl rfl (by kernel_rfl) (by kernel_rfl) (by kernel_rfl) (fun _ _ _ h => hP _ _ _ _ _ h) (by kernel_rfl) (need_at 1 30 rfl (by kernel_rfl)) (Yl.load1 F.one3 rfl) ?_
                  refine WD.takeG (i := 10) rfl rfl rfl rfl rfl rfl (by kernel_rfl) (by kernel_rfl) (by kernel_rfl) (fun _ _ _ h => hP _ _ _ _ _ h) (by kernel_rfl) need_none (Yl.move rfl) ?_
                  refine WD.takeG (i := 11) rfl rfl rfl rfl rfl rfl (by kernel_rfl) (by kernel_rfl) (by kernel_rfl) (fun _ _ _ h => hP _ _ _ _ _ h) (by kernel_rfl) need_none (Yl.lenSl F.und33 rfl) ?_
                  refine WD.takeG (i := 12) rfl rfl rfl rfl rfl rfl (by kernel_rfl) (by kernel_rfl) (by kernel_rfl) (fun _ _ _ h => hP _ _ _ _ _ h) (by kernel_rfl) need_none (Yl.geI rfl rfl) ?_
                  refine WD.take (i := 13) rfl rfl rfl rfl (by kernel_rfl) (by kernel_rfl) (by kernel_rfl) (fun _ _ _ h => hP _ _ _ _ _ h) (by kernel_rfl) need_none (Yl.pickF rfl rfl) ?_
                  refine WD.take (i := 14) rfl rfl rfl rfl (by kernel_rfl) (by kernel_rfl) (by kernel_rfl) (fun _ _ _ h => hP _ _ _ _ _ h) (by kernel_rfl) need_none (Yl.move rfl) ?_
                  refine fun hcl => WA.splitB (i := 85) rfl (fun g85 => ?_) (fun g85 => ?_)
                  · skip
                    refine (show WD _ _ _ _ _ _ _ _ _ _ _ _ from ?_) hcl
                    exfalso; simp at g85; omega
                  · skip
                    refine (show WD _ _ _ _ _ _ _ _ _ _ _ _ from ?_) hcl
                    refine WD.takeG (i := 15) rfl rfl rfl rfl rfl rfl (by kernel_rfl) (by kernel_rfl) (by kernel_rfl) (fun _ _ _ h => hP _ _ _ _ _ h) (by kernel_rfl) need_none (Yl.move rfl) ?_
                    refine WD.takeG (i := 16) rfl rfl rfl rfl rfl rfl (by kernel_rfl) (by kernel_rfl) (by kernel_rfl) (fun _ _ _ h => hP _ _ _ _ _ h) (by kernel_rfl) need_none (Yl.gtI rfl rfl) ?_
                    refine WD.takeG (i := 17) rfl rfl rfl rfl rfl rfl (by kernel_rfl) (by kernel_rfl) (by kernel_rfl) (fun _ _ _ h => hP _ _ _ _ _ h) (by kernel_rfl) need_none (Yl.move rfl) ?_
                    refine fun hcl => WA.splitB (i := 88) rfl (fun g88 => ?_) (fun g88 => ?_)
                    · skip
                      refine (show WD _ _ _ _ _ _ _ _ _ _ _ _ from ?_) hcl
                      have hk0 : 0 < k := by simpa using g88
                      have hlt1 : cr.getD (k - 1) 0 < v := by
                        rw [List.getD_eq_getElem?_getD, List.getElem?_eq_getElem (show k - 1 < cr.length by omega)]
                        obtain ⟨h1, h2⟩ := List.getElem?_eq_some_iff.1 hv
                        have h3 := List.pairwise_iff_getElem.1 hsrt (k - 1) k (by omega) h1 (by omega)
                        simpa [h2] using h3
                      refine WD.takeG (i := 18) rfl rfl rfl rfl rfl rfl (by kernel_rfl) (by kernel_rfl) (by kernel_rfl) (fun _ _ _ h => hP _ _ _ _ _ h) (by kernel_rfl) need_none (Yl.move rfl) ?_
                      refine WD.takeG (i := 19) rfl rfl rfl rfl rfl rfl (by kernel_rfl) (by kernel_rfl) (by kernel_rfl) (fun _ _ _ h => hP _ _ _ _ _ h) (by kernel_rfl) need_none (Yl.move rfl) ?_
                      refine WD.takeG (i := 20) rfl rfl rfl rfl rfl rfl (by kernel_rfl) (by kernel_rfl) (by kernel_rfl) (fun _ _ _ h => hP _ _ _ _ _ h) (by kernel_rfl) need_none (Yl.indexAddr F.sl23 rfl rfl (by omega)) ?_
                      refine WD.takeG (i := 21) rfl rfl rfl rfl rfl rfl (by kernel_rfl) (by kernel_rfl) (by kernel_rfl) (fun _ _ _ h => hP _ _ _ _ _ h) (by kernel_rfl) (need_at 2 30 rfl (by kernel_rfl)) (Yl.load1 F.one3 rfl) ?_
                      refine WD.takeG (i := 22) rfl rfl rfl rfl rfl rfl (by kernel_rfl) (by kernel_rfl) (by kernel_rfl) (fun _ _ _ h => hP _ _ _ _ _ h) (by kernel_rfl) need_none (Yl.move rfl) ?_
                      refine WD.takeG (i := 23) rfl rfl rfl rfl rfl rfl (by kernel_rfl) (by kernel_rfl) (by kernel_rfl) (fun _ _ _ h => hP _ _ _ _ _ h) (by kernel_rfl) need_none (Yl.move rfl) ?_
                      refine WD.takeG (i := 24) rfl rfl rfl rfl rfl rfl (by kernel_rfl) (by kernel_rfl) (by kernel_rfl) (fun _ _ _ h => hP _ _ _ _ _ h) (by kernel_rfl) need_none (show Yl _ _ _ _ _ _ (Value.int .i64 ((k - 1 : Nat) : Int)) from by rw [show ((k - 1 : Nat) : Int) = (k : Int) - 1 by omega]; exact Yl.sub rfl rfl ⟨by omega, by omega⟩) ?_
                      refine WD.takeG (i := 25) rfl rfl rfl rfl rfl rfl (by kernel_rfl) (by kernel_rfl) (by kernel_rfl) (fun _ _ _ h => hP _ _ _ _ _ h) (by kernel_rfl) need_none (Yl.indexAddr F.sl23 rfl rfl (by omega)) ?_
                      refine WD.takeG (i := 26) rfl rfl rfl rfl rfl rfl (by kernel_rfl) (by kernel_rfl) (by kernel_rfl) (fun _ _ _ h => hP _ _ _ _ _ h) (by kernel_rfl) (need_at 3 30 rfl (by kernel_rfl)) (Yl.load1 F.one3 rfl) ?_
                      refine WD.takeG (i := 27) rfl rfl rfl rfl rfl rfl (by kernel_rfl) (by kernel_rfl) (by kernel_rfl) (fun _ _ _ h => hP _ _ _ _ _ h) (by kernel_rfl) need_none (Yl.leI rfl rfl) ?_
                      refine WD.takeG (i := 28) rfl rfl rfl rfl rfl rfl (by kernel_rfl) (by kernel_rfl) (by kernel_rfl) (fun _ _ _ h => hP _ _ _ _ _ h) (by kernel_rfl) need_none (Yl.pickT rfl rfl) ?_
                      refine WD.take (i := 29) rfl rfl rfl rfl (by kernel_rfl) (by kernel_rfl) (by kernel_rfl) (fun _ _ _ h => hP _ _ _ _ _ h) (by kernel_rfl) need_none (Yl.pickF rfl rfl) ?_
                      refine WD.done (by kernel_rfl) ?_
                      refine WQ.byCut hQ (subF_bool ?_ ⟨rfl, rfl, rfl, rfl, rfl, rfl, trivial⟩ rfl)
                      first | rfl | exact (decide_eq_false (by omega)).symm | exact decide_eq_false (by omega)
                    · skip
                      refine (show WD _ _ _ _ _ _ _ _ _ _ _ _ from ?_) hcl
                      refine WD.skip (i := 18) rfl rfl rfl rfl rfl rfl rfl (by kernel_rfl) (by kernel_rfl) (by kernel_rfl) (fun _ _ _ h => hP _ _ _ _ _ h) (by kernel_rfl) ?_
                      refine WD.skip (i := 19) rfl rfl rfl rfl rfl rfl rfl (by kernel_rfl) (by kernel_rfl) (by kernel_rfl) (fun _ _ _ h => hP _ _ _ _ _ h) (by kernel_rfl) ?_
                      refine WD.skip (i := 20) rfl rfl rfl rfl rfl rfl rfl (by kernel_rfl) (by kernel_rfl) (by kernel_rfl) (fun _ _ _ h => hP _ _ _ _ _ h) (by kernel_rfl) ?_
                      refine WD.skip (i := 21) rfl rfl rfl rfl rfl rfl rfl (by kernel_rfl) (by kernel_rfl) (by kernel_rfl) (fun _ _ _ h => hP _ _ _ _ _ h) (by kernel_rfl) ?_
                      refine WD.skip (i := 22) rfl rfl rfl rfl rfl rfl rfl (by kernel_rfl) (by kernel_rfl) (by kernel_rfl) (fun _ _ _ h => hP _ _ _ _ _ h) (by kernel_rfl) ?_
                      refine WD.skip (i := 23) rfl rfl rfl rfl rfl rfl rfl (by kernel_rfl) (by kernel_rfl) (by kernel_rfl) (fun _ _ _ h => hP _ _ _ _ _ h) (by kernel_rfl) ?_
                      refine WD.skip (i := 24) rfl rfl rfl rfl rfl rfl rfl (by kernel_rfl) (by kernel_rfl) (by kernel_rfl) (fun _ _ _ h => hP _ _ _ _ _ h) (by kernel_rfl) ?_
                      refine WD.skip (i := 25) rfl rfl rfl rfl rfl rfl rfl (by kernel_rfl) (by kernel_rfl) (by kernel_rfl) (fun _ _ _ h => hP _ _ _ _ _ h) (by kernel_rfl) ?_
                      refine WD.skip (i := 26) rfl rfl rfl rfl rfl rfl rfl (by kernel_rfl) (by kernel_rfl) (by kernel_rfl) (fun _ _ _ h => hP _ _ _ _ _ h) (by kernel_rfl) ?_
                      refine WD.skip (i := 27) rfl rfl rfl rfl rfl rfl rfl (by kernel_rfl) (by kernel_rfl) (by kernel_rfl) (fun _ _ _ h => hP _ _ _ _ _ h) (by kernel_rfl) ?_
                      refine WD.takeG (i := 28) rfl rfl rfl rfl rfl rfl (by kernel_rfl) (by kernel_rfl) (by kernel_rfl) (fun _ _ _ h => hP _ _ _ _ _ h) (by kernel_rfl) need_none (Yl.pickF rfl rfl) ?_
                      refine WD.take (i := 29) rfl rfl rfl rfl (by kernel_rfl) (by kernel_rfl) (by kernel_rfl) (fun _ _ _ h => hP _ _ _ _ _ h) (by kernel_rfl) need_none (Yl.pickF rfl rfl) ?_
                      refine WD.done (by kernel_rfl) ?_
                      refine WQ.byCut hQ (subF_bool ?_ ⟨rfl, rfl, rfl, rfl, rfl, rfl, trivial⟩ rfl)
                      first | rfl | exact (decide_eq_false (by omega)).symm | exact decide_eq_false (by omega)
              refine WQ.then_normal ?_
              refine WC.condF rfl ?_
              refine WC.skip ?_
              refine WQ.then_normal ?_
              refine WC.seq ?_
              refine WC.region ?_
              refine WL.step ?_
              refine WL.move rfl rfl ?_
              refine WL.step ?_
              refine WL.move rfl rfl ?_
              refine WL.step ?_
              refine WL.neI rfl rfl rfl ?_
              refine WL.nil ?_
              refine WQ.then_normal ?_
              refine WC.cond rfl (fun h103 => ?_) (fun h103 => ?_)
              · skip
                have hne : ¬ k + 1 = o := by simp at h103; omega
                rw [if_neg hne] at hos2
                obtain ⟨c, bb, off, a1, cap1, hc, hu, hab, hcell, hrc⟩ := hr.at2 hvl
                have hgd : us.getD v undef = .slice a1 c.length cap1 := by rw [List.getD_eq_getElem?_getD, hu]; rfl
                refine WC.region ?_
                refine WL.step ?_
                refine WL.move rfl rfl ?_
                refine WL.step ?_
                refine WL.move rfl rfl ?_
                refine WL.step ?_
                refine WL.move rfl rfl ?_
                refine WL.step ?_
                refine WL.move rfl rfl ?_
                refine WL.step ?_
                refine WL.indexAddr F.sl23 rfl rfl rfl hkl ?_
                refine WL.step ?_
                refine WL.load1 F.one3 rfl rfl (v := .int .i64 (v : Int)) (fun w hS => by rw [Nat.zero_add, Nat.mul_one]; exact rowc_cell (hS.ok (rowc (.slice (some ⟨g7, 0, none⟩) cr.length kc) cr.length 3 1 (nums cr)) (by repeat (first | exact List.Mem.head _ | apply List.Mem.tail))) (nums_at hv)) ?_
                subst hab
                refine WL.step ?_
                refine WL.indexAddr F.sl33 rfl rfl rfl hvl ?_
                refine WL.step ?_
                refine WL.load1 F.one23 rfl rfl (v := .slice a1 c.length cap1) (fun w hS => hS.oldc (by simpa using hcell) (by simp)) ?_
                refine WL.step ?_
                refine WL.buildSlice F.sl33 F.ez33 rfl rfl rfl rfl (by repeat (first | exact Built.nil | apply Built.one rfl rfl (by repeat constructor) | apply Built.agg rfl rfl (by repeat constructor))) rfl (fun b112 => ?_)
                refine WL.step ?_
                refine WL.appendE (news := [.slice a1 c.length cap1]) F.el33 rfl rfl rfl (by repeat (first | exact Rem.here | apply Rem.there)) (fun w hS jj u hu => by rw [Nat.zero_add]; exact hS.cell (cs := [.slice a1 c.length cap1]) (by repeat (first | exact List.Mem.head _ | apply List.Mem.tail)) hu) (by simp [hdrs]) (by simp [Value.oneCell']) (Nat.le_trans (m := 5000) (by omega) (by decide)) (by omega) (fun a3 c3 => ?_)
                refine WL.step ?_
                refine WL.assign rfl rfl ?_
                refine WL.nil ?_
                refine WQ.block_normal ?_
                refine WQ.then_normal ?_
                refine WC.region ?_
                refine WL.step ?_
                refine WL.move rfl rfl ?_
                refine WL.step ?_
                refine WL.add rfl rfl rfl ⟨by omega, by omega⟩ ?_
                refine WL.step ?_
                refine WL.assign rfl rfl ?_
                refine WL.nil ?_
                refine WQ.chunks (C' := [rowc (.slice (some ⟨g7, 0, none⟩) cr.length kc) cr.length 3 1 (nums cr), rowc (.slice a3 ((othO cr o k).length + 1) c3) ((othO cr o k).length + 1) 23 1 (hdrs us (othO cr o k) ++ [.slice a1 c.length cap1])]) (fun w hS => ((St.pick (St.pick hS (c := rowc (.slice a3 ((othO cr o k).length + 1) c3) ((othO cr o k).length + 1) 23 1 (hdrs us (othO cr o k) ++ [.slice a1 c.length cap1])) (by repeat (first | exact Rem.here | apply Rem.there))) (c := rowc (.slice (some ⟨g7, 0, none⟩) cr.length kc) cr.length 3 1 (nums cr)) (by repeat (first | exact Rem.here | apply Rem.there)))).sublist (List.Sublist.cons_cons _ (List.Sublist.cons_cons _ (List.nil_sublist _)))) ?_
                refine WQ.back ⟨k + 1, a3, c3⟩ (by show k + 1 ≤ cr.length; omega) (by show cr.length - (k + 1) < cr.length - k; omega) ?_ ?_
                · simp only [hos2, List.length_append, List.length_singleton]
                  exact ⟨rfl, rfl, rfl, rfl, rfl, rfl, trivial⟩
                · simp only [hos2, List.length_append, List.length_singleton, hdrs, List.map_append, List.map_cons, List.map_nil, hgd]
              · skip
                have hne : k + 1 = o := by simp at h103; omega
                rw [if_pos hne, List.append_nil] at hos2
                refine WC.skip ?_
                refine WQ.block_normal ?_
                refine WQ.then_normal ?_
                refine WC.region ?_
                refine WL.step ?_
                refine WL.move rfl rfl ?_
                refine WL.step ?_
                refine WL.add rfl rfl rfl ⟨by omega, by omega⟩ ?_
                refine WL.step ?_
                refine WL.assign rfl rfl ?_
                refine WL.nil ?_
                refine WQ.chunks (C' := [rowc (.slice (some ⟨g7, 0, none⟩) cr.length kc) cr.length 3 1 (nums cr), rowc (.slice ca (othO cr o k).length cc) (othO cr o k).length 23 1 (hdrs us (othO cr o k))]) (fun w hS => ((St.pick (St.pick hS (c := rowc (.slice ca (othO cr o k).length cc) (othO cr o k).length 23 1 (hdrs us (othO cr o k))) (by repeat (first | exact Rem.here | apply Rem.there))) (c := rowc (.slice (some ⟨g7, 0, none⟩) cr.length kc) cr.length 3 1 (nums cr)) (by repeat (first | exact Rem.here | apply Rem.there)))).sublist (List.Sublist.cons_cons _ (List.Sublist.cons_cons _ (List.nil_sublist _)))) ?_
                refine WQ.back ⟨k + 1, ca, cc⟩ (by show k + 1 ≤ cr.length; omega) (by show cr.length - (k + 1) < cr.length - k; omega) ?_ ?_
                · simp only [hos2]
                  exact ⟨rfl, rfl, rfl, rfl, rfl, rfl, trivial⟩
                · simp only [hos2]
            · skip
              have hke : k = cr.length := by simp at h68; omega
              rw [hke] at *
              have hoth := othO_len cr o cr.length
              have hpk : ∀ j ∈ (othO cr o cr.length), j < ls.length := fun j hj => hclt j (List.mem_of_mem_take (List.mem_filter.1 hj).1)
              have hpl := pickL_len ls _ hpk
              have hmp := may_pick hme hpk (by omega)
              refine WC.exit ?_
              refine WQ.then_exit ?_
              refine WQ.then_exit ?_
              refine WQ.block_exit ?_
              refine WQ.then_normal ?_
              refine WC.seq ?_
              refine WC.region ?_
              refine WL.step ?_
              refine WL.move rfl rfl ?_
              refine WL.step ?_
              refine WL.move rfl rfl ?_
              refine WA.say 116 (.slice ca (pickL ls (othO cr o cr.length)).length cc) (by rw [hpl]; rfl) ?_
              refine WL.step ?_
              refine WL.call0 (β := DRes (fun cf => (pickL ls (othO cr o cr.length)).all (fun k => clauseB k cf))) (res := fun z => .returned (.tuple #[z.v, .int .i64 0])) (cs := fun z => [z.ch]) (ψ := fun _ => True) F.fun17 (fun d h => by cases h; rfl) rfl (fun w hS => (Conj_in m (pickL ls (othO cr o cr.length)) ca cc (hdrs us (othO cr o cr.length)) hmp w (pick_rd (hr.next hS) hpk rfl (hS.ok (rowc (.slice ca (othO cr o cr.length).length cc) (othO cr o cr.length).length 23 1 (hdrs us (othO cr o cr.length))) (by repeat (first | exact List.Mem.head _ | apply List.Mem.tail))))).mono (fun e w2 ⟨x, h1, h2⟩ => ⟨x, trivial, h1, h2⟩)) (fun z117 _ => ?_)
              have hz := sat_canon z117.2.1 z117.2.2
              rw [hos o hol] at hz
              refine WL.step ?_
              refine WL.move rfl rfl ?_
              refine WL.step ?_
              refine WL.extract rfl rfl rfl ?_
              refine WL.step ?_
              refine WL.extract rfl rfl rfl ?_
              refine WL.step ?_
              refine WL.alloc F.zero27 rfl (fun b12 => ?_)
              refine WL.step ?_
              refine WL.storeN F.agg27 rfl rfl rfl (by simp [Value.oneCell']) (by repeat (first | exact Upd.here | apply Upd.there)) (by repeat constructor) ?_
              refine WL.step ?_
              refine WL.assign rfl rfl ?_
              refine WL.nil ?_
              refine WQ.then_normal ?_
              refine WC.seq ?_
              refine WC.region ?_
              refine WL.step ?_
              refine WL.move rfl rfl ?_
              refine WL.step ?_
              refine WL.neI rfl rfl rfl ?_
              refine WL.step ?_
              refine WL.move rfl rfl ?_
              refine WA.splitB (i := 122) rfl (fun g122 => ?_) (fun g122 => ?_)
              · skip
                exfalso; first | (revert g122; decide) | simp at g122
              · skip
                refine WL.step (WL.guardT rfl rfl rfl ?_)
                refine WL.loadW F.agg27 rfl rfl (by repeat (first | exact List.Mem.head _ | apply List.Mem.tail)) rfl ?_
                refine WL.step (WL.guardT rfl rfl rfl ?_)
                refine WL.callV F.fun18 rfl rfl (fun w hS => Empty_c z117.1.1 z117.1.2.1 z117.1.2.2 w) ?_
                refine WL.step (WL.guardT rfl rfl rfl ?_)
                refine WL.move rfl rfl ?_
                refine WL.step (WL.guardT rfl rfl rfl ?_)
                refine WL.ltI rfl rfl rfl ?_
                refine WL.step (WL.guardT rfl rfl rfl ?_)
                refine WL.bin rfl rfl rfl (fun w => run_neB _ _ w) ?_
                refine WL.step ?_
                refine WL.pickF rfl rfl rfl ?_
                refine WL.nil ?_
                refine WQ.then_normal ?_
                refine WC.cond rfl (fun h128 => ?_) (fun h128 => ?_)
                · skip
                  exfalso
                  have h9 : ((canon z117.1.1).2 == 0) = decide (o = 0) := by (cases hq : ((canon z117.1.1).2 == 0) <;> rw [hq] at hz <;> simp at hz <;> simp [hz])
                  rw [h9] at h128
                  by_cases ho0 : o = 0
                  · subst ho0; simp at h128
                  · simp [ho0] at h128; omega
                · skip
                  refine WC.skip ?_
                  refine WQ.block_normal ?_
                  refine WQ.then_normal ?_
                  refine WC.region ?_
                  refine WL.step ?_
                  refine WL.move rfl rfl ?_
                  refine WL.step ?_
                  refine WL.add rfl rfl rfl ⟨by omega, by omega⟩ ?_
                  refine WL.step ?_
                  refine WL.assign rfl rfl ?_
                  refine WL.nil ?_
                  refine WQ.chunks (C' := [rowc (.slice (some ⟨g7, 0, none⟩) cr.length kc) cr.length 3 1 (nums cr)]) (fun w hS => ((St.pick hS (c := rowc (.slice (some ⟨g7, 0, none⟩) cr.length kc) cr.length 3 1 (nums cr)) (by repeat (first | exact Rem.here | apply Rem.there)))).sublist (List.Sublist.cons_cons _ (List.nil_sublist _))) ?_
                  refine WQ.back (o + 1) (by show o + 1 ≤ cr.length + 1; omega) (by show cr.length + 1 - (o + 1) < cr.length + 1 - o; omega) ?_ ?_
                  · exact ⟨rfl, rfl, rfl, by rw [show ((o + 1 : Nat) : Int) - 1 = (o : Int) - 1 + 1 by omega]; rfl, trivial⟩
                  · rfl
          · skip
            refine WC.exit ?_
            refine WQ.then_exit ?_
            refine WQ.then_exit ?_
            refine WQ.block_exit ?_
            refine WQ.then_normal ?_
            refine WC.seq ?_
            refine WC.region ?_
            refine WL.step ?_
            refine WL.callV F.fun13 rfl rfl (fun w _ => wakes_c w) ?_
            refine WL.step ?_
            refine WL.assign rfl rfl ?_
            refine WL.nil ?_
            refine WQ.then_normal ?_
            refine WC.ret ?_
            exact WQ.ret (rs := [.tmp 4]) rfl (.tmp rfl .nil) (fun w hS => ⟨by first | rfl | simp [tup], hS.sublist (List.nil_sublist _)⟩)

end Go.Proofs.Ytkgllhkhdjodeaa
