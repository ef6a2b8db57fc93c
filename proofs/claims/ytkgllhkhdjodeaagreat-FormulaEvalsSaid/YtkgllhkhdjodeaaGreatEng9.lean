import Derived.Test.YtkgllhkhdjodeaaGreatEng8
import Derived.Recover
set_option linter.unusedSimpArgs false
set_option linter.unusedVariables false
namespace Go.Eng
open Go Go.RowKit
section
variable {P : Program} {w0 : World} {O : List Nat} {ops : Array Oper} {Q : Exit → Act → World → Prop} {N : Nat} {D : List Deferred} {L : FL} {C : List Chunk} {K : Act → World → Prop}
variable {d : Nat} {ty : TypeId} {pos : String} {af : Array Edge}

/-! ### a deferred call -/
abbrev dcall (g : FuncId) (us cap : List Value) : Deferred := { target := .fn (.func g) cap.toArray, args := us.toArray }

theorem WL.defer {g : FuncId} {x : Operand} {us cap : List Value} (hfv : ev L x = some (.func (.func g) us.toArray cap.toArray)) (h : WA w0 O K N (dcall g us cap :: D) L C) :
    WK P w0 O ops Q ⟨none, .defer { callee := .value x, args := #[], argTypes := #[] }, ty, pos, af, none⟩ K N D L C := fun a w hF hS => by
  unfold wpO
  rw [if_pos (by simp [Region.wanted])]
  refine .inl ?_
  unfold Oper.wp
  have hr : (execOp a.eval ⟨none, .defer { callee := .value x, args := #[], argTypes := #[] }, ty, pos, af, none⟩).run P w = .ok (.defer (dcall g us cap)) w := by
    simp [execOp, resolve, Deferred.ofValue, hF.ev hfv]
  rw [hr]
  exact h _ w ⟨(by show dcall g us cap :: a.defers = _; rw [hF.defers]), hF.size, hF.get⟩ hS

theorem enterD {f : FuncId} {fn : Func} {c : Code} {args : List Value} {w : World} {R : Ending → World → Prop} (hf : P.funcs[f]? = some fn) (hb : fn.body = some c) (hn : fn.ntmps = N) (hl : Nat.ble args.length N = true) (hS : St w O C w)
    (h : WC P w O c (bodyPostD P fn R) N [] (fl0 args 0) C) : Calls P f args.toArray w R := by
  refine calls_of_wp_defers hf hb ?_
  subst hn
  have := h _ w (Fr.init args fn.ntmps (Nat.le_of_ble_eq_true hl)) hS
  simpa using this

theorem Fr.noD {a : Act} (hF : Fr N D L a) : Fr N [] L { a with defers := [] } := ⟨rfl, hF.size, hF.get⟩

theorem WQ.ret0 {fn : Func} {R : Ending → World → Prop} {rs : List ResultVar} {vs : List Value} (hr : fn.results = rs.toArray) (h : RV P L C rs vs) (hR : ∀ w, St w0 O C w → R (.returned (tup vs)) w) :
    WQ w0 O (bodyPostD P fn R) .ret N [] L C := fun a w hF hS => by
  show Leaves P fn a.tmps R a.defers .returning w
  rw [hF.defers]
  exact ⟨_, run_results hr h hF hS, hR w hS⟩

theorem leaves_one {fn : Func} {tmps : Array Value} {R : Ending → World → Prop} {g : FuncId} {us cap : List Value} {u u2 : FrameMode} {v : Value} {w : World} {C2 : List Chunk} (hg : funB P g = some true) (hu : u ≠ .run)
    (hc : CallsD P g (us ++ cap).toArray u w fun e u' w' => e = .returned v ∧ u' = u2 ∧ St w0 O C2 w')
    (h : ∀ w', St w0 O C2 w' → Leaves P fn tmps R [] (settle u2) w') : Leaves P fn tmps R [dcall g us cap] u w := by
  refine leaves_cons (f := g) (args := (us ++ cap).toArray) hu (by simp [invoke, run_callFunc hg]) ?_
  refine hc.mono fun e u' w' ⟨h1, h2, h3⟩ => ?_
  subst h1; subst h2
  exact h w' h3

/-- At the door by a return, one deferred call still to be made. -/
theorem WQ.retD {fn : Func} {R : Ending → World → Prop} {rs : List ResultVar} {vs : List Value} {g : FuncId} {us cap : List Value} {v : Value} {C2 : List Chunk} (hg : funB P g = some true)
    (hc : ∀ w, St w0 O C w → CallsD P g (us ++ cap).toArray .returning w fun e u' w' => e = .returned v ∧ u' = .returning ∧ St w0 O C2 w')
    (hr : fn.results = rs.toArray) (h : RV P L C2 rs vs) (hR : ∀ w, St w0 O C2 w → R (.returned (tup vs)) w) :
    WQ w0 O (bodyPostD P fn R) .ret N [dcall g us cap] L C := fun a w hF hS => by
  show Leaves P fn a.tmps R a.defers .returning w
  rw [hF.defers]
  exact leaves_one hg (by simp) (hc w hS) (fun w' hS' => ⟨_, run_results (N := N) (D := []) (a := { a with defers := [] }) hr h hF.noD hS', hR w' hS'⟩)
/-- By a panic, which the deferred call recovers. -/
theorem WQ.panicD {fn : Func} {R : Ending → World → Prop} {rs : List ResultVar} {vs : List Value} {g : FuncId} {us cap : List Value} {v : Value} {C2 : List Chunk} {ch ch2 : List PanicEntry} (hg : funB P g = some true)
    (hc : ∀ w, St w0 O C w → CallsD P g (us ++ cap).toArray (.panicking ch) w fun e u' w' => e = .returned v ∧ u' = .panicking ch2 ∧ St w0 O C2 w') (hset : settle (.panicking ch2) = .returning)
    (hr : fn.results = rs.toArray) (h : RV P L C2 rs vs) (hR : ∀ w, St w0 O C2 w → R (.returned (tup vs)) w) :
    WQ w0 O (bodyPostD P fn R) (.panic ch) N [dcall g us cap] L C := fun a w hF hS => by
  show Leaves P fn a.tmps R a.defers (.panicking ch) w
  rw [hF.defers]
  refine leaves_one hg (by simp) (hc w hS) (fun w' hS' => ?_)
  rw [hset]
  exact ⟨_, run_results (N := N) (D := []) (a := { a with defers := [] }) hr h hF.noD hS', hR w' hS'⟩

/-! ### the deferred function, which recovers first -/
def QS (P : Program) (fn : Func) (c₀ : Frame) (cs : List Frame) (R : Ending → FrameMode → World → Prop) (u' : FrameMode) : Exit → Act → World → Prop :=
  fun e a w => bodyPostS P fn c₀ cs R e a ({ c₀ with mode := u' } :: cs) w

theorem WQ.finS {fn : Func} {c₀ : Frame} {cs : List Frame} {R : Ending → FrameMode → World → Prop} {u' : FrameMode} {rs : List ResultVar} {vs : List Value} (hr : fn.results = rs.toArray) (h : RV P L C rs vs) (hR : ∀ w, St w0 O C w → R (.returned (tup vs)) u' w) :
    WQ w0 O (QS P fn c₀ cs R u') .normal N [] L C := fun a w hF hS => ⟨hF.defers, u', rfl, _, run_results hr h hF hS, hR w hS⟩

/-- What recover hands back, and the mode behind it. -/
def Recovers (u : FrameMode) (v : Value) (u' : FrameMode) : Prop :=
  ∀ (c₀ : Frame) (cs : List Frame), c₀.mode = u → recoverD (c₀ :: cs) = some (v, { c₀ with mode := u' } :: cs) ∨ (recoverD (c₀ :: cs) = none ∧ v = .nilIface ∧ u' = u)
theorem Recovers.panicking (v : Value) (older : List PanicEntry) : Recovers (.panicking ({ v, recovered := false } :: older)) v (.panicking ({ v, recovered := true } :: older)) := fun c₀ cs h => by
  simp [recoverD, h]
theorem Recovers.returning : Recovers .returning .nilIface .returning := fun c₀ cs h => by simp [recoverD, h]

theorem enterS {f : FuncId} {fn : Func} {args : List Value} {u u' : FrameMode} {w : World} {R : Ending → FrameMode → World → Prop} {rest : Code} {i d1 d2 : Nat} {v : Value} {ty1 ty2 : TypeId} {p1 p2 : String} {af1 af2 : Array Edge} (hf : P.funcs[f]? = some fn)
    (hb : fn.body = some (.seq (.region i #[⟨some d1, .call { callee := .builtin .recover, args := #[], argTypes := #[] }, ty1, p1, af1, none⟩, ⟨some d2, .assign (.tmp d1), ty2, p2, af2, none⟩] false) rest))
    (hn : fn.ntmps = N) (hl : Nat.ble args.length N = true) (hd1 : Nat.blt d1 N = true) (hd2 : Nat.blt d2 N = true) (hS : St w O C w) (hrec : Recovers u v u')
    (h : ∀ c₀ cs, WC P w O rest (QS P fn c₀ cs R u') N [] ((d2, v) :: (d1, v) :: fl0 args 0) C) : CallsD P f args.toArray u w R := by
  refine callsD_of_wpS hf hb fun c₀ cs hu => ?_
  refine wpS_seq (wpS_region ?_)
  subst hn
  have hF := Fr.init args fn.ntmps (Nat.le_of_ble_eq_true hl)
  have hF2 := (hF.put d1 v hd1).put d2 v hd2
  have hev : ∀ a : Act, Fr fn.ntmps [] ((d1, v) :: fl0 args 0) a → a.eval (.tmp d1) = v := fun a hFa => hFa.ev (x := .tmp d1) (by simp [ev, lk])
  have e1 := hev _ (hF.put d1 v hd1)
  have hw := h c₀ cs _ w hF2 hS
  have hr1 : ∀ (a : Act) (w : World), (execOp a.eval ⟨some d1, .call { callee := .builtin .recover, args := #[], argTypes := #[] }, ty1, p1, af1, none⟩).run P w = .ok .recover w := fun a w => by
    simp [execOp, resolve, invoke, builtin]
  have hsz : args.toArray.size = args.length := by simp
  rw [hsz]
  show wpOpsS P #[_, _] _ [0, 1] _ _ w
  simp only [wpOpsS, List.getElem?_toArray, List.getElem?_cons_zero, List.getElem?_cons_succ]
  rw [if_pos (by simp [Region.wanted]), hr1]
  simp only []
  have hr2 : ∀ (a : Act) (w : World), (execOp a.eval ⟨some d2, .assign (.tmp d1), ty2, p2, af2, none⟩).run P w = .ok (.value (a.eval (.tmp d1))) w := fun a w => by
    simp [execOp]
  rcases hrec c₀ cs hu with h1 | ⟨h1, hv, hu'⟩
  · rw [h1]
    simp only []
    rw [if_pos (by simp [Region.wanted]), hr2, e1]
    exact wpS_of_wp hw
  · rw [h1]
    subst hv
    simp only []
    rw [if_pos (by simp [Region.wanted]), hr2, e1]
    have hc : c₀ :: cs = { c₀ with mode := u' } :: cs := by
      rw [hu', ← hu]
    rw [hc]
    exact wpS_of_wp hw
end
end Go.Eng
namespace Go.Eng
open Go Go.RowKit
section
variable {P : Program} {w0 : World} {O : List Nat} {ops : Array Oper} {Q : Exit → Act → World → Prop} {N : Nat} {D : List Deferred} {L : FL} {C : List Chunk} {K : Act → World → Prop}
variable {d : Nat} {ty : TypeId} {pos : String} {af : Array Edge}
theorem WL.bin {b : BinOp} {t t2 : TypeId} {x y : Operand} {vx vy v : Value} (hd : Nat.blt d N = true) (hx : ev L x = some vx) (hy : ev L y = some vy)
    (hr : ∀ w, (do eqGuard b t x y vx vy; binOp b t vx vy : Sem Value).run P w = .ok v w) (h : WA w0 O K N D ((d, v) :: L) C) :
    WK P w0 O ops Q ⟨some d, .binOp b t x y t2, ty, pos, af, none⟩ K N D L C := fun a w hF hS => by
  refine wpo_val rfl ?_ (h _ w (hF.put d v hd) hS)
  have := hr w
  simp only [Sem.run_bind] at this
  simp only [execOp, hF.ev hx, hF.ev hy, Sem.run_bind, this, Result.andThen_ok, Sem.run_pure]
theorem WL.typeAssert {t t2 : TypeId} {x : Operand} {vx v : Value} {ok : Bool} (hd : Nat.blt d N = true) (hx : ev L x = some vx)
    (hr : ∀ w, (Instr.typeAssert vx t t2 ok).run P w = .ok v w) (h : WA w0 O K N D ((d, v) :: L) C) :
    WK P w0 O ops Q ⟨some d, .typeAssert x t t2 ok, ty, pos, af, none⟩ K N D L C := fun a w hF hS => by
  refine wpo_val rfl ?_ (h _ w (hF.put d v hd) hS)
  simp only [execOp, hF.ev hx, Sem.run_bind, hr w, Result.andThen_ok, Sem.run_pure]
end
end Go.Eng

