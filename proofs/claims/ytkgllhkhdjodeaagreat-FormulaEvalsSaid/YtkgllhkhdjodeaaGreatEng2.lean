import Derived.Test.YtkgllhkhdjodeaaGreatEng1
set_option linter.unusedSimpArgs false
set_option linter.unusedVariables false
namespace Go.Eng
open Go Go.RowKit

section
variable {P : Program} {w0 : World} {O : List Nat} {ops : Array Oper} {Q : Exit → Act → World → Prop} {N : Nat} {D : List Deferred} {L : FL} {C : List Chunk} {K : Act → World → Prop}

/-- In every state of which L and C tell the truth, K. -/
def WA (w0 : World) (O : List Nat) (K : Act → World → Prop) (N : Nat) (D : List Deferred) (L : FL) (C : List Chunk) : Prop :=
  ∀ a w, Fr N D L a → St w0 O C w → K a w
/-- One operation of a region, and then K. -/
def wpO (P : Program) (ops : Array Oper) (Q : Exit → Act → World → Prop) (o : Oper) (K : Act → World → Prop) (a : Act) (w : World) : Prop :=
  if Region.wanted o (yielded ops a.tmps) then o.wp P a w K Q ∨ (o.asks P a w ∧ LetsOut Q) else K (a.put o.dst undef) w
def WK (P : Program) (w0 : World) (O : List Nat) (ops : Array Oper) (Q : Exit → Act → World → Prop) (o : Oper) (K : Act → World → Prop) (N : Nat) (D : List Deferred) (L : FL) (C : List Chunk) : Prop :=
  WA w0 O (wpO P ops Q o K) N D L C
/-- What an operation yields in every frame of which L tells the truth and every world that meets F, leaving that world as it is. -/
def Yl (P : Program) (N : Nat) (D : List Deferred) (L : FL) (F : World → Prop) (o : Oper) (v : Value) : Prop :=
  ∀ a w, Fr N D L a → F w → (execOp a.eval o).run P w = .ok (.value v) w
def WC (P : Program) (w0 : World) (O : List Nat) (c : Code) (Q : Exit → Act → World → Prop) (N : Nat) (D : List Deferred) (L : FL) (C : List Chunk) : Prop :=
  ∀ a w, Fr N D L a → St w0 O C w → c.wp P Q a w
def WQ (w0 : World) (O : List Nat) (Q : Exit → Act → World → Prop) (e : Exit) (N : Nat) (D : List Deferred) (L : FL) (C : List Chunk) : Prop :=
  ∀ a w, Fr N D L a → St w0 O C w → Q e a w

/-! ### control -/
theorem WC.seq {x y : Code} (h : WC P w0 O x (Exit.then (y.wp P Q) Q) N D L C) : WC P w0 O (.seq x y) Q N D L C := fun a w hF hS => wp_seq (h a w hF hS)
theorem WC.skip (h : WQ w0 O Q .normal N D L C) : WC P w0 O .skip Q N D L C := fun a w hF hS => wp_skip (h a w hF hS)
theorem WC.label {l : Nat} (h : WQ w0 O Q .normal N D L C) : WC P w0 O (.label l) Q N D L C := fun a w hF hS => wp_label (h a w hF hS)
theorem WC.ret (h : WQ w0 O Q .ret N D L C) : WC P w0 O .ret Q N D L C := fun a w hF hS => wp_ret (h a w hF hS)
theorem WC.exit {i : Nat} (h : WQ w0 O Q (.exit i) N D L C) : WC P w0 O (.exit i) Q N D L C := fun a w hF hS => wp_exit (h a w hF hS)
theorem WC.block {i : Nat} {c : Code} (h : WC P w0 O c (Exit.inBlock i Q) N D L C) : WC P w0 O (.block i c) Q N D L C := fun a w hF hS => wp_block (h a w hF hS)
theorem WC.region {i : Nat} {l : List Oper} (h : WA w0 O (wpList P l.toArray Q l) N D L C) : WC P w0 O (.region i l.toArray false) Q N D L C := fun a w hF hS => wp_region_lit (h a w hF hS)
theorem WC.cond {c : Operand} {x y : Code} {t : Bool} (hc : ev L c = some (.bool t)) (ht : t = true → WC P w0 O x Q N D L C) (hf : t = false → WC P w0 O y Q N D L C) :
    WC P w0 O (.cond c x y) Q N D L C := fun a w hF hS => wp_cond_split (hF.ev hc) (fun h => ht h a w hF hS) (fun h => hf h a w hF hS)
theorem WC.condT {c : Operand} {x y : Code} (hc : ev L c = some (.bool true)) (h : WC P w0 O x Q N D L C) : WC P w0 O (.cond c x y) Q N D L C :=
  fun a w hF hS => wp_cond_true (hF.ev hc) (h a w hF hS)
theorem WC.condF {c : Operand} {x y : Code} (hc : ev L c = some (.bool false)) (h : WC P w0 O y Q N D L C) : WC P w0 O (.cond c x y) Q N D L C :=
  fun a w hF hS => wp_cond_false (hF.ev hc) (h a w hF hS)
theorem WL.nil (h : WQ w0 O Q .normal N D L C) : WA w0 O (wpList P ops Q []) N D L C := fun a w hF hS => wpList_nil (h a w hF hS)

theorem WQ.then_normal {y : Code} (h : WC P w0 O y Q N D L C) : WQ w0 O (Exit.then (y.wp P Q) Q) .normal N D L C := h
theorem WQ.then_ret {K : Act → World → Prop} (h : WQ w0 O Q .ret N D L C) : WQ w0 O (Exit.then K Q) .ret N D L C := h
theorem WQ.then_exit {K : Act → World → Prop} {i : Nat} (h : WQ w0 O Q (.exit i) N D L C) : WQ w0 O (Exit.then K Q) (.exit i) N D L C := h
theorem WQ.then_panic {K : Act → World → Prop} {ch} (h : WQ w0 O Q (.panic ch) N D L C) : WQ w0 O (Exit.then K Q) (.panic ch) N D L C := h
theorem WQ.block_normal {i : Nat} (h : WQ w0 O Q .normal N D L C) : WQ w0 O (Exit.inBlock i Q) .normal N D L C := h
theorem WQ.block_ret {i : Nat} (h : WQ w0 O Q .ret N D L C) : WQ w0 O (Exit.inBlock i Q) .ret N D L C := h
theorem WQ.block_panic {i : Nat} {ch} (h : WQ w0 O Q (.panic ch) N D L C) : WQ w0 O (Exit.inBlock i Q) (.panic ch) N D L C := h
theorem WQ.block_exit {i : Nat} (h : WQ w0 O Q .normal N D L C) : WQ w0 O (Exit.inBlock i Q) (.exit i) N D L C := fun a w hF hS => by
  show (if i = i then _ else _); rw [if_pos rfl]; exact h a w hF hS
theorem WQ.block_other {i j : Nat} (hne : Nat.beq j i = false) (h : WQ w0 O Q (.exit j) N D L C) : WQ w0 O (Exit.inBlock i Q) (.exit j) N D L C := fun a w hF hS => by
  show (if j = i then _ else _); rw [if_neg (by intro e; subst e; simp at hne)]; exact h a w hF hS

/-- A loop, with a ghost: the frame's facts and the chunks as functions of it. -/
def Back (w0 : World) (O : List Nat) (N : Nat) (D : List Deferred) {α : Type} (p : α → Prop) (I : α → FL) (J : α → List Chunk) (μ : α → Nat) (n : Nat) (a : Act) (w : World) : Prop :=
  ∃ x, p x ∧ μ x < n ∧ Fr N D (I x) a ∧ St w0 O (J x) w

theorem wp_loop_ghost {P : Program} {c : Code} {Q : Exit → Act → World → Prop} {α : Type} (I : α → Act → World → Prop) (μ : α → Nat)
    (round : ∀ x a w, I x a w → c.wp P (Exit.then (fun a' w' => ∃ x', I x' a' w' ∧ μ x' < μ x) Q) a w) :
    ∀ x a w, I x a w → (Code.loop c).wp P Q a w := by
  intro x a w h0 b k cs
  have key : ∀ n x a w, μ x = n → I x a w →
      ∃ e a' w', Q e a' w' ∧ Arrives P (lone (b.at a (.code c :: .inLoop c :: k)) cs w) b k cs e a' w' := by
    intro n
    induction n using Nat.strongRecOn with
    | _ n ih =>
      intro x a w hn hI
      obtain ⟨e, a₁, w₁, hq, harr⟩ := round x a w hI b (.inLoop c :: k) cs
      cases e with
      | normal =>
        obtain ⟨x₁, hI₁, hlt⟩ := hq
        obtain ⟨e₂, a₂, w₂, hq₂, harr₂⟩ := ih (μ x₁) (hn ▸ hlt) x₁ a₁ w₁ rfl hI₁
        exact ⟨e₂, a₂, w₂, hq₂, .of_steps (Steps.trans harr (.one step_inLoop)) harr₂⟩
      | exit id => exact ⟨_, a₁, w₁, hq, .pass (x := .inLoop c) rfl (fun _ _ => .inl (by simp)) harr⟩
      | goto l => exact ⟨_, a₁, w₁, hq, .pass (x := .inLoop c) rfl (fun _ _ => .inl (by simp)) harr⟩
      | ret => exact ⟨_, a₁, w₁, hq, .pass (x := .inLoop c) rfl (fun _ _ => .inl (by simp)) harr⟩
      | panic ch => exact ⟨_, a₁, w₁, hq, .pass (x := .inLoop c) rfl (fun _ _ => .inl (by simp)) harr⟩
      | outgrown => exact ⟨_, a₁, w₁, hq, .pass (x := .inLoop c) rfl (fun _ _ => .inl (by simp)) harr⟩
  obtain ⟨e, a', w', hq, harr⟩ := key _ x a w rfl h0
  exact ⟨e, a', w', hq, .of_steps (.one step_loop) harr⟩

theorem WC.loop {c : Code} {α : Type} (p : α → Prop) (I : α → FL) (J : α → List Chunk) (μ : α → Nat) (x : α)
    (hp : p x) (hL : subF L (I x)) (hC : C = J x)
    (round : ∀ x, p x → WC P w0 O c (Exit.then (Back w0 O N D p I J μ (μ x)) Q) N D (I x) (J x)) : WC P w0 O (.loop c) Q N D L C := by
  intro a w hF hS
  refine wp_loop_ghost (fun x a w => p x ∧ Fr N D (I x) a ∧ St w0 O (J x) w) μ ?_ x a w ⟨hp, hF.sub hL, hC ▸ hS⟩
  intro x a w ⟨hx, hF, hS⟩
  refine Code.wp_mono ?_ (round x hx a w hF hS)
  intro e a w hq
  cases e with
  | normal => obtain ⟨x', h1, h2, h3, h4⟩ := hq; exact ⟨x', ⟨h1, h3, h4⟩, h2⟩
  | _ => exact hq

theorem WQ.back {α : Type} {p : α → Prop} {I : α → FL} {J : α → List Chunk} {μ : α → Nat} {n : Nat} (x : α) (hp : p x) (hμ : μ x < n) (hL : subF L (I x)) (hC : C = J x) :
    WQ w0 O (Exit.then (Back w0 O N D p I J μ n) Q) .normal N D L C := fun a w hF hS => ⟨x, hp, hμ, hF.sub hL, hC ▸ hS⟩

/-- Facts on chunks may be turned. -/
theorem WC.chunks {c : Code} {C' : List Chunk} (hs : ∀ w, St w0 O C w → St w0 O C' w) (h : WC P w0 O c Q N D L C') : WC P w0 O c Q N D L C := fun a w hF hS => h a w hF (hs w hS)
theorem WA.chunks {C' : List Chunk} (hs : ∀ w, St w0 O C w → St w0 O C' w) (h : WA w0 O K N D L C') : WA w0 O K N D L C := fun a w hF hS => h a w hF (hs w hS)
theorem WQ.chunks {e : Exit} {C' : List Chunk} (hs : ∀ w, St w0 O C w → St w0 O C' w) (h : WQ w0 O Q e N D L C') : WQ w0 O Q e N D L C := fun a w hF hS => h a w hF (hs w hS)
theorem WC.facts {c : Code} {M : FL} (hs : subF L M) (h : WC P w0 O c Q N D M C) : WC P w0 O c Q N D L C := fun a w hF hS => h a w (hF.sub hs) hS
theorem WA.facts {M : FL} (hs : subF L M) (h : WA w0 O K N D M C) : WA w0 O K N D L C := fun a w hF hS => h a w (hF.sub hs) hS
theorem WQ.facts {e : Exit} {M : FL} (hs : subF L M) (h : WQ w0 O Q e N D M C) : WQ w0 O Q e N D L C := fun a w hF hS => h a w (hF.sub hs) hS
/-- What the chunks say of the world, taken out as a plain fact. -/
theorem WC.know {c : Code} {φ : Prop} (hs : ∀ w, St w0 O C w → φ) (h : φ → WC P w0 O c Q N D L C) : WC P w0 O c Q N D L C := fun a w hF hS => h (hs w hS) a w hF hS
theorem WA.know {φ : Prop} (hs : ∀ w, St w0 O C w → φ) (h : φ → WA w0 O K N D L C) : WA w0 O K N D L C := fun a w hF hS => h (hs w hS) a w hF hS

/-! ### one operation -/
variable {rest : List Oper} {d : Nat} {ty : TypeId} {pos : String} {af : Array Edge}

theorem wpo_val {o : Oper} {a : Act} {w w' : World} {v : Value} (hg : o.guard = none) (hr : (execOp a.eval o).run P w = .ok (.value v) w') (h : K (a.put o.dst v) w') : wpO P ops Q o K a w := by
  unfold wpO
  rw [if_pos (by simp [Region.wanted, hg])]
  exact .inl (by unfold Oper.wp; rw [hr]; exact h)
theorem wpo_skip {o : Oper} {a : Act} {w w' : World} (hg : o.guard = none) (hr : (execOp a.eval o).run P w = .ok .skip w') (h : K (a.put o.dst undef) w') : wpO P ops Q o K a w := by
  unfold wpO
  rw [if_pos (by simp [Region.wanted, hg])]
  exact .inl (by unfold Oper.wp; rw [hr]; exact h)
/-- The list's first operation. -/
theorem WL.step {o : Oper} {rest : List Oper} (h : WK P w0 O ops Q o (wpList P ops Q rest) N D L C) : WA w0 O (wpList P ops Q (o :: rest)) N D L C := h

/-- A guarded operation whose guard has been decided. -/
theorem WL.guardT {o : Oper} {j : Nat} {g : Bool} {dj : Nat} (hgd : o.guard = some (j, g)) (hj : (ops[j]?).bind (·.dst) = some dj) (hv : lk L dj = some (.bool g))
    (h : WK P w0 O ops Q { o with guard := none } K N D L C) : WK P w0 O ops Q o K N D L C := fun a w hF hS => by
  have h' := h a w hF hS
  have hw : Region.wanted o (yielded ops a.tmps) = true := by
    have := hF.get dj _ hv
    simp [Region.wanted, hgd, yielded, hj, this]
  unfold wpO at h' ⊢
  rw [if_pos hw]
  rw [if_pos (by simp [Region.wanted])] at h'
  exact h'

theorem WL.guardF {o : Oper} {j : Nat} {g c : Bool} {dj : Nat} (hgd : o.guard = some (j, g)) (hj : (ops[j]?).bind (·.dst) = some dj) (hd : o.dst = some d) (hv : lk L dj = some (.bool c)) (hne : (c == g) = false)
    (hdN : Nat.blt d N = true) (h : WA w0 O K N D ((d, undef) :: L) C) : WK P w0 O ops Q o K N D L C := fun a w hF hS => by
  have hw : Region.wanted o (yielded ops a.tmps) = false := by
    have := hF.get dj _ hv
    simp [Region.wanted, hgd, yielded, hj, this]
    simpa using hne
  unfold wpO
  rw [if_neg (by simp [hw])]
  rw [hd]
  exact h _ w (hF.put d undef hdN) hS

theorem WL.guardF' {o : Oper} {j : Nat} {g c : Bool} {dj : Nat} (hgd : o.guard = some (j, g)) (hj : (ops[j]?).bind (·.dst) = some dj) (hd : o.dst = none) (hv : lk L dj = some (.bool c)) (hne : (c == g) = false)
    (h : WA w0 O K N D L C) : WK P w0 O ops Q o K N D L C := fun a w hF hS => by
  have hw : Region.wanted o (yielded ops a.tmps) = false := by
    have := hF.get dj _ hv
    simp [Region.wanted, hgd, yielded, hj, this]
    simpa using hne
  unfold wpO
  rw [if_neg (by simp [hw])]
  rw [hd]
  exact h _ w hF hS

/-- A guarded operation whose guard itself was passed over. -/
theorem WL.guardU {o : Oper} {j : Nat} {g : Bool} {dj : Nat} (hgd : o.guard = some (j, g)) (hj : (ops[j]?).bind (·.dst) = some dj) (hd : o.dst = some d) (hv : lk L dj = some undef)
    (hdN : Nat.blt d N = true) (h : WA w0 O K N D ((d, undef) :: L) C) : WK P w0 O ops Q o K N D L C := fun a w hF hS => by
  have hw : Region.wanted o (yielded ops a.tmps) = false := by
    have := hF.get dj _ hv
    simp [Region.wanted, hgd, yielded, hj, this, undef]
  unfold wpO
  rw [if_neg (by simp [hw])]
  rw [hd]
  exact h _ w (hF.put d undef hdN) hS

theorem WL.y {op : Op} {v : Value} {F : World → Prop} (hy : Yl P N D L F ⟨some d, op, ty, pos, af, none⟩ v) (hd : Nat.blt d N = true) (hF : ∀ w, St w0 O C w → F w)
    (h : WA w0 O K N D ((d, v) :: L) C) : WK P w0 O ops Q ⟨some d, op, ty, pos, af, none⟩ K N D L C := fun a w hFr hS =>
  wpo_val rfl (hy a w hFr (hF w hS)) (h _ w (hFr.put d v hd) hS)

theorem Yl.move {F : World → Prop} {x : Operand} {v : Value} (hx : ev L x = some v) : Yl P N D L F ⟨some d, .move x, ty, pos, af, none⟩ (v) := fun a w hF _ => by simp [execOp, hF.ev hx]
theorem WL.move {x : Operand} {v : Value} (hd : Nat.blt d N = true) (hx : ev L x = some v) (h : WA w0 O K N D ((d, v) :: L) C) :
    WK P w0 O ops Q ⟨some d, .move x, ty, pos, af, none⟩ K N D L C := WL.y (F := fun _ => True) (Yl.move hx) hd (fun _ _ => trivial) h
theorem Yl.assign {F : World → Prop} {x : Operand} {v : Value} (hx : ev L x = some v) : Yl P N D L F ⟨some d, .assign x, ty, pos, af, none⟩ (v) := fun a w hF _ => by simp [execOp, hF.ev hx]
theorem WL.assign {x : Operand} {v : Value} (hd : Nat.blt d N = true) (hx : ev L x = some v) (h : WA w0 O K N D ((d, v) :: L) C) :
    WK P w0 O ops Q ⟨some d, .assign x, ty, pos, af, none⟩ K N D L C := WL.y (F := fun _ => True) (Yl.assign hx) hd (fun _ _ => trivial) h
theorem Yl.pickT {F : World → Prop} {c x y : Operand} {v : Value} (hc : ev L c = some (.bool true)) (hx : ev L x = some v) : Yl P N D L F ⟨some d, .pick c x y, ty, pos, af, none⟩ (v) := fun a w hF _ => by simp [execOp, hF.ev hc, hF.ev hx, asBool]
theorem WL.pickT {c x y : Operand} {v : Value} (hd : Nat.blt d N = true) (hc : ev L c = some (.bool true)) (hx : ev L x = some v) (h : WA w0 O K N D ((d, v) :: L) C) :
    WK P w0 O ops Q ⟨some d, .pick c x y, ty, pos, af, none⟩ K N D L C := WL.y (F := fun _ => True) (Yl.pickT hc hx) hd (fun _ _ => trivial) h
theorem Yl.pickF {F : World → Prop} {c x y : Operand} {v : Value} (hc : ev L c = some (.bool false)) (hx : ev L y = some v) : Yl P N D L F ⟨some d, .pick c x y, ty, pos, af, none⟩ (v) := fun a w hF _ => by simp [execOp, hF.ev hc, hF.ev hx, asBool]
theorem WL.pickF {c x y : Operand} {v : Value} (hd : Nat.blt d N = true) (hc : ev L c = some (.bool false)) (hx : ev L y = some v) (h : WA w0 O K N D ((d, v) :: L) C) :
    WK P w0 O ops Q ⟨some d, .pick c x y, ty, pos, af, none⟩ K N D L C := WL.y (F := fun _ => True) (Yl.pickF hc hx) hd (fun _ _ => trivial) h
theorem Yl.nilCheck {F : World → Prop} {x : Operand} {b off : Nat} {s : Option Nat} (hx : ev L x = some (.pointer (some ⟨b, off, s⟩))) : Yl P N D L F ⟨some d, .nilCheck x, ty, pos, af, none⟩ (.pointer (some ⟨b, off, s⟩)) := fun a w hF _ => by simp [execOp, hF.ev hx]
theorem WL.nilCheck {x : Operand} {b off : Nat} {s : Option Nat} (hd : Nat.blt d N = true) (hx : ev L x = some (.pointer (some ⟨b, off, s⟩))) (h : WA w0 O K N D ((d, .pointer (some ⟨b, off, s⟩)) :: L) C) :
    WK P w0 O ops Q ⟨some d, .nilCheck x, ty, pos, af, none⟩ K N D L C := WL.y (F := fun _ => True) (Yl.nilCheck hx) hd (fun _ _ => trivial) h
theorem Yl.not {F : World → Prop} {x : Operand} {t : TypeId} {b : Bool} (hx : ev L x = some (.bool b)) : Yl P N D L F ⟨some d, .unOp .not t x, ty, pos, af, none⟩ (.bool (!b)) := fun a w hF _ => by simp [execOp, hF.ev hx, Op.unary]
theorem WL.not {x : Operand} {t : TypeId} {b : Bool} (hd : Nat.blt d N = true) (hx : ev L x = some (.bool b)) (h : WA w0 O K N D ((d, .bool (!b)) :: L) C) :
    WK P w0 O ops Q ⟨some d, .unOp .not t x, ty, pos, af, none⟩ K N D L C := WL.y (F := fun _ => True) (Yl.not hx) hd (fun _ _ => trivial) h
theorem Yl.neg {F : World → Prop} {x : Operand} {t : TypeId} {k : IntKind} {n : Int} (hx : ev L x = some (.int k n)) : Yl P N D L F ⟨some d, .unOp .neg t x, ty, pos, af, none⟩ (.int k (k.wrap (-n))) := fun a w hF _ => by simp [execOp, hF.ev hx, Op.unary, Op.intArith]
theorem WL.neg {x : Operand} {t : TypeId} {k : IntKind} {n : Int} (hd : Nat.blt d N = true) (hx : ev L x = some (.int k n)) (h : WA w0 O K N D ((d, .int k (k.wrap (-n))) :: L) C) :
    WK P w0 O ops Q ⟨some d, .unOp .neg t x, ty, pos, af, none⟩ K N D L C := WL.y (F := fun _ => True) (Yl.neg hx) hd (fun _ _ => trivial) h
theorem Yl.extract {F : World → Prop} {x : Operand} {i : Nat} {vs : List Value} {v : Value} (hx : ev L x = some (.tuple vs.toArray)) (hv : vs[i]? = some v) : Yl P N D L F ⟨some d, .extract x i, ty, pos, af, none⟩ (v) := fun a w hF _ => by simp [execOp, hF.ev hx, Instr.extract, hv]
theorem WL.extract {x : Operand} {i : Nat} {vs : List Value} {v : Value} (hd : Nat.blt d N = true) (hx : ev L x = some (.tuple vs.toArray)) (hv : vs[i]? = some v) (h : WA w0 O K N D ((d, v) :: L) C) :
    WK P w0 O ops Q ⟨some d, .extract x i, ty, pos, af, none⟩ K N D L C := WL.y (F := fun _ => True) (Yl.extract hx hv) hd (fun _ _ => trivial) h

/-! integers -/
theorem wrap_in {m : Int} (h1 : -9223372036854775808 ≤ m) (h2 : m ≤ 9223372036854775807) : IntKind.i64.wrap m = m := IntWalk.i64_in _ ⟨h1, h2⟩
theorem Yl.add {F : World → Prop} {x y : Operand} {t t' : TypeId} {m n : Int} (hx : ev L x = some (.int .i64 m)) (hy : ev L y = some (.int .i64 n))
    (h1 : -9223372036854775808 ≤ m + n ∧ m + n ≤ 9223372036854775807) : Yl P N D L F ⟨some d, .binOp .add t x y t', ty, pos, af, none⟩ (.int .i64 (m + n)) := fun a w hF _ => by simp [execOp, hF.ev hx, hF.ev hy, binOp_add, eqGuard_add, Op.intArith, wrap_in h1.1 h1.2]
theorem WL.add {x y : Operand} {t t' : TypeId} {m n : Int} (hd : Nat.blt d N = true) (hx : ev L x = some (.int .i64 m)) (hy : ev L y = some (.int .i64 n))
    (h1 : -9223372036854775808 ≤ m + n ∧ m + n ≤ 9223372036854775807) (h : WA w0 O K N D ((d, .int .i64 (m + n)) :: L) C) :
    WK P w0 O ops Q ⟨some d, .binOp .add t x y t', ty, pos, af, none⟩ K N D L C := WL.y (F := fun _ => True) (Yl.add hx hy h1) hd (fun _ _ => trivial) h
theorem Yl.sub {F : World → Prop} {x y : Operand} {t t' : TypeId} {m n : Int} (hx : ev L x = some (.int .i64 m)) (hy : ev L y = some (.int .i64 n))
    (h1 : -9223372036854775808 ≤ m - n ∧ m - n ≤ 9223372036854775807) : Yl P N D L F ⟨some d, .binOp .sub t x y t', ty, pos, af, none⟩ (.int .i64 (m - n)) := fun a w hF _ => by simp [execOp, hF.ev hx, hF.ev hy, binOp_sub, eqGuard_sub, Op.intArith, wrap_in h1.1 h1.2]
theorem WL.sub {x y : Operand} {t t' : TypeId} {m n : Int} (hd : Nat.blt d N = true) (hx : ev L x = some (.int .i64 m)) (hy : ev L y = some (.int .i64 n))
    (h1 : -9223372036854775808 ≤ m - n ∧ m - n ≤ 9223372036854775807) (h : WA w0 O K N D ((d, .int .i64 (m - n)) :: L) C) :
    WK P w0 O ops Q ⟨some d, .binOp .sub t x y t', ty, pos, af, none⟩ K N D L C := WL.y (F := fun _ => True) (Yl.sub hx hy h1) hd (fun _ _ => trivial) h

section
variable {x y : Operand} {t t' : TypeId} {k : IntKind} {m n : Int}
theorem Yl.eqI {F : World → Prop} (hx : ev L x = some (.int k m)) (hy : ev L y = some (.int k n)) : Yl P N D L F ⟨some d, .binOp .eql t x y t', ty, pos, af, none⟩ (.bool (m == n)) := fun a w hF _ => by simp [execOp, hF.ev hx, hF.ev hy, binOp_eql, eqGuard_at_int]
theorem WL.eqI (hd : Nat.blt d N = true) (hx : ev L x = some (.int k m)) (hy : ev L y = some (.int k n)) (h : WA w0 O K N D ((d, .bool (m == n)) :: L) C) :
    WK P w0 O ops Q ⟨some d, .binOp .eql t x y t', ty, pos, af, none⟩ K N D L C := WL.y (F := fun _ => True) (Yl.eqI hx hy) hd (fun _ _ => trivial) h
theorem Yl.neI {F : World → Prop} (hx : ev L x = some (.int k m)) (hy : ev L y = some (.int k n)) : Yl P N D L F ⟨some d, .binOp .neq t x y t', ty, pos, af, none⟩ (.bool (m != n)) := fun a w hF _ => by simp [execOp, hF.ev hx, hF.ev hy, binOp_neq, eqGuard_at_int]
theorem WL.neI (hd : Nat.blt d N = true) (hx : ev L x = some (.int k m)) (hy : ev L y = some (.int k n)) (h : WA w0 O K N D ((d, .bool (m != n)) :: L) C) :
    WK P w0 O ops Q ⟨some d, .binOp .neq t x y t', ty, pos, af, none⟩ K N D L C := WL.y (F := fun _ => True) (Yl.neI hx hy) hd (fun _ _ => trivial) h
theorem Yl.ltI {F : World → Prop} (hx : ev L x = some (.int k m)) (hy : ev L y = some (.int k n)) : Yl P N D L F ⟨some d, .binOp .lss t x y t', ty, pos, af, none⟩ (.bool (decide (m < n))) := fun a w hF _ => by simp [execOp, hF.ev hx, hF.ev hy, binOp_lss, eqGuard_at_int]
theorem WL.ltI (hd : Nat.blt d N = true) (hx : ev L x = some (.int k m)) (hy : ev L y = some (.int k n)) (h : WA w0 O K N D ((d, .bool (decide (m < n))) :: L) C) :
    WK P w0 O ops Q ⟨some d, .binOp .lss t x y t', ty, pos, af, none⟩ K N D L C := WL.y (F := fun _ => True) (Yl.ltI hx hy) hd (fun _ _ => trivial) h
theorem Yl.leI {F : World → Prop} (hx : ev L x = some (.int k m)) (hy : ev L y = some (.int k n)) : Yl P N D L F ⟨some d, .binOp .leq t x y t', ty, pos, af, none⟩ (.bool (decide (m ≤ n))) := fun a w hF _ => by simp [execOp, hF.ev hx, hF.ev hy, binOp_leq, eqGuard_at_int]
theorem WL.leI (hd : Nat.blt d N = true) (hx : ev L x = some (.int k m)) (hy : ev L y = some (.int k n)) (h : WA w0 O K N D ((d, .bool (decide (m ≤ n))) :: L) C) :
    WK P w0 O ops Q ⟨some d, .binOp .leq t x y t', ty, pos, af, none⟩ K N D L C := WL.y (F := fun _ => True) (Yl.leI hx hy) hd (fun _ _ => trivial) h
theorem Yl.gtI {F : World → Prop} (hx : ev L x = some (.int k m)) (hy : ev L y = some (.int k n)) : Yl P N D L F ⟨some d, .binOp .gtr t x y t', ty, pos, af, none⟩ (.bool (decide (n < m))) := fun a w hF _ => by simp [execOp, hF.ev hx, hF.ev hy, binOp_gtr, eqGuard_at_int]
theorem WL.gtI (hd : Nat.blt d N = true) (hx : ev L x = some (.int k m)) (hy : ev L y = some (.int k n)) (h : WA w0 O K N D ((d, .bool (decide (n < m))) :: L) C) :
    WK P w0 O ops Q ⟨some d, .binOp .gtr t x y t', ty, pos, af, none⟩ K N D L C := WL.y (F := fun _ => True) (Yl.gtI hx hy) hd (fun _ _ => trivial) h
theorem Yl.geI {F : World → Prop} (hx : ev L x = some (.int k m)) (hy : ev L y = some (.int k n)) : Yl P N D L F ⟨some d, .binOp .geq t x y t', ty, pos, af, none⟩ (.bool (decide (n ≤ m))) := fun a w hF _ => by simp [execOp, hF.ev hx, hF.ev hy, binOp_geq, eqGuard_at_int]
theorem WL.geI (hd : Nat.blt d N = true) (hx : ev L x = some (.int k m)) (hy : ev L y = some (.int k n)) (h : WA w0 O K N D ((d, .bool (decide (n ≤ m))) :: L) C) :
    WK P w0 O ops Q ⟨some d, .binOp .geq t x y t', ty, pos, af, none⟩ K N D L C := WL.y (F := fun _ => True) (Yl.geI hx hy) hd (fun _ _ => trivial) h
end

/-! strings: as lists of bytes -/
def str (l : List UInt8) : ByteArray := ⟨l.toArray⟩
theorem str_toList (l : List UInt8) : (str l).toList = l := ByteArray.toList_mk l
theorem str_size (l : List UInt8) : (str l).size = l.length := by simp [str, ByteArray.size]
theorem str_data (l : List UInt8) : (str l).data.toList = l := by simp [str]
theorem str_extract (l : List UInt8) (i j : Nat) : (str l).extract i j = str ((l.drop i).take (j - i)) := ByteArray.extract_mk l i j
theorem str_append (x y : List UInt8) : str x ++ str y = str (x ++ y) := ByteArray.mk_append_mk x y
theorem str_of (s : ByteArray) : s = str s.data.toList := by cases s; simp [str]
theorem str_inj {x y : List UInt8} (h : str x = str y) : x = y := by
  have := congrArg (fun s : ByteArray => s.data.toList) h
  simpa [str] using this
theorem str_get (l : List UInt8) (i : Nat) (h : i < l.length) : (str l)[i]? = some l[i] := by
  have hs : i < (str l).size := by rw [str_size]; exact h
  rw [ByteArray.getElem?_lt' _ _ hs]
  congr 1

section
variable {x y : Operand} {t t' : TypeId} {m n : List UInt8}
theorem Yl.eqS {F : World → Prop} (hx : ev L x = some (.string (str m))) (hy : ev L y = some (.string (str n))) : Yl P N D L F ⟨some d, .binOp .eql t x y t', ty, pos, af, none⟩ (.bool (m == n)) := fun a w hF _ => by simp [execOp, hF.ev hx, hF.ev hy, binOp_string_eql, eqGuard_at_string, str_toList]
theorem WL.eqS (hd : Nat.blt d N = true) (hx : ev L x = some (.string (str m))) (hy : ev L y = some (.string (str n))) (h : WA w0 O K N D ((d, .bool (m == n)) :: L) C) :
    WK P w0 O ops Q ⟨some d, .binOp .eql t x y t', ty, pos, af, none⟩ K N D L C := WL.y (F := fun _ => True) (Yl.eqS hx hy) hd (fun _ _ => trivial) h
theorem Yl.neS {F : World → Prop} (hx : ev L x = some (.string (str m))) (hy : ev L y = some (.string (str n))) : Yl P N D L F ⟨some d, .binOp .neq t x y t', ty, pos, af, none⟩ (.bool (!(m == n))) := fun a w hF _ => by simp [execOp, hF.ev hx, hF.ev hy, binOp_string_neq, eqGuard_at_string, str_toList]
theorem WL.neS (hd : Nat.blt d N = true) (hx : ev L x = some (.string (str m))) (hy : ev L y = some (.string (str n))) (h : WA w0 O K N D ((d, .bool (!(m == n))) :: L) C) :
    WK P w0 O ops Q ⟨some d, .binOp .neq t x y t', ty, pos, af, none⟩ K N D L C := WL.y (F := fun _ => True) (Yl.neS hx hy) hd (fun _ _ => trivial) h
theorem Yl.addS {F : World → Prop} (hx : ev L x = some (.string (str m))) (hy : ev L y = some (.string (str n))) (hb : m.length + n.length ≤ 9223372036854775807) : Yl P N D L F ⟨some d, .binOp .add t x y t', ty, pos, af, none⟩ (.string (str (m ++ n))) := fun a w hF _ => by
      simp [execOp, hF.ev hx, hF.ev hy, binOp_string_add, eqGuard_at_string, run_string_add_sum (P := P) (w := w) (str m) (str n) (by simpa [str_size] using hb), str_append]
theorem WL.addS (hd : Nat.blt d N = true) (hx : ev L x = some (.string (str m))) (hy : ev L y = some (.string (str n))) (hb : m.length + n.length ≤ 9223372036854775807) (h : WA w0 O K N D ((d, .string (str (m ++ n))) :: L) C) :
    WK P w0 O ops Q ⟨some d, .binOp .add t x y t', ty, pos, af, none⟩ K N D L C := WL.y (F := fun _ => True) (Yl.addS hx hy hb) hd (fun _ _ => trivial) h
/-- len of a string. -/
theorem Yl.lenS {F : World → Prop} (ht : P.underlying t = some .string) (hx : ev L x = some (.string (str m))) : Yl P N D L F ⟨some d, .call { callee := .builtin .len, args := #[x], argTypes := #[t] }, ty, pos, af, none⟩ (.int .i64 m.length) := fun a w hF _ => by
      simp [execOp, resolve, invoke, builtin, hF.ev hx, run_len_string (P := P) (w := w) t ty (str m) ht, goInt, str_size]
theorem WL.lenS (ht : P.underlying t = some .string) (hd : Nat.blt d N = true) (hx : ev L x = some (.string (str m))) (h : WA w0 O K N D ((d, .int .i64 m.length) :: L) C) :
    WK P w0 O ops Q ⟨some d, .call { callee := .builtin .len, args := #[x], argTypes := #[t] }, ty, pos, af, none⟩ K N D L C := WL.y (F := fun _ => True) (Yl.lenS ht hx) hd (fun _ _ => trivial) h
theorem Yl.indexS {F : World → Prop} {k : IntKind} {i : Nat} {c : UInt8} (ht : P.underlying t = some .string) (hx : ev L x = some (.string (str m))) (hy : ev L y = some (.int k i)) (hc : m[i]? = some c) : Yl P N D L F ⟨some d, .index t x y, ty, pos, af, none⟩ (.int .u8 c.toNat) := fun a w hF _ => by
      have hi : i < m.length := (List.getElem?_eq_some_iff.1 hc).1
      have hcv : m[i] = c := (List.getElem?_eq_some_iff.1 hc).2
      simp [execOp, hF.ev hx, hF.ev hy, Instr.index, run_underlying ht, asIntOf, str_get m i hi, hcv]
theorem WL.indexS {k : IntKind} {i : Nat} {c : UInt8} (ht : P.underlying t = some .string) (hd : Nat.blt d N = true) (hx : ev L x = some (.string (str m))) (hy : ev L y = some (.int k i)) (hc : m[i]? = some c) (h : WA w0 O K N D ((d, .int .u8 c.toNat) :: L) C) :
    WK P w0 O ops Q ⟨some d, .index t x y, ty, pos, af, none⟩ K N D L C := WL.y (F := fun _ => True) (Yl.indexS ht hx hy hc) hd (fun _ _ => trivial) h
end
end
end Go.Eng

