import Derived.Test.YtkgllhkhdjodeaaGreatEng2
set_option linter.unusedSimpArgs false
set_option linter.unusedVariables false
namespace Go.Eng
open Go Go.RowKit

/-! closed facts of a program, by name -/
def aggB (P : Program) (t : TypeId) : Option Bool := match P.underlying t with
  | some (.struct _) => some true
  | some (.array _ _) => some true
  | some _ => some false
  | none => none
def sizeB (P : Program) (t : TypeId) : Option Nat := (P.info? t).map (·.size)
def zeroB (P : Program) (t : TypeId) : Option (List Value) := ((P.info? t).bind (·.zero)).map (·.cells.toList)
def fldB (P : Program) (t : TypeId) (f : Nat) : Option Nat := match P.underlying t with
  | some (.struct fields) => match fields[f]? with
    | some fd => match sizeB P fd.type with
      | some (_ + 1) => some fd.offset
      | _ => none
    | none => none
  | _ => none
def funB (P : Program) (f : FuncId) : Option Bool := match P.funcs[f]? with
  | some fn => some (!(fn.name == "runtime.NumGoroutine") && fn.body.isSome)
  | none => none

/-- A type of one cell; of n cells (a struct, an array). -/
structure One (P : Program) (t : TypeId) : Prop where
  agg : aggB P t = some false
  size : sizeB P t = some 1
structure Agg (P : Program) (t : TypeId) (n : Nat) : Prop where
  agg : aggB P t = some true
  size : sizeB P t = some n
structure SlT (P : Program) (t e : TypeId) (n : Nat) : Prop where
  und : P.underlying t = some (.slice e)
  size : sizeB P e = some n

section
variable {P : Program} {w0 : World} {O : List Nat} {ops : Array Oper} {Q : Exit → Act → World → Prop} {N : Nat} {D : List Deferred} {L : FL} {C : List Chunk} {K : Act → World → Prop}
variable {rest : List Oper} {d : Nat} {ty : TypeId} {pos : String} {af : Array Edge}

theorem run_sizeOf {t : TypeId} {n : Nat} (h : sizeB P t = some n) (w : World) : (sizeOf t).run P w = .ok n w := by
  unfold sizeB at h
  cases hi : P.info? t with
  | none => simp [hi] at h
  | some i => simp [hi] at h; simp [sizeOf, typeInfo, hi, h]
theorem run_isAgg {t : TypeId} {b : Bool} (h : aggB P t = some b) (w : World) : (isAgg t).run P w = .ok b w := by
  unfold aggB at h
  cases hu : P.underlying t with
  | none => simp [hu] at h
  | some d => cases d <;> simp [hu] at h <;> subst h <;> simp [isAgg, run_underlying hu]
theorem run_zeroValue {t : TypeId} {zs : List Value} (h : zeroB P t = some zs) (w : World) : ∃ z, (zeroValue t).run P w = .ok z w ∧ z.cells = zs.toArray := by
  unfold zeroB at h
  cases hi : P.info? t with
  | none => simp [hi] at h
  | some i =>
    cases hz : i.zero with
    | none => simp [hi, hz] at h
    | some z =>
      simp [hi, hz] at h
      exact ⟨z, by simp [zeroValue, typeInfo, hi, hz], by simp [← h]⟩

theorem run_load1 {t : TypeId} (ht : One P t) {w : World} {a : Addr} {v : Value} (hc : w.cell? a = some v) : (Instr.loadAt t (.pointer (some a))).run P w = .ok v w := by
  simp [Instr.loadAt, Instr.sureAddr, loadVar, run_isAgg ht.agg, hc]
theorem run_loadN {t : TypeId} {n : Nat} (ht : Agg P t n) {w : World} {a : Addr} {vs : List Value} (hl : vs.length = n) (hc : ∀ j v, vs[j]? = some v → w.cell? (a.add j) = some v) :
    (Instr.loadAt t (.pointer (some a))).run P w = .ok (.agg vs.toArray) w := by
  subst hl
  simp [Instr.loadAt, Instr.sureAddr, loadVar, run_isAgg ht.agg, run_sizeOf ht.size, run_loadCells_list (P := P) w a vs hc]

theorem add_blk (b o j : Nat) : (⟨b, o, none⟩ : Addr).add j = ⟨b, o + j, none⟩ := Addr.add_lit b o j

theorem Yl.load1 {t : TypeId} {x : Operand} {b off : Nat} {v : Value} (ht : One P t) (hx : ev L x = some (.pointer (some ⟨b, off, none⟩))) :
    Yl P N D L (fun w => w.cell? ⟨b, off, none⟩ = some v) ⟨some d, .load t x, ty, pos, af, none⟩ v := fun a w hF hc => by simp [execOp, hF.ev hx, run_load1 ht hc]
theorem Yl.loadN {t : TypeId} {x : Operand} {b off n : Nat} {vs : List Value} (ht : Agg P t n) (hx : ev L x = some (.pointer (some ⟨b, off, none⟩))) (hl : vs.length = n) :
    Yl P N D L (fun w => ∀ j v, vs[j]? = some v → w.cell? ⟨b, off + j, none⟩ = some v) ⟨some d, .load t x, ty, pos, af, none⟩ (.agg vs.toArray) := fun a w hF hc => by
  have := run_loadN ht hl (fun j v hv => by rw [add_blk]; exact hc j v hv)
  simp [execOp, hF.ev hx, this]
/-- A load of one cell; where the cell stands is shown of every world of the state. -/
theorem WL.load1 {t : TypeId} {x : Operand} {b off : Nat} {v : Value} (ht : One P t) (hd : Nat.blt d N = true) (hx : ev L x = some (.pointer (some ⟨b, off, none⟩)))
    (hc : ∀ w, St w0 O C w → w.cell? ⟨b, off, none⟩ = some v) (h : WA w0 O K N D ((d, v) :: L) C) :
    WK P w0 O ops Q ⟨some d, .load t x, ty, pos, af, none⟩ K N D L C := WL.y (Yl.load1 ht hx) hd hc h
theorem WL.loadN {t : TypeId} {x : Operand} {b off n : Nat} {vs : List Value} (ht : Agg P t n) (hd : Nat.blt d N = true) (hx : ev L x = some (.pointer (some ⟨b, off, none⟩))) (hl : vs.length = n)
    (hc : ∀ w, St w0 O C w → ∀ j v, vs[j]? = some v → w.cell? ⟨b, off + j, none⟩ = some v) (h : WA w0 O K N D ((d, .agg vs.toArray) :: L) C) :
    WK P w0 O ops Q ⟨some d, .load t x, ty, pos, af, none⟩ K N D L C := WL.y (Yl.loadN ht hx hl) hd hc h

/-- The same, out of a chunk at hand. -/
theorem WL.loadP {t : TypeId} {x : Operand} {b off : Nat} {cs : List Value} {e : TypeId} {v : Value} (ht : One P t) (hd : Nat.blt d N = true) (hx : ev L x = some (.pointer (some ⟨b, off, none⟩)))
    (hm : pt b cs e ∈ C) (hv : cs[off]? = some v) (h : WA w0 O K N D ((d, v) :: L) C) :
    WK P w0 O ops Q ⟨some d, .load t x, ty, pos, af, none⟩ K N D L C := WL.load1 ht hd hx (fun w hS => hS.cell hm hv) h
theorem WL.loadW {t : TypeId} {x : Operand} {b n : Nat} {cs : List Value} {e : TypeId} (ht : Agg P t n) (hd : Nat.blt d N = true) (hx : ev L x = some (.pointer (some ⟨b, 0, none⟩)))
    (hm : pt b cs e ∈ C) (hl : cs.length = n) (h : WA w0 O K N D ((d, .agg cs.toArray) :: L) C) :
    WK P w0 O ops Q ⟨some d, .load t x, ty, pos, af, none⟩ K N D L C := WL.loadN ht hd hx hl (fun w hS j v hv => by rw [Nat.zero_add]; exact hS.cell hm hv) h

theorem St.oldc {w : World} (h : St w0 O C w) {p : Addr} {v : Value} (hc : w0.cell? p = some v) (hO : p.block ∉ O) : w.cell? p = some v := by
  have := h.old p.block (World.block_lt_of_cell? w0 p hc) hO
  rw [World.cell?_of_block (w := w0) (w' := w) this]; exact hc

theorem wpo_new {o : Oper} {a : Act} {w : World} {cs : List Value} {e : TypeId} (hg : o.guard = none) (hd : o.dst = some d) (hdN : Nat.blt d N = true)
    (hr : (execOp a.eval o).run P w = .ok (.value (.pointer (some ⟨w.heap.size, 0, none⟩))) (w.alloc (.cells cs.toArray e)))
    (hF : Fr N D L a) (hS : St w0 O C w) (h : ∀ b, WA w0 O K N D ((d, .pointer (some ⟨b, 0, none⟩)) :: L) (pt b cs e :: C)) : wpO P ops Q o K a w := by
  refine wpo_val hg hr ?_
  rw [hd]
  exact h w.heap.size _ _ (hF.put d _ hdN) (hS.alloc cs e)

theorem WL.alloc {e : TypeId} {zs : List Value} (hz : zeroB P e = some zs) (hd : Nat.blt d N = true)
    (h : ∀ b, WA w0 O K N D ((d, .pointer (some ⟨b, 0, none⟩)) :: L) (pt b zs e :: C)) :
    WK P w0 O ops Q ⟨some d, .alloc e, ty, pos, af, none⟩ K N D L C := fun a w hF hS => by
  obtain ⟨z, hz1, hz2⟩ := run_zeroValue hz w
  exact wpo_new rfl rfl hd (by simp [execOp, Instr.alloc, hz1, newVar, newRow, hz2]) hF hS h
theorem WL.boxN {e : TypeId} {x : Operand} {cs : List Value} (hd : Nat.blt d N = true) (hx : ev L x = some (.agg cs.toArray))
    (h : ∀ b, WA w0 O K N D ((d, .pointer (some ⟨b, 0, none⟩)) :: L) (pt b cs e :: C)) :
    WK P w0 O ops Q ⟨some d, .box e x, ty, pos, af, none⟩ K N D L C := fun a w hF hS =>
  wpo_new rfl rfl hd (by simp [execOp, Instr.box, newVar, newRow, hF.ev hx, Value.cells]) hF hS h
theorem cells_one {v : Value} (h : v.oneCell' = true) : v.cells = #[v] := by cases v <;> first | rfl | (simp [Value.oneCell'] at h)
theorem WL.box1 {e : TypeId} {x : Operand} {v : Value} (hv : v.oneCell' = true) (hd : Nat.blt d N = true) (hx : ev L x = some v)
    (h : ∀ b, WA w0 O K N D ((d, .pointer (some ⟨b, 0, none⟩)) :: L) (pt b [v] e :: C)) :
    WK P w0 O ops Q ⟨some d, .box e x, ty, pos, af, none⟩ K N D L C := fun a w hF hS =>
  wpo_new rfl rfl hd (by simp [execOp, Instr.box, newVar, newRow, hF.ev hx, cells_one hv]) hF hS h

/-- 'vs' written over 'cs' from place n on gives 'cs''. -/
inductive SetN : List Value → Nat → List Value → List Value → Prop
  | nil : SetN [] 0 [] []
  | done {cs} : SetN cs 0 [] cs
  | put {c cs v vs cs'} : SetN cs 0 vs cs' → SetN (c :: cs) 0 (v :: vs) (v :: cs')
  | skip {c cs n vs cs'} : SetN cs n vs cs' → SetN (c :: cs) (n + 1) vs (c :: cs')
theorem SetN.eq {cs n vs cs'} (h : SetN cs n vs cs') : cs.take n ++ vs ++ cs.drop (n + vs.length) = cs' ∧ n + vs.length ≤ cs.length := by
  induction h with
  | nil => simp
  | done => simp
  | put _ ih =>
    obtain ⟨h1, h2⟩ := ih
    simp only [List.take_zero, List.nil_append, Nat.zero_add] at h1 h2 ⊢
    refine ⟨?_, by simp; omega⟩
    simp [h1]
  | skip _ ih =>
    obtain ⟨h1, h2⟩ := ih
    refine ⟨?_, by simp; omega⟩
    simp only [List.take_succ_cons, List.cons_append, List.cons.injEq, true_and, Nat.add_right_comm, List.drop_succ_cons]
    exact h1

theorem run_storeN {t : TypeId} {w : World} {b off : Nat} {cs cs' vs : List Value} {e : TypeId} {v : Value} (hs : sizeB P t = some vs.length) (hvc : v.cells = vs.toArray) (h1 : ∀ u ∈ vs, u.oneCell' = true)
    (hb : w.heap[b]? = some (.cells cs.toArray e (0, 0))) (hn : SetN cs off vs cs') : (Instr.storeAt t (.pointer (some ⟨b, off, none⟩)) v).run P w = .ok () (w.setRow b cs'.toArray) := by
  obtain ⟨e1, e2⟩ := hn.eq
  have := run_storeCells_at P b off e vs 0 cs.toArray w hb (by simpa using e2) h1
  simp only [Nat.add_zero] at this
  simp [Instr.storeAt, Instr.sureAddr, storeVar, run_sizeOf hs, hvc, this, ← e1]

theorem WL.store1 {t : TypeId} {x y : Operand} {b off : Nat} {cs cs' : List Value} {e : TypeId} {v : Value} {C' : List Chunk} (ht : One P t) (hx : ev L x = some (.pointer (some ⟨b, off, none⟩))) (hy : ev L y = some v) (hv : v.oneCell' = true)
    (hu : Upd (pt b cs e) (pt b cs' e) C C') (hn : SetN cs off [v] cs') (h : WA w0 O K N D L C') :
    WK P w0 O ops Q ⟨none, .store t x y, ty, pos, af, none⟩ K N D L C := fun a w hF hS => by
  have hr := run_storeN (P := P) (t := t) (vs := [v]) ht.size (cells_one hv) (by simpa using hv) (hS.heap hu.mem) hn
  exact wpo_skip rfl (by simp [execOp, hF.ev hx, hF.ev hy, hr]) (h _ _ hF (hS.row hu))
theorem WL.storeN {t : TypeId} {n : Nat} {x y : Operand} {b off : Nat} {cs cs' vs : List Value} {e : TypeId} {C' : List Chunk} (ht : Agg P t n) (hx : ev L x = some (.pointer (some ⟨b, off, none⟩))) (hy : ev L y = some (.agg vs.toArray)) (hl : vs.length = n)
    (hv : ∀ u ∈ vs, u.oneCell' = true) (hu : Upd (pt b cs e) (pt b cs' e) C C') (hn : SetN cs off vs cs') (h : WA w0 O K N D L C') :
    WK P w0 O ops Q ⟨none, .store t x y, ty, pos, af, none⟩ K N D L C := fun a w hF hS => by
  subst hl
  have hr := run_storeN (P := P) (t := t) (v := .agg vs.toArray) ht.size rfl hv (hS.heap hu.mem) hn
  exact wpo_skip rfl (by simp [execOp, hF.ev hx, hF.ev hy, hr]) (h _ _ hF (hS.row hu))

theorem run_fieldAt {t : TypeId} {f off : Nat} (hf : fldB P t f = some off) {w : World} {a : Addr} : (Instr.fieldAt t (.pointer (some a)) f).run P w = .ok (.pointer (some (a.add off))) w := by
  unfold fldB at hf
  split at hf
  · rename_i fields hu
    split at hf
    · rename_i fd hfd
      split at hf
      · rename_i k hk
        simp at hf
        subst hf
        simp [Instr.fieldAt, run_underlying hu, hfd, Instr.sureAddr, fieldPlace, run_sizeOf hk]
      · cases hf
    · cases hf
  · cases hf
theorem Yl.fieldAddr {F : World → Prop} {t : TypeId} {f k : Nat} {x : Operand} {b off : Nat} (hf : fldB P t f = some k) (hx : ev L x = some (.pointer (some ⟨b, off, none⟩))) : Yl P N D L F ⟨some d, .fieldAddr t x f, ty, pos, af, none⟩ (.pointer (some ⟨b, off + k, none⟩)) := fun a w hF _ => by
      have := run_fieldAt (P := P) hf (w := w) (a := ⟨b, off, none⟩)
      simp [execOp, hF.ev hx, this, add_blk]
theorem WL.fieldAddr {t : TypeId} {f k : Nat} {x : Operand} {b off : Nat} (hf : fldB P t f = some k) (hd : Nat.blt d N = true) (hx : ev L x = some (.pointer (some ⟨b, off, none⟩)))
    (h : WA w0 O K N D ((d, .pointer (some ⟨b, off + k, none⟩)) :: L) C) :
    WK P w0 O ops Q ⟨some d, .fieldAddr t x f, ty, pos, af, none⟩ K N D L C := WL.y (F := fun _ => True) (Yl.fieldAddr hf hx) hd (fun _ _ => trivial) h
/-- At a variable's head: the offset stands as it is. -/
theorem Yl.fieldAddr0 {F : World → Prop} {t : TypeId} {f k : Nat} {x : Operand} {b : Nat} (hf : fldB P t f = some k) (hx : ev L x = some (.pointer (some ⟨b, 0, none⟩))) :
    Yl P N D L F ⟨some d, .fieldAddr t x f, ty, pos, af, none⟩ (.pointer (some ⟨b, k, none⟩)) := by
  have := Yl.fieldAddr (P := P) (N := N) (D := D) (L := L) (F := F) (d := d) (ty := ty) (pos := pos) (af := af) hf hx
  rwa [Nat.zero_add] at this
theorem WL.fieldAddr0 {t : TypeId} {f k : Nat} {x : Operand} {b : Nat} (hf : fldB P t f = some k) (hd : Nat.blt d N = true) (hx : ev L x = some (.pointer (some ⟨b, 0, none⟩)))
    (h : WA w0 O K N D ((d, .pointer (some ⟨b, k, none⟩)) :: L) C) :
    WK P w0 O ops Q ⟨some d, .fieldAddr t x f, ty, pos, af, none⟩ K N D L C := WL.y (F := fun _ => True) (Yl.fieldAddr0 hf hx) hd (fun _ _ => trivial) h
theorem run_indexAt {t e : TypeId} {n : Nat} (ht : SlT P t e n) {w : World} {b off len cap : Nat} {k : IntKind} {i : Nat} (hi : i < len) :
    (Instr.indexAt t (.slice (some ⟨b, off, none⟩) len cap) (.int k i)).run P w = .ok (.pointer (some ⟨b, off + i * n, none⟩)) w := by
  have h1 : (0 : Int) ≤ (i : Int) ∧ (i : Int) < (len : Int) := by omega
  simp [Instr.indexAt, run_underlying ht.und, asIntOf, h1, hi, run_sizeOf ht.size, add_blk]
theorem Yl.indexAddr {F : World → Prop} {t e : TypeId} {n : Nat} {x y : Operand} {b off len cap : Nat} {k : IntKind} {i : Nat} (ht : SlT P t e n) (hx : ev L x = some (.slice (some ⟨b, off, none⟩) len cap)) (hy : ev L y = some (.int k i)) (hi : i < len) : Yl P N D L F ⟨some d, .indexAddr t x y, ty, pos, af, none⟩ (.pointer (some ⟨b, off + i * n, none⟩)) := fun a w hF _ => by
      simp [execOp, hF.ev hx, hF.ev hy, run_indexAt (P := P) ht (w := w) (k := k) hi]
theorem WL.indexAddr {t e : TypeId} {n : Nat} {x y : Operand} {b off len cap : Nat} {k : IntKind} {i : Nat} (ht : SlT P t e n) (hd : Nat.blt d N = true) (hx : ev L x = some (.slice (some ⟨b, off, none⟩) len cap)) (hy : ev L y = some (.int k i)) (hi : i < len)
    (h : WA w0 O K N D ((d, .pointer (some ⟨b, off + i * n, none⟩)) :: L) C) :
    WK P w0 O ops Q ⟨some d, .indexAddr t x y, ty, pos, af, none⟩ K N D L C := WL.y (F := fun _ => True) (Yl.indexAddr ht hx hy hi) hd (fun _ _ => trivial) h
theorem Yl.lenSl {F : World → Prop} {t e : TypeId} {x : Operand} {a0 : Option Addr} {len cap : Nat} (ht : P.underlying t = some (.slice e)) (hx : ev L x = some (.slice a0 len cap)) : Yl P N D L F ⟨some d, .call { callee := .builtin .len, args := #[x], argTypes := #[t] }, ty, pos, af, none⟩ (.int .i64 len) := fun a w hF _ => by
      simp [execOp, resolve, invoke, builtin, hF.ev hx, Builtin.len_, run_underlying ht, goInt]
theorem WL.lenSl {t e : TypeId} {x : Operand} {a0 : Option Addr} {len cap : Nat} (ht : P.underlying t = some (.slice e)) (hd : Nat.blt d N = true) (hx : ev L x = some (.slice a0 len cap)) (h : WA w0 O K N D ((d, .int .i64 len) :: L) C) :
    WK P w0 O ops Q ⟨some d, .call { callee := .builtin .len, args := #[x], argTypes := #[t] }, ty, pos, af, none⟩ K N D L C := WL.y (F := fun _ => True) (Yl.lenSl ht hx) hd (fun _ _ => trivial) h
/-- The parts of a literal, evaluated. -/
def evp (L : FL) : List (Nat × Operand) → Option (List (Nat × Value))
  | [] => some []
  | (i, x) :: r => match ev L x, evp L r with
    | some v, some vs => some ((i, v) :: vs)
    | _, _ => none
theorem evp_eq {a : Act} (hF : Fr N D L a) : ∀ {pl : List (Nat × Operand)} {ps : List (Nat × Value)}, evp L pl = some ps → pl.map (fun p => (p.1, a.eval p.2)) = ps
  | [], ps, h => by simp [evp] at h; simp [h]
  | (i, x) :: r, ps, h => by
    simp only [evp] at h
    cases hx : ev L x with
    | none => simp [hx] at h
    | some v =>
      cases hr : evp L r with
      | none => simp [hx, hr] at h
      | some us =>
        simp [hx, hr] at h
        subst h
        simp [hF.ev hx, evp_eq hF hr]
theorem evp_arr {a : Act} (hF : Fr N D L a) {parts : List (Nat × Operand)} {ps : List (Nat × Value)} (h : evp L parts = some ps) : (parts.toArray.map fun (i, x) => (i, a.eval x)) = ps.toArray := by
  apply Array.ext'
  simp only [Array.toList_map]
  exact evp_eq hF h

/-- Parts laid over cells, place by place. -/
inductive Built (pl : Nat → Option (Nat × Nat)) : List Value → List (Nat × Value) → List Value → Prop
  | nil {cs} : Built pl cs [] cs
  | one {cs cs1 cs2 i off v ps} : pl i = some (off, 1) → v.oneCell' = true → SetN cs off [v] cs1 → Built pl cs1 ps cs2 → Built pl cs ((i, v) :: ps) cs2
  | agg {cs cs1 cs2 i off n vs ps} : pl i = some (off, n) → vs.length = n → SetN cs off vs cs1 → Built pl cs1 ps cs2 → Built pl cs ((i, .agg (List.toArray vs)) :: ps) cs2

theorem foldl_seg (base : Nat) : ∀ (vs : List Value) (k : Nat) (cs : List Value), base + k + vs.length ≤ cs.length →
    (vs.zipIdx k).foldl (fun (a : Array Value) (p : Value × Nat) => a.setIfInBounds (base + p.2) p.1) cs.toArray = (cs.take (base + k) ++ vs ++ cs.drop (base + k + vs.length)).toArray
  | [], k, cs, _ => by simp
  | v :: vs, k, cs, h => by
    simp only [List.zipIdx_cons, List.foldl_cons]
    have e : cs.toArray.setIfInBounds (base + k) v = (cs.set (base + k) v).toArray := by simp
    rw [e, foldl_seg base vs (k + 1) (cs.set (base + k) v) (by simp at h ⊢; omega)]
    have := list_seg_step cs (base + k) v vs (by simp at h; omega)
    simp only [List.length_cons]
    rw [← this]
    simp [Nat.add_assoc]

theorem fill_step {pl : Nat → Option (Nat × Nat)} {i off n : Nat} {v : Value} {vs cs cs1 : List Value} {ps : List (Nat × Value)} (hp : pl i = some (off, n)) (hv : v.cells = vs.toArray) (hl : vs.length = n) (hs : SetN cs off vs cs1) :
    Instr.fill pl cs.toArray ((i, v) :: ps) = Instr.fill pl cs1.toArray ps := by
  obtain ⟨h1, h2⟩ := hs.eq
  have hsz : v.cells.size = n := by rw [hv]; simpa using hl
  have hc : (decide (v.cells.size ≠ n) || decide (off + v.cells.size > cs.toArray.size)) = false := by
    simp only [hsz, ne_eq, not_true_eq_false, decide_false, Bool.false_or, decide_eq_false_iff_not]
    simp; omega
  have hfold := foldl_seg off vs 0 cs (by simpa using h2)
  simp only [Nat.add_zero] at hfold
  have e : cs1.toArray = v.cells.zipIdx.foldl (fun (a : Array Value) (p : Value × Nat) => a.setIfInBounds (off + p.2) p.1) cs.toArray := by
    rw [← h1, ← hfold, hv]
    simp
  rw [e, Instr.fill]
  simp only [hp, hc]
  rw [if_neg (by simp)]

theorem Built.fill {pl : Nat → Option (Nat × Nat)} {cs cs' : List Value} {ps : List (Nat × Value)} (h : Built pl cs ps cs') : Instr.fill pl cs.toArray ps = some cs'.toArray := by
  induction h with
  | nil => rfl
  | one hp hv hs _ ih => rw [fill_step hp (cells_one hv) rfl hs]; exact ih
  | @agg cs cs1 cs2 i off n vs ps hp hl hs _ ih => rw [fill_step (vs := vs) hp rfl hl hs]; exact ih

/-- The places of a struct's fields. -/
def placesB (P : Program) (t : TypeId) : Option (List (Nat × Nat)) := match P.underlying t with
  | some (.struct fields) => fields.toList.mapM (fun f => (P.info? f.type).map fun i => (f.offset, i.size))
  | _ => none
structure StT (P : Program) (t : TypeId) (zs : List Value) (pl : List (Nat × Nat)) : Prop where
  zero : zeroB P t = some zs
  places : placesB P t = some pl

theorem Yl.build {F : World → Prop} {t : TypeId} {parts : List (Nat × Operand)} {ps : List (Nat × Value)} {zs cs : List Value} {pl : List (Nat × Nat)} (ht : StT P t zs pl) (hp : evp L parts = some ps) (hb : Built (fun i => pl[i]?) zs ps cs) : Yl P N D L F ⟨some d, .build t parts.toArray, ty, pos, af, none⟩ (.agg cs.toArray) := fun a w hF _ => by
      have hbu : P.built t ps = some cs.toArray := by
        have h1 := ht.zero
        have h2 := ht.places
        unfold zeroB at h1
        unfold placesB at h2
        unfold Program.built
        cases hi : P.info? t with
        | none => simp [hi] at h1
        | some it =>
          cases hz : it.zero with
          | none => simp [hi, hz] at h1
          | some z =>
            simp only [hi, hz, Option.bind_some, Option.map_some, Option.some.injEq] at h1
            cases hu : P.underlying t with
            | none => simp [hu] at h2
            | some dd =>
              cases dd <;> simp only [hu] at h2 <;> try (cases h2; done)
              simp only [hz, h2]
              have hfl := hb.fill
              have e : z.cells = zs.toArray := by rw [← h1]
              rw [e]
              simpa using hfl
      have := run_build w t ps.toArray cs.toArray (by simpa using hbu)
      simp [execOp, evp_arr hF hp, this]
theorem WL.build {t : TypeId} {parts : List (Nat × Operand)} {ps : List (Nat × Value)} {zs cs : List Value} {pl : List (Nat × Nat)} (ht : StT P t zs pl) (hp : evp L parts = some ps) (hb : Built (fun i => pl[i]?) zs ps cs) (hd : Nat.blt d N = true)
    (h : WA w0 O K N D ((d, .agg cs.toArray) :: L) C) :
    WK P w0 O ops Q ⟨some d, .build t parts.toArray, ty, pos, af, none⟩ K N D L C := WL.y (F := fun _ => True) (Yl.build ht hp hb) hd (fun _ _ => trivial) h
theorem Yl.makeIface {F : World → Prop} {t : TypeId} {x : Operand} {v : Value} (ht : P.concrete t = true) (hx : ev L x = some v) : Yl P N D L F ⟨some d, .makeInterface t x, ty, pos, af, none⟩ (.iface t v) := fun a w hF _ => by simp [execOp, hF.ev hx, run_makeInterface (P := P) w t v ht]
theorem WL.makeIface {t : TypeId} {x : Operand} {v : Value} (ht : P.concrete t = true) (hd : Nat.blt d N = true) (hx : ev L x = some v) (h : WA w0 O K N D ((d, .iface t v) :: L) C) :
    WK P w0 O ops Q ⟨some d, .makeInterface t x, ty, pos, af, none⟩ K N D L C := WL.y (F := fun _ => True) (Yl.makeIface ht hx) hd (fun _ _ => trivial) h
theorem WL.panic {x : Operand} {t : TypeId} {v : Value} {dst : Option Tmp} (hx : ev L x = some (.iface t v)) (h : WQ w0 O Q (.panic [{ v := .iface t v, recovered := false }]) N D L C) :
    WK P w0 O ops Q ⟨dst, .panic x, ty, pos, af, none⟩ K N D L C := fun a w hF hS => by
  unfold wpO
  rw [if_pos (by simp [Region.wanted])]
  refine .inl ?_
  simp only [Oper.wp, execOp, hF.ev hx, Instr.panic, goPanic, Sem.run_bind, Sem.run_halt, Result.andThen_halt, Oper.upon_panic]
  exact h a w hF hS

/-! ### calls -/
theorem run_callFunc {f : FuncId} (hf : funB P f = some true) (args : Array Value) (w : World) : (callFunc f args).run P w = .ok (.enter f args) w := by
  unfold funB at hf
  cases hfn : P.funcs[f]? with
  | none => simp [hfn] at hf
  | some fn =>
    simp only [hfn, Option.some.injEq, Bool.and_eq_true, Bool.not_eq_true'] at hf
    have hb : fn.body.isNone = false := by cases hh : fn.body <;> simp [hh] at hf ⊢
    simp only [callFunc, Sem.run_bind, run_program, Result.andThen_ok, hfn, hf.1, hb, Bool.false_eq_true, if_false, Sem.run_pure]

def evs (L : FL) : List Operand → Option (List Value)
  | [] => some []
  | x :: r => match ev L x, evs L r with
    | some v, some vs => some (v :: vs)
    | _, _ => none
theorem Fr.evs {a : Act} (hF : Fr N D L a) : ∀ {xs : List Operand} {vs : List Value}, evs L xs = some vs → xs.map a.eval = vs
  | [], vs, h => by simp [Eng.evs] at h; simp [h]
  | x :: r, vs, h => by
    simp only [Eng.evs] at h
    cases hx : Eng.ev L x with
    | none => simp [hx] at h
    | some v =>
      cases hr : Eng.evs L r with
      | none => simp [hx, hr] at h
      | some us =>
        simp [hx, hr] at h
        subst h
        simp [hF.ev hx, Fr.evs hF hr]

theorem wpo_call {o : Oper} {a : Act} {w : World} {f : FuncId} {args : Array Value} (hg : o.guard = none) (hr : (execOp a.eval o).run P w = .ok (.enter f args) w)
    (h : Calls P f args w fun
      | .returned v, w' => K (a.put o.dst v) w'
      | .panicked ch, w' => Q (.panic ch) a w'
      | .outgrown, _ => LetsOut Q) : wpO P ops Q o K a w := by
  unfold wpO
  rw [if_pos (by simp [Region.wanted, hg])]
  refine .inl ?_
  unfold Oper.wp
  rw [hr, Oper.upon_enter]
  exact h

/-- What becomes of the state behind an ending of a callee. -/
def After (w0 : World) (O : List Nat) (Q : Exit → Act → World → Prop) (K : Act → World → Prop) (N : Nat) (D : List Deferred) (L : FL) (dst : Option Tmp) (C : List Chunk) : Ending → Prop
  | .returned v => match dst with
    | some d => WA w0 O K N D ((d, v) :: L) C
    | none => WA w0 O K N D L C
  | .panicked ch => WQ w0 O Q (.panic ch) N D L C
  | .outgrown => False

theorem After.use {dst : Option Tmp} {C' : List Chunk} {e : Ending} (hd : ∀ d, dst = some d → Nat.blt d N = true) (h : After w0 O Q K N D L dst C' e) {a : Act} {w' : World} (hF : Fr N D L a) (hS : St w0 O C' w') :
    (match (motive := Ending → World → Prop) e, w' with
      | .returned v, w' => K (a.put dst v) w'
      | .panicked ch, w' => Q (.panic ch) a w'
      | .outgrown, _ => LetsOut Q) := by
  cases e with
  | returned v =>
    cases dst with
    | none => exact h a w' hF hS
    | some d => exact h _ w' (hF.put d v (hd d rfl)) hS
  | panicked ch => exact h a w' hF hS
  | outgrown => exact h.elim

/-- A call of a Go function that leaves the caller's memory alone. 'X x e cs': behind it, for some x, the ending is e and the callee's new chunks are cs. -/
theorem WL.call0 {β : Type} {f : FuncId} {xs : List Operand} {tys : Array TypeId} {dst : Option Tmp} {vs : List Value} {res : β → Ending} {cs : β → List Chunk} {ψ : β → Prop}
    (hf : funB P f = some true) (hd : ∀ d, dst = some d → Nat.blt d N = true) (hx : evs L xs = some vs)
    (hc : ∀ w, St w0 O C w → Calls P f vs.toArray w fun e w' => ∃ x, ψ x ∧ e = res x ∧ St w [] (cs x) w')
    (h : ∀ x, ψ x → After w0 O Q K N D L dst (cs x ++ C) (res x)) :
    WK P w0 O ops Q ⟨dst, .call { callee := .value (.func f), args := xs.toArray, argTypes := tys }, ty, pos, af, none⟩ K N D L C := fun a w hF hS => by
  have ha : xs.toArray.map a.eval = vs.toArray := by apply Array.ext'; simp [hF.evs hx]
  refine wpo_call (f := f) (args := vs.toArray) rfl ?_ ?_
  · simp [execOp, resolve, Deferred.ofValue, Act.eval, invoke, ha, run_callFunc hf]
  refine (hc w hS).mono fun e w' ⟨x, hψ, he, hS'⟩ => ?_
  subst he
  exact (h x hψ).use hd hF (hS.call0 hS')

/-- A call that may turn one block, whose chunk the caller holds. -/
theorem WL.call1 {β : Type} {f : FuncId} {xs : List Operand} {tys : Array TypeId} {dst : Option Tmp} {vs : List Value} {res : β → Ending} {cs : β → List Chunk} {ψ : β → Prop} {b : Nat} {bs : List Value} {e : TypeId} {C1 : List Chunk}
    (hf : funB P f = some true) (hd : ∀ d, dst = some d → Nat.blt d N = true) (hx : evs L xs = some vs) (hr : Rem (pt b bs e) C C1)
    (hc : ∀ w, St w0 O C w → Calls P f vs.toArray w fun e w' => ∃ x, ψ x ∧ e = res x ∧ St w [b] (cs x) w')
    (h : ∀ x, ψ x → After w0 O Q K N D L dst (cs x ++ C1) (res x)) :
    WK P w0 O ops Q ⟨dst, .call { callee := .value (.func f), args := xs.toArray, argTypes := tys }, ty, pos, af, none⟩ K N D L C := fun a w hF hS => by
  have ha : xs.toArray.map a.eval = vs.toArray := by apply Array.ext'; simp [hF.evs hx]
  refine wpo_call (f := f) (args := vs.toArray) rfl ?_ ?_
  · simp [execOp, resolve, Deferred.ofValue, Act.eval, invoke, ha, run_callFunc hf]
  refine (hc w hS).mono fun e w' ⟨x, hψ, he, hS'⟩ => ?_
  subst he
  exact (h x hψ).use hd hF (hS.call1 hr hS')

/-! ### the beginning and the end of a function -/
theorem enter {f : FuncId} {fn : Func} {c : Code} {args : List Value} {w : World} {R : Ending → World → Prop} (hf : P.funcs[f]? = some fn) (hb : fn.body = some c) (hn : fn.ntmps = N) (hl : Nat.ble args.length N = true) (hS : St w O C w)
    (h : WC P w O c (bodyPost P fn R) N [] (fl0 args 0) C) : Calls P f args.toArray w R := by
  refine calls_of_wp hf hb ?_
  subst hn
  have := h _ w (Fr.init args fn.ntmps (Nat.le_of_ble_eq_true hl)) hS
  simpa using this

/-- The results, read off the frame and the chunks. -/
inductive RV (P : Program) (L : FL) (C : List Chunk) : List ResultVar → List Value → Prop
  | nil : RV P L C [] []
  | tmp {t v rs vs} : lk L t = some v → RV P L C rs vs → RV P L C (.tmp t :: rs) (v :: vs)
  | cell1 {t ty b cs e v rs vs} : One P ty → lk L t = some (.pointer (some ⟨b, 0, none⟩)) → pt b cs e ∈ C → cs[0]? = some v → RV P L C rs vs → RV P L C (.cell t ty :: rs) (v :: vs)
  | cellN {t ty n b cs e rs vs} : Agg P ty n → lk L t = some (.pointer (some ⟨b, 0, none⟩)) → pt b cs e ∈ C → cs.length = n → RV P L C rs vs → RV P L C (.cell t ty :: rs) (.agg cs.toArray :: vs)

theorem Fr.evT {a : Act} (hF : Fr N D L a) {t : Nat} {v : Value} (h : lk L t = some v) : a.tmps.getD t undef = v := by
  have := hF.get t v h
  rw [Array.getD_eq_getD_getElem?, this]; rfl

def rvf (a : Act) : ResultVar → Sem Value
  | .tmp t => pure (a.tmps.getD t undef)
  | .cell b t => do loadVar t (← asAddr (a.tmps.getD b undef))

theorem RV.run {rs : List ResultVar} {vs : List Value} (h : RV P L C rs vs) {a : Act} {w : World} (hF : Fr N D L a) (hS : St w0 O C w) :
    (rs.mapM (rvf a)).run P w = .ok vs w := by
  induction h with
  | nil => simp
  | tmp hv _ ih =>
    have := hF.get _ _ hv
    have h1 := hF.evT hv
    simp only [List.mapM_cons, rvf, h1, Sem.run_bind, Sem.run_pure, Result.andThen_ok, ih]
  | cell1 ht hv hm hc _ ih =>
    have := hF.get _ _ hv
    have h1 := hF.evT hv
    have h2 := run_load1 (P := P) ht (hS.cell hm hc)
    simp only [Instr.loadAt, Instr.sureAddr, Sem.run_bind, Sem.run_pure, Result.andThen_ok] at h2
    simp only [List.mapM_cons, rvf, h1, asAddr, Sem.run_bind, Sem.run_pure, Result.andThen_ok, h2, ih]
  | cellN ht hv hm hl _ ih =>
    have := hF.get _ _ hv
    have h1 := hF.evT hv
    have h2 := run_loadN (P := P) ht (a := ⟨_, 0, none⟩) hl (fun j v hj => by rw [add_blk, Nat.zero_add]; exact hS.cell hm hj)
    simp only [Instr.loadAt, Instr.sureAddr, Sem.run_bind, Sem.run_pure, Result.andThen_ok] at h2
    simp only [List.mapM_cons, rvf, h1, asAddr, Sem.run_bind, Sem.run_pure, Result.andThen_ok, h2, ih]

def tup : List Value → Value
  | [v] => v
  | vs => .tuple vs.toArray

theorem run_results {fn : Func} {rs : List ResultVar} (hr : fn.results = rs.toArray) {vs : List Value} (h : RV P L C rs vs) {a : Act} {w : World} (hF : Fr N D L a) (hS : St w0 O C w) :
    (results fn a.tmps).run P w = .ok (tup vs) w := by
  have h1 := h.run hF hS
  have hlen : vs.length = rs.length := by
    clear h1 hr
    induction h <;> simp [*]
  have e : results fn a.tmps = (do let vs ← fn.results.mapM (rvf a); pure (if h : vs.size = 1 then vs[0] else .tuple vs)) := by
    unfold results
    congr 1
  rw [e, hr]
  simp only [Array.mapM_eq_mapM_toList, Sem.run_bind, Sem.run_map, h1, Result.andThen_ok, Sem.run_pure]
  congr 1
  match vs with
  | [] => rfl
  | [v] => rfl
  | _ :: _ :: _ => simp [tup]

theorem WQ.ret {fn : Func} {R : Ending → World → Prop} {rs : List ResultVar} {vs : List Value} (hr : fn.results = rs.toArray) (h : RV P L C rs vs) (hR : ∀ w, St w0 O C w → R (.returned (tup vs)) w) :
    WQ w0 O (bodyPost P fn R) .ret N [] L C := fun a w hF hS => ⟨hF.defers, _, run_results hr h hF hS, hR w hS⟩
theorem WQ.fin {fn : Func} {R : Ending → World → Prop} {rs : List ResultVar} {vs : List Value} (hr : fn.results = rs.toArray) (h : RV P L C rs vs) (hR : ∀ w, St w0 O C w → R (.returned (tup vs)) w) :
    WQ w0 O (bodyPost P fn R) .normal N [] L C := fun a w hF hS => ⟨hF.defers, _, run_results hr h hF hS, hR w hS⟩
theorem WQ.panicked {fn : Func} {R : Ending → World → Prop} {ch} (hR : ∀ w, St w0 O C w → R (.panicked ch) w) : WQ w0 O (bodyPost P fn R) (.panic ch) N [] L C := fun a w hF hS => ⟨hF.defers, hR w hS⟩
end
end Go.Eng

