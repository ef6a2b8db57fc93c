import Derived.WalkKit
import Derived.WalkLawsBesides
import Derived.WalkSpells
set_option linter.unusedSimpArgs false
namespace Go.Eng
open Go Go.RowKit

abbrev FL := List (Nat × Value)

def lk : FL → Nat → Option Value
  | [], _ => none
  | (k, v) :: r, i => bif Nat.beq k i then some v else lk r i

def ev (L : FL) : Operand → Option Value
  | .tmp t => lk L t
  | .const v => some v
  | .global g => some (.pointer (some ⟨g, 0, none⟩))
  | .func f => some (.func (.func f) #[] #[])

structure Fr (N : Nat) (D : List Deferred) (L : FL) (a : Act) : Prop where
  defers : a.defers = D
  size : a.tmps.size = N
  get : ∀ i v, lk L i = some v → a.tmps[i]? = some v

theorem Fr.ev {N D L a} (h : Fr N D L a) {x : Operand} {v : Value} (hx : ev L x = some v) : a.eval x = v := by
  cases x with
  | tmp t => have := h.get t v hx; simp [Act.eval, this]
  | const u => simpa [Eng.ev, Act.eval] using hx
  | global g => simpa [Eng.ev, Act.eval] using hx
  | func f => simpa [Eng.ev, Act.eval] using hx

theorem Fr.put {N D L a} (h : Fr N D L a) (d : Nat) (v : Value) (hd : Nat.blt d N = true) : Fr N D ((d, v) :: L) (a.put (some d) v) := by
  have hd' : d < a.tmps.size := by rw [h.size]; exact Nat.le_of_ble_eq_true hd
  refine ⟨h.defers, by simp [Act.put, h.size], fun i u hu => ?_⟩
  simp only [lk] at hu
  by_cases hi : d = i
  · subst hi
    simp at hu
    subst hu
    simp [Act.put, hd']
  · have : Nat.beq d i = false := by
      cases h' : Nat.beq d i with
      | true => exact absurd (Nat.eq_of_beq_eq_true h') hi
      | false => rfl
    simp only [this, cond_false] at hu
    simp [Act.put, Array.getElem?_setIfInBounds_ne hi, h.get i u hu]

theorem Fr.putNone {N D L a} (h : Fr N D L a) (v : Value) : Fr N D L (a.put none v) := h

def subF (L : FL) : FL → Prop
  | [] => True
  | (i, v) :: r => lk L i = some v ∧ subF L r

theorem subF_get {L : FL} : ∀ {M : FL}, subF L M → ∀ i v, lk M i = some v → lk L i = some v
  | (k, u) :: M, h, i, v, hv => by
    simp only [lk] at hv
    cases hk : Nat.beq k i with
    | true =>
      have e : k = i := Nat.eq_of_beq_eq_true hk
      simp only [hk, cond_true, Option.some.injEq] at hv
      subst hv; subst e
      exact h.1
    | false =>
      simp only [hk, cond_false] at hv
      exact subF_get h.2 i v hv

theorem Fr.sub {N D L M a} (h : Fr N D L a) (hs : subF L M) : Fr N D M a :=
  ⟨h.defers, h.size, fun i v hv => h.get i v (subF_get hs i v hv)⟩

def fl0 : List Value → Nat → FL
  | [], _ => []
  | v :: r, k => (k, v) :: fl0 r (k + 1)

theorem lk_fl0 : ∀ (vs : List Value) (k i : Nat) (v : Value), lk (fl0 vs k) i = some v → k ≤ i ∧ vs[i - k]? = some v
  | [], _, _, _, h => by simp [fl0, lk] at h
  | u :: r, k, i, v, h => by
    simp only [fl0, lk] at h
    cases hk : Nat.beq k i with
    | true =>
      have e : k = i := Nat.eq_of_beq_eq_true hk
      simp only [hk, cond_true, Option.some.injEq] at h
      subst h; subst e
      simp
    | false =>
      simp only [hk, cond_false] at h
      obtain ⟨h1, h2⟩ := lk_fl0 r (k + 1) i v h
      refine ⟨by omega, ?_⟩
      rw [show i - k = (i - (k + 1)) + 1 by omega]
      simpa using h2

theorem Fr.init (args : List Value) (N : Nat) (h : args.length ≤ N) :
    Fr N [] (fl0 args 0) { tmps := args.toArray ++ Array.replicate (N - args.length) undef, defers := [] } := by
  refine ⟨rfl, by simp; omega, fun i v hv => ?_⟩
  obtain ⟨_, h2⟩ := lk_fl0 args 0 i v hv
  simp only [Nat.sub_zero] at h2
  have hi : i < args.length := (List.getElem?_eq_some_iff.1 h2).1
  rw [Array.getElem?_append_left (by simpa using hi)]
  simpa using h2

/-! ### memory in pieces -/

structure Chunk where
  fp : Nat → Prop
  ok : World → Prop
  loc : ∀ w w' : World, (∀ k, fp k → w'.heap[k]? = w.heap[k]?) → ok w → ok w'

structure St (w0 : World) (O : List Nat) (C : List Chunk) (w : World) : Prop where
  os : w.os = w0.os
  tape : w.tape = w0.tape
  output : w.output = w0.output
  size : w0.heap.size ≤ w.heap.size
  old : ∀ k, k < w0.heap.size → k ∉ O → w.heap[k]? = w0.heap[k]?
  ok : ∀ c ∈ C, c.ok w
  bnd : ∀ c ∈ C, ∀ k, c.fp k → k < w.heap.size ∧ (k < w0.heap.size → k ∈ O)
  disj : C.Pairwise (fun c d => ∀ k, c.fp k → ¬ d.fp k)

/-- One block of cells, whole. -/
def pt (b : Nat) (cs : List Value) (e : TypeId) : Chunk where
  fp k := k = b
  ok w := w.heap[b]? = some (.cells cs.toArray e (0, 0))
  loc w w' h hw := by rw [h b rfl]; exact hw

theorem St.init (w : World) : St w [] [] w :=
  ⟨rfl, rfl, rfl, Nat.le_refl _, fun _ _ _ => rfl, by simp, by simp, .nil⟩

theorem lt_of_heap {w : World} {b : Nat} {o : Obj} (h : w.heap[b]? = some o) : b < w.heap.size := (Array.getElem?_eq_some_iff.1 h).1

theorem St.init1 {w : World} {b : Nat} {cs : List Value} {e : TypeId} (h : w.heap[b]? = some (.cells cs.toArray e (0, 0))) : St w [b] [pt b cs e] w := by
  refine ⟨rfl, rfl, rfl, Nat.le_refl _, fun _ _ _ => rfl, ?_, ?_, ?_⟩
  · intro c hc; simp only [List.mem_singleton] at hc; subst hc; exact h
  · intro c hc k hk; simp only [List.mem_singleton] at hc; subst hc
    have : k = b := hk
    subst this
    exact ⟨lt_of_heap h, fun _ => by simp⟩
  · exact List.pairwise_singleton _ _

/-- A change of the world that touches blocks of 'T' alone (new blocks at will): chunks apart from T stay. -/
theorem Chunk.stay {c : Chunk} {w w' : World} (h : c.ok w) (hk : ∀ k, c.fp k → w'.heap[k]? = w.heap[k]?) : c.ok w' := c.loc w w' hk h

theorem St.alloc {w0 O C w} (h : St w0 O C w) (cs : List Value) (e : TypeId) :
    St w0 O (pt w.heap.size cs e :: C) (w.alloc (.cells cs.toArray e)) := by
  have hh : ∀ k, k < w.heap.size → (w.alloc (.cells cs.toArray e)).heap[k]? = w.heap[k]? := fun k hk => Below.heap_alloc w _ k hk
  refine ⟨h.os, h.tape, h.output, by have := h.size; simp; omega, fun k hk ho => ?_, ?_, ?_, ?_⟩
  · rw [hh k (Nat.lt_of_lt_of_le hk h.size)]; exact h.old k hk ho
  · intro c hc
    rcases List.mem_cons.1 hc with rfl | hc
    · show (w.heap.push _)[w.heap.size]? = _
      simp
    · exact (h.ok c hc |> fun hok => c.loc w _ (fun k hk => hh k (h.bnd c hc k hk).1) hok)
  · intro c hc k hk
    rcases List.mem_cons.1 hc with rfl | hc
    · have : k = w.heap.size := hk
      subst this
      exact ⟨by simp, fun hlt => absurd hlt (Nat.not_lt.2 h.size)⟩
    · exact ⟨by have := (h.bnd c hc k hk).1; simp; omega, (h.bnd c hc k hk).2⟩
  · refine List.Pairwise.cons (fun c hc k hk hk' => ?_) h.disj
    have : k = w.heap.size := hk
    subst this
    exact Nat.lt_irrefl _ (h.bnd c hc _ hk').1

/-- 'c' stands in C once, and C' is C with 'c'' in its place. -/
inductive Upd (c c' : Chunk) : List Chunk → List Chunk → Prop
  | here {r} : Upd c c' (c :: r) (c' :: r)
  | there {x r r'} : Upd c c' r r' → Upd c c' (x :: r) (x :: r')

inductive Rem (c : Chunk) : List Chunk → List Chunk → Prop
  | here {r} : Rem c (c :: r) r
  | there {x r r'} : Rem c r r' → Rem c (x :: r) (x :: r')

theorem Upd.mem {c c' : Chunk} {C C' : List Chunk} (h : Upd c c' C C') : c ∈ C := by
  induction h with
  | here => simp
  | there _ ih => simp [ih]

theorem Upd.mem' {c c' : Chunk} {C C' : List Chunk} (h : Upd c c' C C') {d : Chunk} (hd : d ∈ C') : d = c' ∨ d ∈ C := by
  induction h with
  | here => rcases List.mem_cons.1 hd with rfl | hd <;> simp [*]
  | there _ ih =>
    rcases List.mem_cons.1 hd with rfl | hd
    · simp
    · rcases ih hd with h | h <;> simp [h]

theorem Rem.perm {c : Chunk} {C C' : List Chunk} (h : Rem c C C') : C.Perm (c :: C') := by
  induction h with
  | here => exact List.Perm.refl _
  | there _ ih => exact (List.Perm.cons _ ih).trans (List.Perm.swap _ _ _)

theorem Upd.perm {c c' : Chunk} {C C' : List Chunk} (h : Upd c c' C C') : ∃ R, C.Perm (c :: R) ∧ C'.Perm (c' :: R) := by
  induction h with
  | here => exact ⟨_, List.Perm.refl _, List.Perm.refl _⟩
  | there _ ih =>
    obtain ⟨R, h1, h2⟩ := ih
    exact ⟨_, (List.Perm.cons _ h1).trans (List.Perm.swap _ _ _), (List.Perm.cons _ h2).trans (List.Perm.swap _ _ _)⟩

theorem St.perm {w0 O C C' w} (h : St w0 O C w) (hp : C.Perm C') : St w0 O C' w :=
  ⟨h.os, h.tape, h.output, h.size, h.old, fun c hc => h.ok c (hp.mem_iff.2 hc), fun c hc => h.bnd c (hp.mem_iff.2 hc),
    (hp.pairwise_iff (fun hxy k hk hk' => hxy k hk' hk)).1 h.disj⟩

theorem St.drop {w0 O c C w} (h : St w0 O (c :: C) w) : St w0 O C w :=
  ⟨h.os, h.tape, h.output, h.size, h.old, fun d hd => h.ok d (List.mem_cons_of_mem _ hd), fun d hd => h.bnd d (List.mem_cons_of_mem _ hd), (List.pairwise_cons.1 h.disj).2⟩

theorem St.sublist {w0 O C C' w} (h : St w0 O C w) (hs : C'.Sublist C) : St w0 O C' w :=
  ⟨h.os, h.tape, h.output, h.size, h.old, fun d hd => h.ok d (hs.subset hd), fun d hd => h.bnd d (hs.subset hd), h.disj.sublist hs⟩

/-- One block is written: its chunk turns. -/
theorem St.row {w0 O C C' w} {b : Nat} {cs cs' : List Value} {e : TypeId} (h : St w0 O C w) (hu : Upd (pt b cs e) (pt b cs' e) C C') :
    St w0 O C' (w.setRow b cs'.toArray) := by
  obtain ⟨R, p1, p2⟩ := hu.perm
  have h1 := h.perm p1
  refine St.perm ?_ p2.symm
  have hb : w.heap[b]? = some (.cells cs.toArray e (0, 0)) := h1.ok _ (List.mem_cons_self ..)
  have hbO := (h1.bnd _ (List.mem_cons_self ..) b rfl)
  have hoth : ∀ k, k ≠ b → (w.setRow b cs'.toArray).heap[k]? = w.heap[k]? := fun k hk => setRow_other w b k _ hk
  have hdis := List.pairwise_cons.1 h1.disj
  refine ⟨h.os, h.tape, h.output, by simpa using h.size, fun k hk ho => ?_, ?_, ?_, ?_⟩
  · by_cases hkb : k = b
    · subst hkb; exact absurd (hbO.2 hk) ho
    · rw [hoth k hkb]; exact h.old k hk ho
  · intro c hc
    rcases List.mem_cons.1 hc with rfl | hc
    · exact setRow_heap w b _ _ e _ hb
    · refine c.loc w _ (fun k hk => hoth k (fun e => ?_)) (h1.ok c (List.mem_cons_of_mem _ hc))
      exact hdis.1 c hc k e hk
  · intro c hc k hk
    rcases List.mem_cons.1 hc with rfl | hc
    · have : k = b := hk
      subst this
      exact ⟨by simpa using hbO.1, hbO.2⟩
    · simpa using h1.bnd c (List.mem_cons_of_mem _ hc) k hk
  · exact List.Pairwise.cons (fun c hc k hk hk' => hdis.1 c hc k hk hk') hdis.2

theorem St.heap {w0 O C w} (h : St w0 O C w) {b : Nat} {cs : List Value} {e : TypeId} (hm : pt b cs e ∈ C) : w.heap[b]? = some (.cells cs.toArray e (0, 0)) := h.ok _ hm

theorem St.cell {w0 O C w} (h : St w0 O C w) {b off : Nat} {cs : List Value} {e : TypeId} {v : Value} (hm : pt b cs e ∈ C) (hv : cs[off]? = some v) :
    w.cell? ⟨b, off, none⟩ = some v := by
  simp [World.cell?, h.heap hm, hv]

theorem St.drew {w0 O C w} (h : St w0 O C w) : St w0 O C w.drew :=
  ⟨h.os, h.tape, h.output, h.size, h.old, fun c hc => c.loc w _ (fun _ _ => rfl) (h.ok c hc), h.bnd, h.disj⟩

/-- Behind a callee that was entered in w and left w': its own chunks cs, whatever of C it did not touch stays. -/
theorem St.call {w0 O O' C w w'} {cs : List Chunk} (h : St w0 O C w) (hc : St w O' cs w') (hO : ∀ k ∈ O', k < w.heap.size → (∀ c ∈ C, ¬ c.fp k) ∧ (k < w0.heap.size → k ∈ O)) :
    St w0 O (cs ++ C) w' := by
  have hst : ∀ c ∈ C, ∀ k, c.fp k → w'.heap[k]? = w.heap[k]? := fun c hcC k hk =>
    hc.old k (h.bnd c hcC k hk).1 (fun hko => (hO k hko (h.bnd c hcC k hk).1).1 c hcC hk)
  refine ⟨hc.os.trans h.os, hc.tape.trans h.tape, hc.output.trans h.output, Nat.le_trans h.size hc.size, fun k hk ho => ?_, ?_, ?_, ?_⟩
  · have hkw := Nat.lt_of_lt_of_le hk h.size
    rw [hc.old k hkw (fun hko => ho ((hO k hko hkw).2 hk))]
    exact h.old k hk ho
  · intro c hcm
    rcases List.mem_append.1 hcm with hcm | hcm
    · exact hc.ok c hcm
    · exact c.loc w w' (hst c hcm) (h.ok c hcm)
  · intro c hcm k hk
    rcases List.mem_append.1 hcm with hcm | hcm
    · refine ⟨(hc.bnd c hcm k hk).1, fun hlt => ?_⟩
      have hkw := Nat.lt_of_lt_of_le hlt h.size
      exact (hO k ((hc.bnd c hcm k hk).2 hkw) hkw).2 hlt
    · exact ⟨Nat.lt_of_lt_of_le (h.bnd c hcm k hk).1 hc.size, (h.bnd c hcm k hk).2⟩
  · refine List.pairwise_append.2 ⟨hc.disj, h.disj, fun c hcm d hdm k hk hk' => ?_⟩
    have hkw := (h.bnd d hdm k hk').1
    exact (hO k ((hc.bnd c hcm k hk).2 hkw) hkw).1 d hdm hk'

theorem St.call0 {w0 O C w w'} {cs : List Chunk} (h : St w0 O C w) (hc : St w [] cs w') : St w0 O (cs ++ C) w' :=
  h.call hc (by simp)

/-- A callee that may turn the one block b, whose chunk the caller holds. -/
theorem St.call1 {w0 O C C1 w w'} {b : Nat} {bs : List Value} {e : TypeId} {cs : List Chunk} (h : St w0 O C w) (hr : Rem (pt b bs e) C C1) (hc : St w [b] cs w') : St w0 O (cs ++ C1) w' := by
  have h1 := h.perm hr.perm
  have hd := List.pairwise_cons.1 h1.disj
  refine h1.drop.call hc (fun k hk _ => ?_)
  simp only [List.mem_singleton] at hk
  subst hk
  exact ⟨fun c hc hf => hd.1 c hc k rfl hf, (h1.bnd _ (List.mem_cons_self ..) k rfl).2⟩

end Go.Eng

