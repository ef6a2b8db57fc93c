import Derived.Test.YtkgllhkhdjodeaaGreatEng5
import Derived.OrdersHeld
set_option linter.unusedSimpArgs false
set_option linter.unusedVariables false
namespace Go.Eng
open Go Go.RowKit

/-! ### a region that draws its order: what only reads is taken first -/
section
variable {P : Program} {w0 : World} {O : List Nat} {ops : Array Oper} {Q : Exit → Act → World → Prop} {N : Nat} {D : List Deferred} {L : FL} {C : List Chunk} {K : Act → World → Prop}

/-- The facts that loads of the region lean on: each with the numbers of the operations behind which it need not hold. -/
def Sx (Fs : List (List Nat × (World → Prop))) (listed : Array Bool) (w : World) : Prop := ∀ f ∈ Fs, (∀ j ∈ f.1, listed.getD j false = false) → f.2 w

def wpAnyT (P : Program) (ops : Array Oper) (Q : Exit → Act → World → Prop) (Fs : List (List Nat × (World → Prop))) : Nat → Array Bool → Act → World → Prop
  | 0, listed, a, w => Region.ready .any ops listed = [] ∧ Q .normal a w
  | fuel + 1, listed, a, w =>
    (Region.ready .any ops listed = [] → Q .normal a w) ∧
    ∀ i ∈ Region.ready .any ops listed, wpOp P ops Q i (fun a' w' => Sx Fs (listed.setIfInBounds i true) w' ∧ wpAnyT P ops Q Fs fuel (listed.setIfInBounds i true) a' w') a w

variable {Fs : List (List Nat × (World → Prop))}
theorem wpAny_of_T : ∀ (fuel : Nat) (listed : Array Bool) (a : Act) (w : World), wpAnyT P ops Q Fs fuel listed a w → wpAny P .any ops Q fuel listed a w
  | 0, _, _, _, h => h
  | fuel + 1, _, _, _, h => ⟨h.1, fun i hi => wpOp_mono (fun a' w' h' => wpAny_of_T fuel _ a' w' h'.2) (h.2 i hi)⟩

def Closed (ops : Array Oper) (listed : Array Bool) : Prop := ∀ j oj, ops[j]? = some oj → listed.getD j false = true → ∀ e ∈ oj.after, Region.binds .any e = true → listed.getD e.on false = true

theorem Closed.add {listed : Array Bool} {i : Nat} (h : Closed ops listed) (hi : i ∈ Region.ready .any ops listed) : Closed ops (listed.setIfInBounds i true) := by
  intro j oj hj hl e he hb
  obtain ⟨_, oi, hoi, hall⟩ := mem_ready.1 hi
  by_cases hij : i = j
  · subst hij
    have : oj = oi := Option.some.inj (hj.symm.trans hoi)
    subst this
    exact getD_set_true (hall e he hb)
  · rw [getD_set_ne false hij] at hl
    exact getD_set_true (h j oj hj hl e he hb)

/-- Operation j waits for i, by edges. -/
def reach (ops : Array Oper) : Nat → Nat → Nat → Bool
  | 0, _, _ => false
  | n + 1, j, i => match ops[j]? with
    | some oj => oj.after.any fun e => Region.binds .any e && (e.on == i || reach ops n e.on i)
    | none => false

theorem reach_not {listed : Array Bool} (hc : Closed ops listed) {i : Nat} (hi : listed.getD i false = false) : ∀ (n j : Nat), reach ops n j i = true → listed.getD j false = false
  | 0, j, h => by simp [reach] at h
  | n + 1, j, h => by
    simp only [reach] at h
    split at h
    · rename_i oj hj
      obtain ⟨e, he, hb⟩ := Array.any_eq_true'.1 h
      simp only [Bool.and_eq_true, Bool.or_eq_true, beq_iff_eq] at hb
      cases hl : listed.getD j false with
      | false => rfl
      | true =>
        have h1 := hc j oj hj hl e he hb.1
        rcases hb.2 with h2 | h2
        · rw [h2, hi] at h1; cases h1
        · rw [reach_not hc hi n e.on h2] at h1; cases h1
    · cases h

theorem getD_false_of_true {listed : Array Bool} {i : Nat} (h : listed.getD i true = false) : listed.getD i false = false := by
  rcases Nat.lt_or_ge i listed.size with h' | h'
  · simp [h'] at h ⊢; exact h
  · simp [Array.getElem?_eq_none h'] at h

theorem getD_set_ne' {listed : Array Bool} {i j : Nat} (d : Bool) (h : i ≠ j) : (listed.setIfInBounds i true).getD j d = listed.getD j d := getD_set_ne d h

theorem Sx.less {listed : Array Bool} {i : Nat} {w : World} (h : Sx Fs listed w) : Sx Fs (listed.setIfInBounds i true) w := fun f hf hj => h f hf fun j hjm => by
  have := hj j hjm
  by_cases hij : i = j
  · subst hij
    rcases Nat.lt_or_ge i listed.size with h' | h'
    · simp [h'] at this
    · simp [Array.getElem?_eq_none h']
  · rwa [getD_set_ne' false hij] at this

theorem Sx.more {listed : Array Bool} {i : Nat} {w : World} (hi : ∀ f ∈ Fs, i ∉ f.1) (h : Sx Fs (listed.setIfInBounds i true) w) : Sx Fs listed w := fun f hf hj => h f hf fun j hjm => by
  have hij : i ≠ j := fun e => hi f hf (e ▸ hjm)
  rw [getD_set_ne' false hij]; exact hj j hjm

theorem wpAnyT_first {i : Nat} {oi : Oper} {v : Value} {Y : World → Prop} (hi : ops[i]? = some oi) (hsel : ∀ (j : Nat) (o : Oper) cs b, ops[j]? = some o → o.op ≠ .select cs b)
    (hQ : ∀ c a w, Q (.panic c) (a.put oi.dst v) w → Q (.panic c) a w) (hiD : ∀ f ∈ Fs, i ∉ f.1)
    (hneed : ∀ (listed : Array Bool) (w : World), Closed ops listed → listed.getD i false = false → Sx Fs listed w → Y w) :
    ∀ (fuel : Nat) (listed : Array Bool) (a : Act) (w : World), Closed ops listed →
      (∀ j oj, ops[j]? = some oj → j ≠ i → listed.getD j true = false → (∀ e ∈ oj.after, Region.binds .any e = true → e.on ≠ i) → oi.apart ops oj = true) →
      i ∈ Region.ready .any ops listed → YieldsIf P ops Y oi v a → Sx Fs listed w →
      wpAnyT P ops Q Fs fuel (listed.setIfInBounds i true) (a.put oi.dst v) w → wpAnyT P ops Q Fs (fuel + 1) listed a w := by
  intro fuel
  induction fuel with
  | zero =>
    intro listed a w hc _ hr hy hS H
    refine ⟨fun h => (by rw [h] at hr; cases hr), fun j hj => ?_⟩
    by_cases hji : j = i
    · subst hji; exact hy.wpOp hi (hneed listed w hc (getD_false_of_true (mem_ready.1 hr).1) hS) ⟨hS.less, H⟩
    · have := ready_mono hj hji
      rw [H.1] at this
      cases this
  | succ fuel ih =>
    intro listed a w hc hfree hr hy hS H
    refine ⟨fun h => (by rw [h] at hr; cases hr), fun j hj => ?_⟩
    by_cases hji : j = i
    · subst hji; exact hy.wpOp hi (hneed listed w hc (getD_false_of_true (mem_ready.1 hr).1) hS) ⟨hS.less, H⟩
    · have h1 := H.2 j (ready_mono hj hji)
      obtain ⟨hjun, oj, hoj, hall⟩ := mem_ready.1 hj
      have hnot : ∀ e ∈ oj.after, Region.binds .any e = true → e.on ≠ i := fun e he hb heq => by
        have h1 := hall e he hb
        have h0 := (mem_ready.1 hr).1
        rw [heq, getD_false_of_true h0] at h1
        cases h1
      have h2 := wpOp_putIf hoj (hfree j oj hoj hji hjun hnot) (fun cs b => hsel i oi cs b hi) (fun cs b => hsel j oj cs b hoj) hQ hy h1
      have hfree' : ∀ k ok, ops[k]? = some ok → k ≠ i → (listed.setIfInBounds j true).getD k true = false →
          (∀ e ∈ ok.after, Region.binds .any e = true → e.on ≠ i) → oi.apart ops ok = true := fun k ok hk hki hun hno => by
        refine hfree k ok hk hki ?_ hno
        by_cases hjk : j = k
        · subst hjk; exact hjun
        · rw [getD_set_ne true hjk] at hun; exact hun
      refine wpOp_mono (fun a' w' h3 => ?_) h2
      obtain ⟨hy', hS', H'⟩ := h3
      rw [Array.setIfInBounds_comm _ _ (Ne.symm hji)] at hS' H'
      have hSj := Sx.more hiD hS'
      exact ⟨hSj, ih (listed.setIfInBounds j true) a' w' (hc.add hj) hfree' (ready_mono hr (Ne.symm hji)) hy' hSj H'⟩

/-- The state inside a region that draws. -/
def WD (P : Program) (w0 : World) (O : List Nat) (ops : Array Oper) (Q : Exit → Act → World → Prop) (Fs : List (List Nat × (World → Prop))) (fuel : Nat) (listed : Array Bool) (N : Nat) (D : List Deferred) (L : FL) (C : List Chunk) : Prop :=
  Closed ops listed → WA w0 O (fun a w => Sx Fs listed w → wpAnyT P ops Q Fs fuel listed a w) N D L C

theorem WC.draws {id : Nat} {l : List Oper} (Fs : List (List Nat × (World → Prop))) (hm : P.follows .mixedOrders = true) (hF : ∀ w, St w0 O C w → ∀ f ∈ Fs, f.2 w)
    (h : WD P w0 O l.toArray Q Fs l.length (Array.replicate l.length false) N D L C) : WC P w0 O (.region id l.toArray true) Q N D L C := fun a w hFr hS => by
  refine wp_region_any hm (wpAny_of_T (Fs := Fs) _ _ _ _ ?_)
  have hc : Closed l.toArray (Array.replicate l.length false) := by
    intro j oj _ hl
    rcases Nat.lt_or_ge j l.length with h' | h'
    · simp [h'] at hl
    · simp [h'] at hl
  have := h hc a w.drew hFr hS.drew (fun f hf _ => hF w.drew hS.drew f hf)
  simpa using this

/-- A reading operation is taken: it yields v where Y holds; Y is one of the region's facts, or asks nothing. -/
theorem WD.take {i d fuel : Nat} {oi : Oper} {v : Value} {Y : World → Prop} {listed : Array Bool} (hi : ops[i]? = some oi) (hd : oi.dst = some d) (hdN : Nat.blt d N = true) (hg : oi.guard = none) (hs : Region.noSelect ops = true)
    (hf : Region.free .any ops listed i = true) (hr : (Region.ready .any ops listed).contains i = true) (hQ : ∀ c a w, Q (.panic c) (a.put oi.dst v) w → Q (.panic c) a w)
    (hiD : (Fs.all fun f => !f.1.contains i) = true) (hneed : ∀ (listed : Array Bool) (w : World), Closed ops listed → listed.getD i false = false → Sx Fs listed w → Y w)
    (hy : Yl P N D L Y oi v) (h : WD P w0 O ops Q Fs fuel (listed.setIfInBounds i true) N D ((d, v) :: L) C) : WD P w0 O ops Q Fs (fuel + 1) listed N D L C := fun hc a w hFr hS hSx => by
  have hrm : i ∈ Region.ready .any ops listed := by simpa using hr
  have hiD' : ∀ f ∈ Fs, i ∉ f.1 := fun f hf' hm => by
    have := List.all_eq_true.1 hiD f hf'
    simp at this
    exact this hm
  refine wpAnyT_first hi (Region.noSelect_spec hs) hQ hiD' hneed fuel listed a w hc (Region.free_spec hi hf) hrm (.inl ⟨by simp [Region.wanted, hg], fun w' hw' => hy a w' hFr hw'⟩) hSx ?_
  have := h (hc.add hrm) (a.put (some d) v) w (hFr.put d v hdN) hS hSx.less
  rw [hd]
  exact this

/-- One whose guard says no. -/
theorem WD.skip {i d fuel j dj : Nat} {oi : Oper} {g c : Bool} {listed : Array Bool} (hi : ops[i]? = some oi) (hd : oi.dst = some d) (hdN : Nat.blt d N = true) (hg : oi.guard = some (j, g)) (hj : (ops[j]?).bind (·.dst) = some dj) (hv : lk L dj = some (.bool c)) (hne : (c == g) = false) (hs : Region.noSelect ops = true)
    (hf : Region.free .any ops listed i = true) (hr : (Region.ready .any ops listed).contains i = true) (hQ : ∀ c a w, Q (.panic c) (a.put oi.dst undef) w → Q (.panic c) a w)
    (hiD : (Fs.all fun f => !f.1.contains i) = true)
    (h : WD P w0 O ops Q Fs fuel (listed.setIfInBounds i true) N D ((d, undef) :: L) C) : WD P w0 O ops Q Fs (fuel + 1) listed N D L C := fun hc a w hFr hS hSx => by
  have hrm : i ∈ Region.ready .any ops listed := by simpa using hr
  have hiD' : ∀ f ∈ Fs, i ∉ f.1 := fun f hf' hm => by
    have := List.all_eq_true.1 hiD f hf'
    simp at this
    exact this hm
  have hw : Region.wanted oi (yielded ops a.tmps) = false := by
    have := hFr.get dj _ hv
    simp [Region.wanted, hg, yielded, hj, this]
    simpa using hne
  refine wpAnyT_first (Y := fun _ => True) hi (Region.noSelect_spec hs) hQ hiD' (fun _ _ _ _ _ => trivial) fuel listed a w hc (Region.free_spec hi hf) hrm (.inr ⟨hw, rfl⟩) hSx ?_
  have := h (hc.add hrm) (a.put (some d) undef) w (hFr.put d undef hdN) hS hSx.less
  rw [hd]
  exact this
theorem WD.skipU {i d fuel j dj : Nat} {oi : Oper} {g : Bool} {listed : Array Bool} (hi : ops[i]? = some oi) (hd : oi.dst = some d) (hdN : Nat.blt d N = true) (hg : oi.guard = some (j, g)) (hj : (ops[j]?).bind (·.dst) = some dj) (hv : lk L dj = some undef) (hs : Region.noSelect ops = true)
    (hf : Region.free .any ops listed i = true) (hr : (Region.ready .any ops listed).contains i = true) (hQ : ∀ c a w, Q (.panic c) (a.put oi.dst undef) w → Q (.panic c) a w)
    (hiD : (Fs.all fun f => !f.1.contains i) = true)
    (h : WD P w0 O ops Q Fs fuel (listed.setIfInBounds i true) N D ((d, undef) :: L) C) : WD P w0 O ops Q Fs (fuel + 1) listed N D L C := fun hc a w hFr hS hSx => by
  have hrm : i ∈ Region.ready .any ops listed := by simpa using hr
  have hiD' : ∀ f ∈ Fs, i ∉ f.1 := fun f hf' hm => by
    have := List.all_eq_true.1 hiD f hf'
    simp at this
    exact this hm
  have hw : Region.wanted oi (yielded ops a.tmps) = false := by
    have := hFr.get dj _ hv
    simp [Region.wanted, hg, yielded, hj, this, undef]
  refine wpAnyT_first (Y := fun _ => True) hi (Region.noSelect_spec hs) hQ hiD' (fun _ _ _ _ _ => trivial) fuel listed a w hc (Region.free_spec hi hf) hrm (.inr ⟨hw, rfl⟩) hSx ?_
  have := h (hc.add hrm) (a.put (some d) undef) w (hFr.put d undef hdN) hS hSx.less
  rw [hd]
  exact this
/-- One whose guard says yes: as one without. -/
theorem WD.takeG {i d fuel j dj : Nat} {oi : Oper} {g : Bool} {v : Value} {Y : World → Prop} {listed : Array Bool} (hi : ops[i]? = some oi) (hd : oi.dst = some d) (hdN : Nat.blt d N = true) (hg : oi.guard = some (j, g)) (hj : (ops[j]?).bind (·.dst) = some dj) (hv : lk L dj = some (.bool g)) (hs : Region.noSelect ops = true)
    (hf : Region.free .any ops listed i = true) (hr : (Region.ready .any ops listed).contains i = true) (hQ : ∀ c a w, Q (.panic c) (a.put oi.dst v) w → Q (.panic c) a w)
    (hiD : (Fs.all fun f => !f.1.contains i) = true) (hneed : ∀ (listed : Array Bool) (w : World), Closed ops listed → listed.getD i false = false → Sx Fs listed w → Y w)
    (hy : Yl P N D L Y { oi with guard := none } v) (h : WD P w0 O ops Q Fs fuel (listed.setIfInBounds i true) N D ((d, v) :: L) C) : WD P w0 O ops Q Fs (fuel + 1) listed N D L C := fun hc a w hFr hS hSx => by
  have hrm : i ∈ Region.ready .any ops listed := by simpa using hr
  have hiD' : ∀ f ∈ Fs, i ∉ f.1 := fun f hf' hm => by
    have := List.all_eq_true.1 hiD f hf'
    simp at this
    exact this hm
  have hw : Region.wanted oi (yielded ops a.tmps) = true := by
    have := hFr.get dj _ hv
    simp [Region.wanted, hg, yielded, hj, this]
  refine wpAnyT_first hi (Region.noSelect_spec hs) hQ hiD' hneed fuel listed a w hc (Region.free_spec hi hf) hrm (.inl ⟨hw, fun w' hw' => hy a w' hFr hw'⟩) hSx ?_
  have := h (hc.add hrm) (a.put (some d) v) w (hFr.put d v hdN) hS hSx.less
  rw [hd]
  exact this

/-- The operation that alone may come up now: whatever it does. -/
theorem WD.one {i fuel : Nat} {oi : Oper} {listed : Array Bool} (hr : Region.ready .any ops listed = [i]) (hi : ops[i]? = some oi)
    (h : WK P w0 O ops Q oi (fun a w => Sx Fs (listed.setIfInBounds i true) w ∧ wpAnyT P ops Q Fs fuel (listed.setIfInBounds i true) a w) N D L C) : WD P w0 O ops Q Fs (fuel + 1) listed N D L C := fun hc a w hFr hS hSx => by
  refine ⟨fun h => (by rw [h] at hr; cases hr), fun j hj => ?_⟩
  rw [hr] at hj
  simp only [List.mem_singleton] at hj
  subst hj
  have := h a w hFr hS
  unfold wpOp
  simp only [hi]
  exact this
theorem WD.two {i j fuel : Nat} {oi oj : Oper} {listed : Array Bool} (hr : Region.ready .any ops listed = [i, j]) (hi : ops[i]? = some oi) (hj : ops[j]? = some oj)
    (h : WK P w0 O ops Q oi (fun a w => Sx Fs (listed.setIfInBounds i true) w ∧ wpAnyT P ops Q Fs fuel (listed.setIfInBounds i true) a w) N D L C)
    (h' : WK P w0 O ops Q oj (fun a w => Sx Fs (listed.setIfInBounds j true) w ∧ wpAnyT P ops Q Fs fuel (listed.setIfInBounds j true) a w) N D L C) : WD P w0 O ops Q Fs (fuel + 1) listed N D L C := fun hc a w hFr hS hSx => by
  refine ⟨fun h => (by rw [h] at hr; cases hr), fun k hk => ?_⟩
  rw [hr] at hk
  simp only [List.mem_cons, List.not_mem_nil, or_false] at hk
  rcases hk with rfl | rfl
  · have := h a w hFr hS
    unfold wpOp
    simp only [hi]
    exact this
  · have := h' a w hFr hS
    unfold wpOp
    simp only [hj]
    exact this
/-- Behind it: the facts that are still wanted are shown anew. -/
theorem WD.on {i fuel : Nat} {listed : Array Bool} (hc : Closed ops (listed.setIfInBounds i true)) (hS : ∀ w, St w0 O C w → Sx Fs (listed.setIfInBounds i true) w) (h : WD P w0 O ops Q Fs fuel (listed.setIfInBounds i true) N D L C) :
    WA w0 O (fun a w => Sx Fs (listed.setIfInBounds i true) w ∧ wpAnyT P ops Q Fs fuel (listed.setIfInBounds i true) a w) N D L C := fun a w hFr hSt =>
  ⟨hS w hSt, h hc a w hFr hSt (hS w hSt)⟩
theorem WD.done {fuel : Nat} {listed : Array Bool} (hr : Region.ready .any ops listed = []) (h : WQ w0 O Q .normal N D L C) : WD P w0 O ops Q Fs fuel listed N D L C := fun hc a w hFr hS hSx => by
  cases fuel with
  | zero => exact ⟨hr, h a w hFr hS⟩
  | succ n => exact ⟨fun _ => h a w hFr hS, by rw [hr]; simp⟩

/-- Closed by a Bool, for the kernel. -/
def closedB (ops : Array Oper) (listed : Array Bool) : Bool := (List.range ops.size).all fun j => !listed.getD j false || match ops[j]? with
  | some oj => oj.after.all fun e => !Region.binds .any e || listed.getD e.on false
  | none => true
theorem closed_of {listed : Array Bool} (h : closedB ops listed = true) : Closed ops listed := by
  intro j oj hj hl e he hb
  have hlt : j < ops.size := (Array.getElem?_eq_some_iff.1 hj).1
  have h1 := List.all_eq_true.1 h j (List.mem_range.2 hlt)
  simp only [hl, Bool.not_true, Bool.false_or, hj] at h1
  have h2 := Array.all_eq_true_iff_forall_mem.1 h1 e he
  simpa [hb] using h2

/-- What a fact of the region asks of a load that leans on it. -/
theorem need_fact {i n : Nat} {ds : List Nat} {Y : World → Prop} (hm : (ds, Y) ∈ Fs) (hr : (ds.all fun j => reach ops n j i) = true) :
    ∀ (listed : Array Bool) (w : World), Closed ops listed → listed.getD i false = false → Sx Fs listed w → Y w := fun listed w hc hi hS =>
  hS (ds, Y) hm fun j hj => reach_not hc hi n j (List.all_eq_true.1 hr j hj)
theorem need_at {i : Nat} (k n : Nat) {ds : List Nat} {Y : World → Prop} (hm : Fs[k]? = some (ds, Y)) (hr : (ds.all fun j => reach ops n j i) = true) :
    ∀ (listed : Array Bool) (w : World), Closed ops listed → listed.getD i false = false → Sx Fs listed w → Y w := need_fact (List.mem_of_getElem? hm) hr
theorem Sx.none {listed : Array Bool} {w : World} : Sx [] listed w := fun f hf => by cases hf
theorem Sx.keep {listed : Array Bool} {w : World} {ds : List Nat} {Y : World → Prop} (h : Y w) (hr : Sx Fs listed w) : Sx ((ds, Y) :: Fs) listed w := fun f hf hj => by
  rcases List.mem_cons.1 hf with rfl | hf
  · exact h
  · exact hr f hf hj
theorem Sx.gone {listed : Array Bool} {w : World} {ds : List Nat} {Y : World → Prop} (hl : (ds.any fun j => listed.getD j false) = true) (hr : Sx Fs listed w) : Sx ((ds, Y) :: Fs) listed w := fun f hf hj => by
  rcases List.mem_cons.1 hf with rfl | hf
  · obtain ⟨j, hm, hl⟩ := List.any_eq_true.1 hl
    rw [hj j hm] at hl; cases hl
  · exact hr f hf hj
theorem facts_nil {w : World} : ∀ f ∈ ([] : List (List Nat × (World → Prop))), f.2 w := fun f hf => by cases hf
theorem facts_cons {w : World} {ds : List Nat} {Y : World → Prop} (h : Y w) (hr : ∀ f ∈ Fs, f.2 w) : ∀ f ∈ ((ds, Y) :: Fs), f.2 w := fun f hf => by
  rcases List.mem_cons.1 hf with rfl | hf
  · exact h
  · exact hr f hf
theorem need_none {i : Nat} : ∀ (listed : Array Bool) (w : World), Closed ops listed → listed.getD i false = false → Sx Fs listed w → (fun _ : World => True) w := fun _ _ _ _ _ => trivial
end
end Go.Eng

