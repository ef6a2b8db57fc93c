import Derived.Test.YtkgllhkhdjodeaaGreatEng4
set_option linter.unusedSimpArgs false
set_option linter.unusedVariables false
namespace Go.Eng
open Go Go.RowKit

/-! ### trees of Go's Expr in memory -/
inductive Tree where
  | mk (op : Int) (name : List UInt8) (kids : List Tree)
def Tree.op : Tree → Int | .mk o _ _ => o
def Tree.name : Tree → List UInt8 | .mk _ n _ => n
def Tree.kids : Tree → List Tree | .mk _ _ k => k

def flat (vs : List Value) : List Value := vs.flatMap (·.cells.toList)

/-- A slice of structs: where its cells stand. -/
def cellsAt (w : World) (b off : Nat) (xs : List Value) : Prop := ∀ j u, xs[j]? = some u → w.cell? ⟨b, off + j, none⟩ = some u

mutual
def rdT (w : World) : Tree → List Nat → Value → Prop
  | .mk op name kids, F, v => ∃ s, v = .agg #[.int .u8 op, .string (str name), s] ∧
    ((kids = [] ∧ F = [] ∧ ∃ a cap, s = .slice a 0 cap) ∨
     (kids ≠ [] ∧ ∃ b off cap G vs, s = .slice (some ⟨b, off, none⟩) kids.length cap ∧ F = b :: G ∧ cellsAt w b off (flat vs) ∧ rdL w kids G vs))
def rdL (w : World) : List Tree → List Nat → List Value → Prop
  | [], F, vs => F = [] ∧ vs = []
  | t :: ts, F, vs => ∃ F1 F2 v vs', F = F1 ++ F2 ∧ vs = v :: vs' ∧ rdT w t F1 v ∧ rdL w ts F2 vs'
end

theorem cellsAt_loc {w w' : World} {b off : Nat} {xs : List Value} (hb : w'.heap[b]? = w.heap[b]?) (h : cellsAt w b off xs) : cellsAt w' b off xs := fun j u hu => by
  rw [World.cell?_of_block (w := w) (w' := w') (a := ⟨b, off + j, none⟩) hb]; exact h j u hu

mutual
theorem rdT_loc {w w' : World} : ∀ {t : Tree} {F : List Nat} {v : Value}, (∀ k ∈ F, w'.heap[k]? = w.heap[k]?) → rdT w t F v → rdT w' t F v
  | .mk op name kids, F, v, hk, h => by
    simp only [rdT] at h ⊢
    obtain ⟨s, hv, h⟩ := h
    refine ⟨s, hv, ?_⟩
    rcases h with h | ⟨hne, b, off, cap, G, vs, hs, hF, hc, hl⟩
    · exact .inl h
    · subst hF
      exact .inr ⟨hne, b, off, cap, G, vs, hs, rfl, cellsAt_loc (hk b (by simp)) hc, rdL_loc (fun k hkG => hk k (by simp [hkG])) hl⟩
theorem rdL_loc {w w' : World} : ∀ {ts : List Tree} {F : List Nat} {vs : List Value}, (∀ k ∈ F, w'.heap[k]? = w.heap[k]?) → rdL w ts F vs → rdL w' ts F vs
  | [], F, vs, hk, h => by simp only [rdL] at h ⊢; exact h
  | t :: ts, F, vs, hk, h => by
    simp only [rdL] at h ⊢
    obtain ⟨F1, F2, v, vs', hF, hvs, h1, h2⟩ := h
    subst hF
    exact ⟨F1, F2, v, vs', rfl, hvs, rdT_loc (fun k hkF => hk k (by simp [hkF])) h1, rdL_loc (fun k hkF => hk k (by simp [hkF])) h2⟩
end

theorem rdT_val {w : World} : ∀ {t : Tree} {F : List Nat} {v : Value}, rdT w t F v → ∃ a n c, v = .agg #[.int .u8 t.op, .string (str t.name), .slice a n c] ∧ n = t.kids.length
  | .mk op name kids, F, v, h => by
    simp only [rdT] at h
    obtain ⟨s, hv, h⟩ := h
    rcases h with ⟨hk, _, a, cap, hs⟩ | ⟨_, b, off, cap, G, vs, hs, _⟩
    · subst hs; subst hk; exact ⟨a, 0, cap, hv, rfl⟩
    · subst hs; exact ⟨_, _, cap, hv, rfl⟩

theorem rdL_len {w : World} : ∀ {ts : List Tree} {F : List Nat} {vs : List Value}, rdL w ts F vs → vs.length = ts.length
  | [], F, vs, h => by simp only [rdL] at h; simp [h.2]
  | t :: ts, F, vs, h => by
    simp only [rdL] at h
    obtain ⟨F1, F2, v, vs', _, hvs, _, h2⟩ := h
    subst hvs
    simp [rdL_len h2]

theorem flat_cons (v : Value) (vs : List Value) : flat (v :: vs) = v.cells.toList ++ flat vs := by simp [flat]
theorem flat_append (xs ys : List Value) : flat (xs ++ ys) = flat xs ++ flat ys := by simp [flat]

theorem rdL_flat_len {w : World} : ∀ {ts : List Tree} {F : List Nat} {vs : List Value}, rdL w ts F vs → (flat vs).length = ts.length * 3
  | [], F, vs, h => by simp only [rdL] at h; simp [h.2, flat]
  | t :: ts, F, vs, h => by
    simp only [rdL] at h
    obtain ⟨F1, F2, v, vs', _, hvs, h1, h2⟩ := h
    subst hvs
    obtain ⟨a, n, c, hv, _⟩ := rdT_val h1
    subst hv
    rw [flat_cons, List.length_append, rdL_flat_len h2]
    simp [Value.cells]
    omega

theorem rdL_one {w : World} : ∀ {ts : List Tree} {F : List Nat} {vs : List Value}, rdL w ts F vs → ∀ u ∈ flat vs, u.oneCell' = true
  | [], F, vs, h => by simp only [rdL] at h; simp [h.2, flat]
  | t :: ts, F, vs, h => by
    simp only [rdL] at h
    obtain ⟨F1, F2, v, vs', _, hvs, h1, h2⟩ := h
    subst hvs
    obtain ⟨a, n, c, hv, _⟩ := rdT_val h1
    subst hv
    intro u hu
    rw [flat_cons, List.mem_append] at hu
    rcases hu with hu | hu
    · simp [Value.cells] at hu
      rcases hu with rfl | rfl | rfl <;> rfl
    · exact rdL_one h2 u hu

theorem drop_add_app {α : Type} (x y : List α) (k : Nat) : (x ++ y).drop (x.length + k) = y.drop k := by
  rw [← List.drop_drop]; simp

/-- The i-th of trees that are read. -/
theorem rdL_get {w : World} : ∀ {ts : List Tree} {F : List Nat} {vs : List Value} {i : Nat} {t : Tree}, rdL w ts F vs → ts[i]? = some t → ∃ F1 v, vs[i]? = some v ∧ rdT w t F1 v ∧ (∀ k ∈ F1, k ∈ F) ∧ (flat vs).drop (i * 3) = v.cells.toList ++ (flat vs).drop (i * 3 + 3)
  | [], F, vs, i, t, h, hi => by simp at hi
  | t0 :: ts, F, vs, i, t, h, hi => by
    simp only [rdL] at h
    obtain ⟨F1, F2, v, vs', hF, hvs, h1, h2⟩ := h
    subst hvs; subst hF
    have hv3 : v.cells.toList.length = 3 := by
      obtain ⟨a, n, c, hv, _⟩ := rdT_val h1
      subst hv; simp [Value.cells]
    cases i with
    | zero =>
      simp only [List.getElem?_cons_zero, Option.some.injEq] at hi
      subst hi
      refine ⟨F1, v, by simp, h1, fun k hk => by simp [hk], ?_⟩
      rw [flat_cons]
      simp [List.drop_append, hv3]
    | succ i =>
      simp only [List.getElem?_cons_succ] at hi
      obtain ⟨G, u, hu, hr, hG, hd⟩ := rdL_get h2 hi
      refine ⟨G, u, by simpa using hu, hr, fun k hk => by simp [hG k hk], ?_⟩
      rw [flat_cons]
      have e1 : (i + 1) * 3 = v.cells.toList.length + i * 3 := by rw [hv3]; omega
      have e2 : (i + 1) * 3 + 3 = v.cells.toList.length + (i * 3 + 3) := by rw [hv3]; omega
      rw [e2, e1, drop_add_app, drop_add_app]
      exact hd


theorem drop_get {xs pre rest : List Value} {k j : Nat} {u : Value} (hd : xs.drop k = pre ++ rest) (hu : pre[j]? = some u) : xs[k + j]? = some u := by
  have h1 : (xs.drop k)[j]? = some u := by
    rw [hd, List.getElem?_append_left (List.getElem?_eq_some_iff.1 hu).1]; exact hu
  simpa using h1

/-- The node that is read: its own cells, and its kids where they stand. -/
theorem rdT_kid {w : World} {op : Int} {name : List UInt8} {kids : List Tree} {F : List Nat} {a : Option Addr} {n c : Nat} {o2 nm2 : Value} (h : rdT w (.mk op name kids) F (.agg #[o2, nm2, .slice a n c])) :
    n = kids.length ∧ (∀ i t, kids[i]? = some t → ∃ b off F1 v0 v1 v2, a = some ⟨b, off, none⟩ ∧ b ∈ F ∧ (∀ k ∈ F1, k ∈ F) ∧ rdT w t F1 (.agg #[v0, v1, v2]) ∧
      w.cell? ⟨b, off + i * 3, none⟩ = some v0 ∧ w.cell? ⟨b, off + i * 3 + 1, none⟩ = some v1 ∧ w.cell? ⟨b, off + i * 3 + 2, none⟩ = some v2) := by
  simp only [rdT] at h
  obtain ⟨s, hv, h⟩ := h
  injection hv with hv
  simp only [List.toArray_inj, Array.mk.injEq, List.cons.injEq, and_true] at hv
  obtain ⟨_, _, hs⟩ := hv
  subst hs
  rcases h with ⟨hk, hF, a', cap, hs⟩ | ⟨hne, b, off, cap, G, vs, hs, hF, hc, hl⟩
  · injection hs with _ hn _
    subst hk
    exact ⟨by simpa using hn, by simp⟩
  · injection hs with ha hn hcp
    refine ⟨hn, fun i t hi => ?_⟩
    obtain ⟨F1, v, hvi, hr, hF1, hd⟩ := rdL_get hl hi
    obtain ⟨a2, n2, c2, hv2, _⟩ := rdT_val hr
    subst hv2
    have g : ∀ j u, [Value.int .u8 t.op, .string (str t.name), .slice a2 n2 c2][j]? = some u → w.cell? ⟨b, off + (i * 3 + j), none⟩ = some u := fun j u hu => hc _ u (drop_get hd (by simpa [Value.cells] using hu))
    refine ⟨b, off, F1, _, _, _, ha, by rw [hF]; simp, fun k hk => by rw [hF]; simp [hF1 k hk], hr, ?_, ?_, ?_⟩
    · simpa using g 0 _ rfl
    · simpa [Nat.add_assoc] using g 1 _ rfl
    · simpa [Nat.add_assoc] using g 2 _ rfl

/-- A tree of the holder's own. -/
def own (F : List Nat) (t : Tree) (v : Value) : Chunk where
  fp k := k ∈ F
  ok w := F.Nodup ∧ rdT w t F v
  loc w w' h hw := ⟨hw.1, rdT_loc h hw.2⟩
def ownL (F : List Nat) (ts : List Tree) (vs : List Value) : Chunk where
  fp k := k ∈ F
  ok w := F.Nodup ∧ rdL w ts F vs
  loc w w' h hw := ⟨hw.1, rdL_loc h hw.2⟩

section
variable {P : Program} {w0 : World} {O : List Nat} {ops : Array Oper} {Q : Exit → Act → World → Prop} {N : Nat} {D : List Deferred} {L : FL} {C : List Chunk}

/-- Two chunks become one. -/
theorem St.join {w : World} {c d x : Chunk} {C1 : List Chunk} (h : St w0 O (c :: d :: C1) w) (hfp : ∀ k, x.fp k → c.fp k ∨ d.fp k) (hok : c.ok w → d.ok w → (∀ k, c.fp k → ¬ d.fp k) → x.ok w) : St w0 O (x :: C1) w := by
  have h1 := List.pairwise_cons.1 h.disj
  have h2 := List.pairwise_cons.1 h1.2
  refine ⟨h.os, h.tape, h.output, h.size, h.old, fun y hy => ?_, fun y hy k hk => ?_, List.Pairwise.cons (fun y hy k hk hk' => ?_) h2.2⟩
  · rcases List.mem_cons.1 hy with rfl | hy
    · exact hok (h.ok c (by simp)) (h.ok d (by simp)) (h1.1 d (by simp))
    · exact h.ok y (by simp [hy])
  · rcases List.mem_cons.1 hy with rfl | hy
    · rcases hfp k hk with h' | h'
      · exact h.bnd c (by simp) k h'
      · exact h.bnd d (by simp) k h'
    · exact h.bnd y (by simp [hy]) k hk
  · rcases hfp k hk with h' | h'
    · exact h1.1 y (by simp [hy]) k h' hk'
    · exact h2.1 y hy k h' hk'

theorem rdL_snoc {w : World} : ∀ {ts : List Tree} {F F' : List Nat} {vs : List Value} {t : Tree} {v : Value}, rdL w ts F vs → rdT w t F' v → rdL w (ts ++ [t]) (F ++ F') (vs ++ [v])
  | [], F, F', vs, t, v, h, ht => by
    simp only [rdL] at h
    obtain ⟨rfl, rfl⟩ := h
    simp only [List.nil_append, rdL]
    exact ⟨F', [], v, [], by simp, rfl, ht, rfl, rfl⟩
  | t0 :: ts, F, F', vs, t, v, h, ht => by
    simp only [rdL] at h
    obtain ⟨F1, F2, v0, vs', hF, hvs, h1, h2⟩ := h
    subst hF; subst hvs
    simp only [List.cons_append, rdL]
    exact ⟨F1, F2 ++ F', v0, vs' ++ [v], by simp, rfl, h1, rdL_snoc h2 ht⟩

theorem St.ownNil {w : World} (h : St w0 O C w) : St w0 O (ownL [] [] [] :: C) w :=
  ⟨h.os, h.tape, h.output, h.size, h.old, fun x hx => by
    rcases List.mem_cons.1 hx with rfl | hx
    · exact ⟨List.nodup_nil, by simp [rdL]⟩
    · exact h.ok x hx, fun x hx k hk => by
    rcases List.mem_cons.1 hx with rfl | hx
    · cases hk
    · exact h.bnd x hx k hk, List.Pairwise.cons (fun x hx k hk => by cases hk) h.disj⟩

/-- One tree more. -/
theorem St.ownSnoc {w : World} {F F' : List Nat} {ts : List Tree} {vs : List Value} {t : Tree} {v : Value} (h : St w0 O (ownL F ts vs :: own F' t v :: C) w) : St w0 O (ownL (F ++ F') (ts ++ [t]) (vs ++ [v]) :: C) w :=
  h.join (fun k hk => List.mem_append.1 hk) (fun hc hd hdis => ⟨List.nodup_append.2 ⟨hc.1, hd.1, fun a ha b hb e => hdis a ha (e ▸ hb)⟩, rdL_snoc hc.2 hd.2⟩)

/-- A row of trees' cells and the trees: a node. -/
theorem St.ownNode {w : World} {a : Option Addr} {n cap : Nat} {e : TypeId} {F : List Nat} {ts : List Tree} {vs : List Value} (op : Int) (name : List UInt8) (hn : n = ts.length) (h : St w0 O (rowc (.slice a n cap) n e 3 (flat vs) :: ownL F ts vs :: C) w) :
    ∃ F', St w0 O (own F' (.mk op name ts) (.agg #[.int .u8 op, .string (str name), .slice a n cap]) :: C) w := by
  have hr : w.ownsRow 0 e 3 (.slice a n cap) n (flat vs) := h.ok _ (List.mem_cons_self ..)
  by_cases ht : ts = []
  · subst ht
    refine ⟨[], h.join (fun k hk => by cases hk) (fun _ _ _ => ⟨List.nodup_nil, ?_⟩)⟩
    simp only [rdT]
    exact ⟨_, rfl, .inl ⟨trivial, trivial, a, cap, by simp [hn]⟩⟩
  · rcases hr.2 with ⟨_, h0⟩ | ⟨g, cp, cur, hv, _, hh, _, _, _, htake⟩
    · rw [h0] at hn; exact absurd (List.eq_nil_of_length_eq_zero hn.symm) ht
    · injection hv with ha _ hc
      subst ha
      refine ⟨g :: F, h.join (fun k hk => ?_) (fun hc hd hdis => ⟨List.nodup_cons.2 ⟨fun hg => hdis g rfl hg, hd.1⟩, ?_⟩)⟩
      · rcases List.mem_cons.1 hk with rfl | hk
        · exact .inl rfl
        · exact .inr hk
      · simp only [rdT]
        refine ⟨_, rfl, .inr ⟨ht, g, 0, cap, F, vs, by rw [hn], rfl, fun j u hu => ?_, hd.2⟩⟩
        have := hr.cells (g := g) rfl j u hu
        rwa [add_blk] at this
end
end Go.Eng

