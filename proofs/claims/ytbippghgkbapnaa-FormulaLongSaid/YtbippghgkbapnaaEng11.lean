import Derived.Test.YtbippghgkbapnaaM10
set_option linter.unusedSimpArgs false
set_option linter.unusedVariables false
namespace Go.Proofs.Ytbippghgkbapnaa
open Go Go.Eng Go.Proofs
section
variable {P : Program} {w0 : World} {O : List Nat} {ops : Array Oper} {Q : Exit → Act → World → Prop} {N : Nat} {D : List Deferred} {L : FL} {C : List Chunk} {K : Act → World → Prop}
variable {d : Nat} {ty : TypeId} {pos : String} {af : Array Edge}
theorem bld_fp1 {b : Nat} {q v : Value} {n : Nat} {xs : List Value} : ∀ c ∈ [pt b [q, v] 91, rowc v n 5 1 xs], ∀ k, c.fp k → k ∈ b :: ob v := by
  intro c hc k hk
  simp only [List.mem_cons, List.not_mem_nil, or_false] at hc
  rcases hc with rfl | rfl
  · have : k = b := hk
    simp [this]
  · exact List.mem_cons_of_mem _ (mem_ob.2 hk)
theorem bld_fp2 {b : Nat} {q v : Value} {n : Nat} {xs : List Value} : ∀ k ∈ b :: ob v, ∃ c ∈ [pt b [q, v] 91, rowc v n 5 1 xs], c.fp k := by
  intro k hk
  rcases List.mem_cons.1 hk with rfl | hk
  · exact ⟨_, List.mem_cons_self .., rfl⟩
  · exact ⟨_, List.mem_cons_of_mem _ (List.mem_cons_self ..), mem_ob.1 hk⟩
/-- A call that gets the builder. -/
theorem WL.callB {β : Type} {f : FuncId} {xs : List Operand} {tys : Array TypeId} {vs : List Value} {res : β → Value} {c1 c2 : β → Chunk} {q v : Value} {l : List UInt8} {b : Nat} {Ca C1 : List Chunk}
    (hf : funB P f = some true) (hd : Nat.blt d N = true) (hx : evs L xs = some vs) (hr1 : Rem (pt b [q, v] 91) C Ca) (hr2 : Rem (rowc v l.length 5 1 (bcells l)) Ca C1)
    (hc : ∀ w, St w0 O (pt b [q, v] 91 :: rowc v l.length 5 1 (bcells l) :: C1) w → St w (b :: ob v) (bld b q v l) w → Calls P f vs.toArray w fun e w' => ∃ x, e = .returned (res x) ∧ St w (b :: ob v) [c1 x, c2 x] w')
    (h : ∀ x, WA w0 O K N D ((d, res x) :: L) (c1 x :: c2 x :: C1)) :
    WK P w0 O ops Q ⟨some d, .call { callee := .value (.func f), args := xs.toArray, argTypes := tys }, ty, pos, af, none⟩ K N D L C :=
  WL.callC (Cs := [pt b [q, v] 91, rowc v l.length 5 1 (bcells l)]) (cs := fun x => [c1 x, c2 x]) (O' := b :: ob v) hf (fun d' e => by cases e; exact hd) hx (hr1.perm.trans (hr2.perm.cons _)) bld_fp1 bld_fp2 hc h
theorem WL.callFB {β : Type} {f : FuncId} {x : Operand} {xs : List Operand} {tys : Array TypeId} {vs us cap : List Value} {res : β → Value} {c1 c2 : β → Chunk} {q v : Value} {l : List UInt8} {b : Nat} {Ca C1 : List Chunk}
    (hf : funB P f = some true) (hd : Nat.blt d N = true) (hfv : ev L x = some (.func (.func f) us.toArray cap.toArray)) (hx : evs L xs = some vs) (hr1 : Rem (pt b [q, v] 91) C Ca) (hr2 : Rem (rowc v l.length 5 1 (bcells l)) Ca C1)
    (hc : ∀ w, St w0 O (pt b [q, v] 91 :: rowc v l.length 5 1 (bcells l) :: C1) w → St w (b :: ob v) (bld b q v l) w → Calls P f (us ++ vs ++ cap).toArray w fun e w' => ∃ x, e = .returned (res x) ∧ St w (b :: ob v) [c1 x, c2 x] w')
    (h : ∀ x, WA w0 O K N D ((d, res x) :: L) (c1 x :: c2 x :: C1)) :
    WK P w0 O ops Q ⟨some d, .call { callee := .value x, args := xs.toArray, argTypes := tys }, ty, pos, af, none⟩ K N D L C :=
  WL.callFC (Cs := [pt b [q, v] 91, rowc v l.length 5 1 (bcells l)]) (cs := fun x => [c1 x, c2 x]) (O' := b :: ob v) hf (fun d' e => by cases e; exact hd) hfv hx (hr1.perm.trans (hr2.perm.cons _)) bld_fp1 bld_fp2 hc h
end

/-- What the two closures of Print stand on: the tree, the boxes that hold the closures. -/
structure PEnv (w : World) (O : List Nat) (bo bp bk : Nat) (t : Tree) (G : List Nat) (a : Option Addr) (c : Nat) : Prop where
  rd : rdT w t G (tv t a c)
  nf : ∀ k ∈ G, k ∉ O
  h5 : w.heap[bp]? = some (.cells [Value.func (.func 54) [].toArray [pp bo, pp bk].toArray].toArray 69 (0, 0))
  h6 : w.heap[bk]? = some (.cells [Value.func (.func 51) [].toArray [pp bp, pp bo].toArray].toArray 97 (0, 0))
  n5 : bp ∉ O
  n6 : bk ∉ O
theorem PEnv.next {w0 w : World} {O O' : List Nat} {C : List Chunk} {bo bp bk : Nat} {t : Tree} {G : List Nat} {a : Option Addr} {c : Nat} (hE : PEnv w0 O bo bp bk t G a c) (hS : St w0 O C w) (hO : ∀ k ∈ O', ∃ ch ∈ C, ch.fp k) :
    PEnv w O' bo bp bk t G a c := by
  have hn : ∀ k, k < w0.heap.size → k ∉ O → k ∉ O' := fun k hlt hk hk' => by
    obtain ⟨ch, h1, h2⟩ := hO k hk'
    exact hk ((hS.bnd ch h1 k h2).2 hlt)
  exact ⟨hS.oldT hE.rd (fun k hk => ⟨rdT_lt hE.rd k hk, hE.nf k hk⟩), fun k hk => hn k (rdT_lt hE.rd k hk) (hE.nf k hk), hS.oldh hE.h5 hE.n5, hS.oldh hE.h6 hE.n6, hn _ (lt_of_heap hE.h5) hE.n5, hn _ (lt_of_heap hE.h6) hE.n6⟩
theorem PEnv.nextB {w0 w : World} {O : List Nat} {C1 : List Chunk} {bo bp bk : Nat} {t : Tree} {G : List Nat} {a : Option Addr} {c : Nat} {q v : Value} {n : Nat} {xs : List Value} (hE : PEnv w0 O bo bp bk t G a c) (hS : St w0 O (pt bo [q, v] 91 :: rowc v n 5 1 xs :: C1) w) :
    PEnv w (bo :: ob v) bo bp bk t G a c := hE.next hS (fun k hk => by
  obtain ⟨ch, h1, h2⟩ := bld_fp2 (b := bo) (q := q) (v := v) (n := n) (xs := xs) k hk
  exact ⟨ch, List.mem_append_left C1 h1, h2⟩)
theorem PEnv.kid {w : World} {O : List Nat} {bo bp bk : Nat} {t k : Tree} {G : List Nat} {a : Option Addr} {c i : Nat} (hE : PEnv w O bo bp bk t G a c) (hi : t.kids[i]? = some k) :
    ∃ b off F1 a1 c1, a = some ⟨b, off, none⟩ ∧ b ∉ O ∧ PEnv w O bo bp bk k F1 a1 c1 ∧
      (∀ j v, [Value.int .u8 k.op, .string (str k.name), .slice a1 k.kids.length c1][j]? = some v → w.cell? ⟨b, off + i * 3 + j, none⟩ = some v) := by
  obtain ⟨b, off, F1, a1, c1, ha, hb, hF, hr, hc⟩ := rdT_at hE.rd hi
  exact ⟨b, off, F1, a1, c1, ha, hE.nf b hb, ⟨hr, fun x hx => hE.nf x (hF x hx), hE.h5, hE.h6, hE.n5, hE.n6⟩, hc⟩

/-- The builder's own head, and the row's address and room. -/
abbrev PX (bo : Nat) : Type := { x : Value × Option Addr × Nat // x.1 = .pointer none ∨ x.1 = pp bo }
def PutPost (w : World) (bo : Nat) (v : Value) (l : List UInt8) (e : Ending) (w' : World) : Prop :=
  ∃ x : PX bo, e = .returned (.tuple #[]) ∧ St w (bo :: ob v) [pt bo [x.1.1, .slice x.1.2.1 l.length x.1.2.2] 91, rowc (.slice x.1.2.1 l.length x.1.2.2) l.length 5 1 (bcells l)] w'
def PutC (t : Tree) : Prop := ∀ G a c q ba bc l l2 bo bp bk w, l2 = l ++ Fm.putS t → PEnv w (bo :: ob (.slice ba (List.length l) bc)) bo bp bk t G a c → Fm.notOk t = true → (q = .pointer none ∨ q = pp bo) → List.length l + (Fm.putS t).length ≤ 70368744177664 →
  St w (bo :: ob (.slice ba l.length bc)) (bld bo q (.slice ba l.length bc) l) w → Calls Try.prog 54 [tv t a c, pp bo, pp bk].toArray w (PutPost w bo (.slice ba l.length bc) l2)
def KidC (t : Tree) : Prop := ∀ G a c q ba bc l l2 bs sa sc bo bp bk w, l2 = l ++ Fm.kidS t bs → PEnv w (bo :: ob (.slice ba (List.length l) bc)) bo bp bk t G a c → Bare w (bo :: ob (.slice ba l.length bc)) sa bs → List.length bs ≤ 1000 → Fm.notOk t = true → (q = .pointer none ∨ q = pp bo) →
  List.length l + (Fm.kidS t bs).length ≤ 70368744177664 → St w (bo :: ob (.slice ba l.length bc)) (bld bo q (.slice ba l.length bc) l) w →
  Calls Try.prog 51 [tv t a c, .slice sa bs.length sc, pp bp, pp bo].toArray w (PutPost w bo (.slice ba l.length bc) l2)
theorem WriteString_e (b : Nat) (q v : Value) (l s l2 : List UInt8) (n : Nat) (hl2 : l2 = l ++ s) (hq : q = .pointer none ∨ q = pp b) (hb : l.length + s.length ≤ 140737488355328) (hn : n = s.length) (w : World) (hS0 : St w (b :: ob v) (bld b q v l) w) :
    Calls Try.prog 53 [pp b, .string (str s)].toArray w fun e w' => ∃ x : Option Addr × Nat, e = .returned (.tuple #[.int .i64 (n : Int), .nilIface]) ∧ St w (b :: ob v) (bld b (pp b) (.slice x.1 l2.length x.2) l2) w' := by
  subst hl2; subst hn
  exact WriteString_c b q v l s hq hb w hS0
theorem Bare.of_new {w0 w : World} {O : List Nat} {C1 : List Chunk} {b g k : Nat} {q v : Value} {n : Nat} {xs : List Value} {bs : List Int} {sa : Option Addr} (hS : St w0 O (pt b [q, v] 91 :: rowc v n 5 1 xs :: C1) w) (hm : pt g (bs.map (Value.int .u8)) 5 ∈ C1)
    (hs : sa = some ⟨g, 0, none⟩ ∨ k = 0) : Bare w (b :: ob v) sa (bs.take k) := by
  intro i u hu
  rcases hs with hs | hs
  · refine ⟨g, 0, hs, fun hk => ?_, ?_⟩
    · obtain ⟨ch, h1, h2⟩ := bld_fp2 (b := b) (q := q) (v := v) (n := n) (xs := xs) g hk
      have hd := List.pairwise_append.1 (show ([pt b [q, v] 91, rowc v n 5 1 xs] ++ C1).Pairwise _ from hS.disj)
      exact hd.2.2 ch h1 _ hm g h2 rfl
    · rw [Nat.zero_add]
      refine hS.cell (cs := bs.map (Value.int .u8)) (e := 5) (List.mem_cons_of_mem _ (List.mem_cons_of_mem _ hm)) ?_
      have : bs[i]? = some u := by
        rw [List.getElem?_take] at hu
        split at hu
        · exact hu
        · cases hu
      simp [this]
  · subst hs
    simp at hu
theorem putK_drop {op : Int} {i : Nat} {ts : List Tree} {k : Tree} (h : ts[i]? = some k) :
    Fm.putK op (i : Int) (ts.drop i) = (if (0 : Int) < (i : Int) then [32] ++ Fm.signS op (i : Int) ++ [32] else []) ++ Fm.kidS k (Fm.bareL.take (Fm.bareN op (i : Int))) ++ Fm.putK op ((i + 1 : Nat) : Int) (ts.drop (i + 1)) := by
  obtain ⟨hi, he⟩ := List.getElem?_eq_some_iff.1 h
  rw [List.drop_eq_getElem_cons hi, he]
  simp only [Fm.putK, Fm.kidS]
  rfl
theorem notOk_kid {t k : Tree} {i : Nat} (h : Fm.notOk t = true) (hi : t.kids[i]? = some k) : Fm.notOk k = true := by
  obtain ⟨op, name, kids⟩ := t
  simp only [Fm.notOk, Bool.and_eq_true] at h
  have : ∀ (ts : List Tree) (i : Nat), Fm.notOkL ts = true → ts[i]? = some k → Fm.notOk k = true := by
    intro ts
    induction ts with
    | nil => intro i _ hi; simp at hi
    | cons a r ih =>
      intro i h hi
      simp only [Fm.notOkL, Bool.and_eq_true] at h
      cases i with
      | zero => simp at hi; subst hi; exact h.1
      | succ i => exact ih i h.2 (by simpa using hi)
  exact this kids i h.2 hi
end Go.Proofs.Ytbippghgkbapnaa
