/- Parts of the walk, put together by a program. By an AI agent. -/
import Derived.Test.YtndpdhamadiopaaGreatDoorPaSourceTells6
set_option linter.unusedSimpArgs false
set_option linter.unusedVariables false
namespace Go.X
open Go Go.Eng Go.RowKit Dg Go.Proofs Go.Proofs.YtndpdhamadiopaaGreatDoor
section
variable {P : Program} {w0 w w' : World} {O : List Nat} {N : Nat} {D : List SD} {σ : Asg} {T T' : TrS} {M M' : TrB} {a : Act} {ρ ρ' : Rho}
mutual
def symV (p : Nat → Bool) : SV → Bool
 | .ptr s _ => p s
 | .sl s _ _ _ => p s
 | .slx s _ _ _ => p s
 | .dg _ s => p s
 | .mp s => p s
 | .fn _ us cs => symVs p us && symVs p cs
 | .ifc _ v => symV p v
 | .agg l => symVs p l
 | .tup l => symVs p l
 | .opq s => p s
 | .yl s => p s
 | _ => true
def symVs (p : Nat → Bool) : List SV → Bool
 | [] => true
 | x :: r => symV p x && symVs p r
end
mutual
theorem dv_congr {p : Nat → Bool} (hp : ∀ s, p s = true → ρ s = ρ' s) : ∀ {v : SV}, symV p v = true → dv ρ v = dv ρ' v
 | .int .., _ => rfl
 | .bool _, _ => rfl
 | .str _, _ => rfl
 | .ptr s _, h => by simp only [symV] at h; simp only [dv, bl, hp s h]
 | .nilp, _ => rfl
 | .sl s _ _ _, h => by simp only [symV] at h; simp only [dv, hp s h]
 | .slx s _ _ _, h => by simp only [symV] at h; simp only [dv, bl, hp s h]
 | .nils, _ => rfl
 | .dg _ s, h => by simp only [symV] at h; simp only [dv, ad, hp s h]
 | .mp s, h => by simp only [symV] at h; simp only [dv, bl, hp s h]
 | .nilm, _ => rfl
 | .fn _ us cs, h => by
  simp only [symV, Bool.and_eq_true] at h
  simp only [dv, dvs_congr hp h.1, dvs_congr hp h.2]
 | .nilf, _ => rfl
 | .ifc _ v, h => by simp only [symV] at h; simp only [dv, dv_congr hp h]
 | .nili, _ => rfl
 | .agg l, h => by simp only [symV] at h; simp only [dv, dvs_congr hp h]
 | .tup l, h => by simp only [symV] at h; simp only [dv, dvs_congr hp h]
 | .opq s, h => by simp only [symV] at h; simp only [dv, hp s h]
 | .yl s, h => by simp only [symV] at h; simp only [dv, bl, hp s h]
theorem dvs_congr {p : Nat → Bool} (hp : ∀ s, p s = true → ρ s = ρ' s) : ∀ {l : List SV}, symVs p l = true → dvs ρ l = dvs ρ' l
 | [], _ => rfl
 | x :: r, h => by
  simp only [symVs, Bool.and_eq_true] at h
  simp only [dvs, dv_congr hp h.1, dvs_congr hp h.2]
end
noncomputable def symKV (p : Nat → Bool) (l : List (List Nat × SV)) : Bool := List.rec true (fun x _ ih => symV p x.2 && ih) l
noncomputable def symO (p : Nat → Bool) (l : List (Option SV)) : Bool := List.rec true (fun x _ ih => (match x with | some v => symV p v | none => true) && ih) l
noncomputable def symB (p : Nat → Bool) : Blk → Bool
 | .cells cs _ => symVs p cs
 | .row xs _ _ _ => symVs p xs
 | .dgr _ => true
 | .kv _ l => symKV p l
 | .ro cs => symVs p cs
 | .dead => true
 | .dfd => true
 | .sit _ _ => true
 | .rd xs => symVs p xs
 | .hol cs _ => symO p cs
 | _ => false
theorem symVs_at {p : Nat → Bool} : ∀ {l : List SV}, symVs p l = true → ∀ {j : Nat} {x : SV}, l[j]? = some x → symV p x = true
 | [], _, j, x, hx => by simp at hx
 | y :: r, h, 0, x, hx => by
  simp only [symVs, Bool.and_eq_true] at h
  simp only [List.getElem?_cons_zero, Option.some.injEq] at hx
  subst hx; exact h.1
 | y :: r, h, j + 1, x, hx => by
  simp only [symVs, Bool.and_eq_true] at h
  simp only [List.getElem?_cons_succ] at hx
  exact symVs_at h.2 hx
theorem symO_at {p : Nat → Bool} : ∀ {l : List (Option SV)}, symO p l = true → ∀ {j : Nat} {x : SV}, l[j]? = some (some x) → symV p x = true
 | [], _, j, x, hx => by simp at hx
 | y :: r, h, 0, x, hx => by
  have h' : ((match (generalizing := false) y with | some v => symV p v | none => true) && symO p r) = true := h
  rw [Bool.and_eq_true] at h'
  simp only [List.getElem?_cons_zero, Option.some.injEq] at hx
  subst hx; exact h'.1
 | y :: r, h, j + 1, x, hx => by
  have h' : ((match (generalizing := false) y with | some v => symV p v | none => true) && symO p r) = true := h
  rw [Bool.and_eq_true] at h'
  simp only [List.getElem?_cons_succ] at hx
  exact symO_at h'.2 hx
theorem kvf_congr {p : Nat → Bool} (hp : ∀ s, p s = true → ρ s = ρ' s) {k : KK} : ∀ {l : List (List Nat × SV)}, symKV p l = true → kvf ρ k l = kvf ρ' k l
 | [], _ => rfl
 | x :: r, h => by
  have h' : (symV p x.2 && symKV p r) = true := h
  rw [Bool.and_eq_true] at h'
  have ih := kvf_congr hp (k := k) h'.2
  funext q
  have ihq : kvf ρ k r q = kvf ρ' k r q := congrFun ih q
  unfold kvf at ihq ⊢
  rw [List.find?_cons]
  split
  ·simp only [Option.map_some, dv_congr hp h'.1]
  ·exact ihq
theorem chunk_ext {c d : Chunk} (h1 : c.fp = d.fp) (h2 : c.ok = d.ok) : c = d := by
 obtain ⟨f, o, l⟩ := c
 obtain ⟨f', o', l'⟩ := d
 cases h1
 cases h2
 rfl
theorem bch_congr {p : Nat → Bool} (hp : ∀ s, p s = true → ρ s = ρ' s) {s : Nat} (hs : ρ s = ρ' s) {b : Blk} (hb : symB p b = true) : bch ρ s b = bch ρ' s b := by
 have e1 : bl ρ s = bl ρ' s := by unfold bl; rw [hs]
 have e2 : ad ρ s = ad ρ' s := by unfold ad; rw [hs]
 cases b with
 | cells cs e => simp only [symB] at hb; simp only [bch, e1, dvs_congr hp hb]
 | row xs n e z => simp only [symB] at hb; simp only [bch, e2, hs, dvs_congr hp hb]
 | dgr t => simp only [bch, e2, hs]
 | kv k l => simp only [symB] at hb; simp only [bch, e1, kvf_congr hp hb]
 | ro cs =>
  simp only [symB] at hb
  have hx : ∀ (j : Nat) (x : SV), cs[j]? = some x → dv ρ x = dv ρ' x := fun j x hx => dv_congr hp (symVs_at hb hx)
  have : (fun w : World => w.heap[bl ρ s]? = (ρ s).o ∧ ∀ (j : Nat) (x : SV), cs[j]? = some x → w.cell? ⟨bl ρ s, j, none⟩ = some (dv ρ x)) = fun w : World => w.heap[bl ρ' s]? = (ρ' s).o ∧ ∀ (j : Nat) (x : SV), cs[j]? = some x → w.cell? ⟨bl ρ' s, j, none⟩ = some (dv ρ' x) := by
   funext w
   rw [e1, hs]
   refine propext ⟨fun h => ⟨h.1, fun j x h2 => by rw [← hx j x h2]; exact h.2 j x h2⟩, fun h => ⟨h.1, fun j x h2 => by rw [hx j x h2]; exact h.2 j x h2⟩⟩
  exact chunk_ext (show (fun k => k = bl ρ s) = fun k => k = bl ρ' s by rw [e1]) this
 | dead => rfl
 | lp => cases hb
 | dfd => simp only [bch, e1]
 | itr => cases hb
 | sit => simp only [bch, e1]
 | rd xs =>
  simp only [symB] at hb
  have hx : ∀ (j : Nat) (x : SV), xs[j]? = some x → dv ρ x = dv ρ' x := fun j x hx => dv_congr hp (symVs_at hb hx)
  have : (fun w : World => (ρ s).b = some (bl ρ s) ∧ ∀ (j : Nat) (x : SV), xs[j]? = some x → w.cell? ⟨bl ρ s, j, none⟩ = some (dv ρ x)) = fun w : World => (ρ' s).b = some (bl ρ' s) ∧ ∀ (j : Nat) (x : SV), xs[j]? = some x → w.cell? ⟨bl ρ' s, j, none⟩ = some (dv ρ' x) := by
   funext w
   rw [e1, hs]
   refine propext ⟨fun h => ⟨h.1, fun j x h2 => by rw [← hx j x h2]; exact h.2 j x h2⟩, fun h => ⟨h.1, fun j x h2 => by rw [hx j x h2]; exact h.2 j x h2⟩⟩
  exact chunk_ext (show (fun k => k = bl ρ s) = fun k => k = bl ρ' s by rw [e1]) this
 | hol cs e =>
  simp only [symB] at hb
  have hx : ∀ (j : Nat) (x : SV), cs[j]? = some (some x) → dv ρ x = dv ρ' x := fun j x hx => dv_congr hp (symO_at hb hx)
  have : (fun w : World => ∃ vs : List Value, w.heap[bl ρ s]? = some (.cells vs.toArray e (0, 0)) ∧ vs.length = cs.length ∧ ∀ (j : Nat) (x : SV), cs[j]? = some (some x) → vs[j]? = some (dv ρ x)) = fun w : World => ∃ vs : List Value, w.heap[bl ρ' s]? = some (.cells vs.toArray e (0, 0)) ∧ vs.length = cs.length ∧ ∀ (j : Nat) (x : SV), cs[j]? = some (some x) → vs[j]? = some (dv ρ' x) := by
   funext w
   rw [e1]
   refine propext ⟨fun ⟨vs, h1, h2, h3⟩ => ⟨vs, h1, h2, fun j x h4 => by rw [← hx j x h4]; exact h3 j x h4⟩, fun ⟨vs, h1, h2, h3⟩ => ⟨vs, h1, h2, fun j x h4 => by rw [hx j x h4]; exact h3 j x h4⟩⟩
  exact chunk_ext (show (fun k => k = bl ρ s) = fun k => k = bl ρ' s by rw [e1]) this
noncomputable def putAll (M : TrB) (l : List (Nat × Blk)) : TrB := List.rec M (fun p _ ih => ih.set p.2 p.1) l
noncomputable def lkB (l : List (Nat × Blk)) (s : Nat) : Option Blk := List.rec none (fun p _ ih => Bool.rec (motive := fun _ => Option Blk) ih (some p.2) (Nat.beq p.1 s)) l
noncomputable def smallB (l : List (Nat × Blk)) : Bool := List.rec true (fun p _ ih => Nat.blt p.1 1000000000 && ih) l
theorem lkB_cons (p : Nat × Blk) (l : List (Nat × Blk)) (s : Nat) : lkB (p :: l) s = if s = p.1 then some p.2 else lkB l s := by
 show Bool.rec (motive := fun _ => Option Blk) (lkB l s) (some p.2) (Nat.beq p.1 s) = _
 by_cases h : s = p.1
 ·subst h; rw [Nat.beq_refl, if_pos rfl]
 ·have : Nat.beq p.1 s = false := by
   cases hb : Nat.beq p.1 s with
   | true => exact absurd (nb hb).symm h
   | false => rfl
  rw [this, if_neg h]
theorem putAll_get (M : TrB) : ∀ {l : List (Nat × Blk)}, smallB l = true → ∀ s, (putAll M l).get s = match lkB l s with | some b => some b | none => M.get s
 | [], _, s => rfl
 | p :: l, h, s => by
  have h' : (Nat.blt p.1 1000000000 && smallB l) = true := h
  rw [Bool.and_eq_true] at h'
  have hlt : p.1 < 2 ^ 40 := Nat.lt_trans (Nat.le_of_ble_eq_true h'.1) (show (1000000000 : Nat) < 2 ^ 40 by decide)
  show ((putAll M l).set p.2 p.1).get s = _
  rw [TrB.get_set _ _ _ _ hlt, lkB_cons, putAll_get M h'.2 s]
  by_cases hs : s = p.1
  ·rw [if_pos hs, if_pos hs]
  ·rw [if_neg hs, if_neg hs]
theorem lkB_mem : ∀ {l : List (Nat × Blk)} {s : Nat} {b : Blk}, lkB l s = some b → (s, b) ∈ l
 | [], s, b, h => by cases h
 | p :: l, s, b, h => by
  rw [lkB_cons] at h
  split at h
  ·rename_i hs
   cases h
   rw [hs]
   exact List.mem_cons_self ..
  ·exact List.mem_cons_of_mem _ (lkB_mem h)
theorem lkB_some {l : List (Nat × Blk)} {s : Nat} (h : (lkB l s).isSome = true) : ∃ b, lkB l s = some b := Option.isSome_iff_exists.1 h
noncomputable def allB (p : Nat → Blk → Bool) (l : List (Nat × Blk)) : Bool := List.rec true (fun q _ ih => p q.1 q.2 && ih) l
theorem allB_at {p : Nat → Blk → Bool} : ∀ {l : List (Nat × Blk)}, allB p l = true → ∀ {s : Nat} {b : Blk}, (s, b) ∈ l → p s b = true
 | [], _, s, b, hm => by cases hm
 | q :: l, h, s, b, hm => by
  have h' : (p q.1 q.2 && allB p l) = true := h
  rw [Bool.and_eq_true] at h'
  rcases List.mem_cons.1 hm with rfl | hm
  ·exact h'.1
  ·exact allB_at h'.2 hm
noncomputable def hasB (M : TrB) (s : Nat) (b : Blk) : Bool := match M.get s with
 | none => false
 | some c => (match b with | .dead => true | _ => eqBlk b c)
theorem hasB_ok {s : Nat} {b : Blk} (h : hasB M s b = true) : ∃ c, M.get s = some c ∧ (b = .dead ∨ b = c) := by
 unfold hasB at h
 split at h
 ·cases h
 ·rename_i c hc
  refine ⟨c, hc, ?_⟩
  split at h
  ·exact .inl rfl
  ·exact .inr (eqBlk_ok h)
structure Kept where
 f : FuncId
 vs : List SV
 n : Nat
 pre : List (Nat × Blk)
 out : List (Bool × SV × List (Nat × Blk) × Nat)
abbrev KOut := Bool × SV × List (Nat × Blk) × Nat
noncomputable def outB (pre : List (Nat × Blk)) (x : CR) (y : KOut) : Bool :=
 (bif x.1 then y.1 else !y.1) && eqSV x.2.1 y.2.1 && Nat.beq x.2.2.2 y.2.2.2 && smallB y.2.2.1 && allB (fun s b => hasB x.2.2.1 s b) y.2.2.1
  && symV (fun s => (lkB y.2.2.1 s).isSome) y.2.1 && allB (fun _ b => symB (fun s => (lkB y.2.2.1 s).isSome) b) y.2.2.1 && allB (fun s _ => (lkB y.2.2.1 s).isSome) pre
noncomputable def outsB (pre : List (Nat × Blk)) (L : List CR) : List KOut → Bool := List.rec (fun l => match l with | [] => true | _ :: _ => false) (fun x _ ih l => match l with
 | [] => false
 | y :: l => outB pre x y && ih l) L
theorem outsB_mem {pre : List (Nat × Blk)} : ∀ {L : List CR} {l : List KOut}, outsB pre L l = true → ∀ x ∈ L, ∃ y ∈ l, outB pre x y = true
 | [], _, _, x, hx => by cases hx
 | z :: L, [], h, x, hx => by cases h
 | z :: L, y :: l, h, x, hx => by
  have h' : (outB pre z y && outsB pre L l) = true := h
  rw [Bool.and_eq_true] at h'
  rcases List.mem_cons.1 hx with rfl | hx
  ·exact ⟨y, List.mem_cons_self .., h'.1⟩
  ·obtain ⟨y, hy, h2⟩ := outsB_mem h'.2 x hx
   exact ⟨y, List.mem_cons_of_mem _ hy, h2⟩
noncomputable def keptB (cf : Cf9) (e : Kept) : Bool :=
 smallB e.pre && symVs (fun s => (lkB e.pre s).isSome) e.vs && allB (fun _ b => symB (fun s => (lkB e.pre s).isSome) b) e.pre &&
  (match cf e.f e.vs (putAll .lf e.pre) e.n with | some L => outsB e.pre L e.out | none => false)
noncomputable def freshB (M : TrB) (pre : List (Nat × Blk)) (s : Nat) : Bool := (lkB pre s).isSome || (match M.get s with | none => true | some _ => false)
theorem atB {s : Nat} {b : Blk} (h : M.get s = some b) : (fun s => (M.get s).map (bch ρ s)) s = some (bch ρ s b) := by
 show (M.get s).map (bch ρ s) = _
 rw [h]
 rfl
noncomputable def liveK (pre : List (Nat × Blk)) (s : Nat) : Bool := match lkB pre s with
 | some .dead => false
 | _ => true
noncomputable def postL (pre post : List (Nat × Blk)) : List (Nat × Blk) := post.filter fun p => liveK pre p.1
theorem postL_lk {pre : List (Nat × Blk)} : ∀ {post : List (Nat × Blk)} (s : Nat), lkB (postL pre post) s = if liveK pre s = true then lkB post s else none
 | [], s => by
  show none = _
  split <;> rfl
 | p :: l, s => by
  have ih := postL_lk (pre := pre) (post := l) s
  unfold postL at ih ⊢
  rw [List.filter_cons]
  by_cases hp : liveK pre p.1 = true
  ·rw [if_pos hp, lkB_cons, lkB_cons, ih]
   by_cases hs : s = p.1
   ·subst hs; rw [if_pos rfl, if_pos rfl, if_pos hp]
   ·rw [if_neg hs, if_neg hs]
  ·rw [if_neg hp, ih, lkB_cons]
   by_cases hs : s = p.1
   ·subst hs; rw [if_neg hp, if_neg hp]
   ·rw [if_neg hs]
theorem postL_small {pre : List (Nat × Blk)} : ∀ {post : List (Nat × Blk)}, smallB post = true → smallB (postL pre post) = true
 | [], _ => rfl
 | p :: l, h => by
  have h' : (Nat.blt p.1 1000000000 && smallB l) = true := h
  rw [Bool.and_eq_true] at h'
  have ih := postL_small (pre := pre) h'.2
  unfold postL at ih ⊢
  rw [List.filter_cons]
  split
  ·show (Nat.blt p.1 1000000000 && smallB (l.filter fun p => liveK pre p.1)) = true
   rw [h'.1, ih]; rfl
  ·exact ih
theorem liveK_dead {pre : List (Nat × Blk)} {s : Nat} (h : ¬ liveK pre s = true) : lkB pre s = some .dead := by
 unfold liveK at h
 split at h
 ·assumption
 ·exact absurd rfl h
noncomputable def keptX (e : Kept) : Cf9 := fun f vs M n => must (Nat.beq f e.f && Nat.beq n e.n && eqSVs vs e.vs && allB (fun s b => hasB M s b) e.pre && e.out.all fun y => allB (fun s _ => freshB M e.pre s) y.2.2.1)
 (some (e.out.map fun y => (y.1, y.2.1, putAll M (postL e.pre y.2.2.1), y.2.2.2)))
theorem all_out : ∀ {l : List KOut} {p : KOut → Bool}, l.all p = true → ∀ y ∈ l, p y = true := fun h y hy => List.all_eq_true.1 h y hy
theorem keptX_ok {cf : Cf9} (hcf : CallOk P cf) {e : Kept} (hk : keptB cf e = true) : CallOk P (keptX e) := by
 intro f vs M n L h
 obtain ⟨hb, h2⟩ := must_some h
 clear h
 cases h2
 simp only [Bool.and_eq_true] at hb
 obtain ⟨⟨⟨⟨hf, hn⟩, hvs⟩, hpre⟩, hfr⟩ := hb
 have hf := nb hf
 have hn := nb hn
 have hvs := eqSVs_ok hvs
 subst hf hn hvs
 unfold keptB at hk
 simp only [Bool.and_eq_true] at hk
 obtain ⟨⟨⟨hsm, hsv⟩, hsb⟩, hc⟩ := hk
 split at hc
 case h_2 => cases hc
 rename_i L1 hL1
 obtain ⟨K, hK⟩ : ∃ K, putAll .lf e.pre = K := ⟨_, rfl⟩
 rw [hK] at hL1
 obtain ⟨hfb, hcall⟩ := hcf hL1
 refine ⟨hfb, fun {w0 w O σ us} hM hG hus => ?_⟩
 -- the part of memory that is named
 have hKg : ∀ s, K.get s = lkB e.pre s := fun s => by
  rw [← hK, putAll_get _ hsm, TrB.get_lf]
  cases lkB e.pre s <;> rfl
 have hKM : ∀ s b, K.get s = some b → ∃ c, M.get s = some c ∧ (b = .dead ∨ b = c) := fun s b hs => hasB_ok (allB_at hpre (lkB_mem (by rw [← hKg]; exact hs)))
 have hKs : ∀ s b, K.get s = some b → symB (fun t => (lkB e.pre t).isSome) b = true := fun s b hs => allB_at hsb (lkB_mem (by rw [← hKg]; exact hs))
 let σ1 : Asg := fun s => if K.get s = none then none else σ s
 have hσ1 : ∀ s b, K.get s = some b → σ1 s = σ s := fun s b hs => by
  show (if K.get s = none then none else σ s) = _
  rw [hs, if_neg (by simp)]
 have hσs : ∀ s b, K.get s = some b → ∃ p, σ s = some p := fun s b hs => by
  obtain ⟨c, h1, _⟩ := hKM s b hs
  cases hp : σ s with
  | none => rw [(hM.dom s).2 hp] at h1; cases h1
  | some p => exact ⟨p, rfl⟩
 -- readings that agree on the part
 have agree : ∀ {ρ : Rho}, Ext σ1 ρ → ∀ s, (lkB e.pre s).isSome = true → ρ s = σ.rho s := fun {ρ} hE s hs => by
  obtain ⟨b, hb⟩ := lkB_some hs
  rw [← hKg] at hb
  obtain ⟨p, hp⟩ := hσs s b hb
  rw [hE s p (by rw [hσ1 s b hb]; exact hp), σ.rho_ext s p hp]
 have memEq : ∀ {ρ : Rho}, Ext σ1 ρ → memC ρ K = memC σ.rho K := fun {ρ} hE => by
  unfold memC
  congr 1
  funext s
  cases hs : K.get s with
  | none => rfl
  | some b =>
   simp only [Option.map_some]
   rw [bch_congr (agree hE) (agree hE s (by rw [← hKg, hs]; rfl)) (hKs s b hs)]
 have hS := hM.st σ.rho σ.rho_ext
 have hSK : St w0 O [memC σ.rho K] w := by
  refine fam_less (fun s x' hs => ?_) hS
  cases hb : K.get s with
  | none => rw [hb] at hs; cases hs
  | some b =>
   rw [hb] at hs
   simp only [Option.map_some, Option.some.injEq] at hs
   subst hs
   obtain ⟨c, h1, h2⟩ := hKM s b hb
   rcases h2 with rfl | rfl
   ·exact .inl ⟨trivial, fun k hk => by cases hk⟩
   ·exact .inr ⟨bch σ.rho s b, by simp [h1], fun h => h, fun k h => h⟩
 have hmem := List.mem_singleton_self (memC σ.rho K)
 classical
 let O1 : List Nat := (List.range w.heap.size).filter fun k => decide ((memC σ.rho K).fp k)
 have hO1 : ∀ k, k ∈ O1 ↔ k < w.heap.size ∧ (memC σ.rho K).fp k := fun k => by
  show k ∈ (List.range w.heap.size).filter _ ↔ _
  rw [List.mem_filter, List.mem_range, decide_eq_true_eq]
 have hMK : MemS w O1 σ1 K w := by
  refine ⟨fun ρ hE => ?_, fun s => ?_⟩
  ·rw [memEq hE]
   refine ⟨rfl, rfl, rfl, Nat.le_refl _, fun _ _ _ => rfl, fun c hc => ?_, fun c hc k hk => ?_, List.pairwise_singleton _ _⟩
   ·rw [List.mem_singleton.1 hc]; exact hSK.ok _ hmem
   ·rw [List.mem_singleton.1 hc] at hk
    have := (hSK.bnd _ hmem k hk).1
    exact ⟨this, fun _ => (hO1 k).2 ⟨this, hk⟩⟩
  ·cases hs : K.get s with
   | none =>
    have : σ1 s = none := by show (if K.get s = none then none else σ s) = _; rw [if_pos hs]
    simp [this]
   | some b =>
    obtain ⟨p, hp⟩ := hσs s b hs
    rw [hσ1 s b hs, hp]; simp
 have hGK : MemG σ1 K := ⟨fun s cs hs => by
  obtain ⟨c, h1, h2⟩ := hKM s _ hs
  rcases h2 with h2 | h2
  ·cases h2
  ·subst h2
   obtain ⟨p, g1, g2⟩ := hG.glo s cs h1
   exact ⟨p, by rw [hσ1 s _ hs]; exact g1, g2⟩⟩
 have husK : ∀ ρ, Ext σ1 ρ → dvs ρ e.vs = us := fun ρ hE => by
  rw [dvs_congr (agree hE) hsv]; exact hus _ σ.rho_ext
 refine (hcall hMK hGK husK).mono ?_
 rintro en w' ⟨x, hx, u, he, τ, hle, hu, hM', hG'⟩
 obtain ⟨y, hy, hxy⟩ := outsB_mem hc x hx
 obtain ⟨pb, v, M', n'⟩ := x
 obtain ⟨qb, v2, post, n2⟩ := y
 have hfr1 := all_out hfr _ hy
 unfold outB at hxy
 simp only [Bool.and_eq_true] at hxy
 obtain ⟨⟨⟨⟨⟨⟨⟨c1, c2⟩, c3⟩, c4⟩, c5⟩, c6⟩, c7⟩, c8⟩ := hxy
 have hpq : pb = qb := by cases pb <;> cases qb <;> first | rfl | cases c1
 have hv := eqSV_ok c2
 have hn2 := nb c3
 subst hpq hv hn2
 refine ⟨(pb, v, putAll M (postL e.pre post), n'), List.mem_map.2 ⟨(pb, v, post, n'), hy, rfl⟩, u, he, ?_⟩
 -- the new reading
 have hpost : ∀ s b, lkB post s = some b → ∃ c, M'.get s = some c ∧ (b = .dead ∨ b = c) := fun s b hs => hasB_ok (allB_at c5 (lkB_mem hs))
 have hps : ∀ s b, lkB post s = some b → symB (fun t => (lkB post t).isSome) b = true := fun s b hs => allB_at c7 (lkB_mem hs)
 have hpre2 : ∀ s b, K.get s = some b → ∃ b', lkB post s = some b' := fun s b hs => lkB_some (allB_at c8 (lkB_mem (by rw [← hKg]; exact hs)))
 have hfre : ∀ s b, lkB post s = some b → K.get s = none → M.get s = none := fun s b hs hk => by
  have := allB_at hfr1 (lkB_mem hs)
  unfold freshB at this
  rw [Bool.or_eq_true] at this
  rcases this with h1 | h1
  ·rw [← hKg, hk] at h1; cases h1
  ·cases hm : M.get s with
   | none => rfl
   | some c => rw [hm] at h1; cases h1
 have hgetR : ∀ s, (putAll M (postL e.pre post)).get s = if liveK e.pre s = true then (match lkB post s with | some b => some b | none => M.get s) else M.get s := fun s => by
  rw [putAll_get _ (postL_small c4), postL_lk]
  by_cases hq : liveK e.pre s = true
  ·rw [if_pos hq, if_pos hq]
  ·rw [if_neg hq, if_neg hq]
 let τ2 : Asg := fun s => match lkB post s with | some _ => τ s | none => σ s
 have t2p : ∀ s b, lkB post s = some b → τ2 s = τ s := fun s b hs => by show (match lkB post s with | some _ => τ s | none => σ s) = _; rw [hs]
 have t2n : ∀ s, lkB post s = none → τ2 s = σ s := fun s hs => by show (match lkB post s with | some _ => τ s | none => σ s) = _; rw [hs]
 have hle2 : σ.le τ2 := fun s p hp => by
  cases hs : lkB post s with
  | none => rw [t2n s hs]; exact hp
  | some b =>
   rw [t2p s b hs]
   cases hk : K.get s with
   | none => rw [(hM.dom s).1 (hfre s b hs hk)] at hp; cases hp
   | some c => exact hle s p (by rw [hσ1 s c hk]; exact hp)
 have ts : ∀ s b, lkB post s = some b → ∃ p, τ s = some p := fun s b hs => by
  obtain ⟨c, h1, _⟩ := hpost s b hs
  cases hp : τ s with
  | none => rw [(hM'.dom s).2 hp] at h1; cases h1
  | some p => exact ⟨p, rfl⟩
 have agree2 : ∀ {ρ : Rho}, Ext τ2 ρ → ∀ s, (lkB post s).isSome = true → ρ s = τ.rho s := fun {ρ} hE s hs => by
  obtain ⟨b, hb⟩ := lkB_some hs
  obtain ⟨p, hp⟩ := ts s b hb
  rw [hE s p (by rw [t2p s b hb]; exact hp), τ.rho_ext s p hp]
 refine ⟨τ2, hle2, fun ρ hE => ?_, ⟨fun ρ hE => ?_, fun s => ?_⟩, ⟨fun s cs hs => ?_⟩⟩
 ·rw [hu τ.rho τ.rho_ext]
  exact (dv_congr (agree2 hE) c6).symm
 ·have hEσ : Ext σ ρ := hE.le hle2
  have hS0 := hM.st ρ hEσ
  have hS1 : St w O1 [memC τ.rho M'] w' := hM'.st τ.rho τ.rho_ext
  have m0 := List.mem_singleton_self (memC ρ M)
  have m1 := List.mem_singleton_self (memC τ.rho M')
  have f0 := hS0.ok _ m0
  have f1 := hS1.ok _ m1
  -- the part's blocks are blocks of the whole, as ρ reads it
  have hEσ1 : Ext σ1 ρ := fun s p hp => by
   cases hk : K.get s with
   | none =>
    have : σ1 s = none := by show (if K.get s = none then none else σ s) = _; rw [if_pos hk]
    rw [this] at hp; cases hp
   | some c => exact hEσ s p (by rw [← hσ1 s c hk]; exact hp)
  have hO2 : ∀ k, k ∈ O1 → ∃ s b, K.get s = some b ∧ M.get s = some b ∧ (bch ρ s b).fp k := fun k hk => by
   have h1 := ((hO1 k).1 hk).2
   rw [← memEq hEσ1] at h1
   obtain ⟨s, x, hs, hx⟩ := h1
   replace hs : (K.get s).map (bch ρ s) = some x := hs
   cases hb : K.get s with
   | none => rw [hb] at hs; cases hs
   | some b =>
    rw [hb] at hs
    simp only [Option.map_some, Option.some.injEq] at hs
    subst hs
    obtain ⟨c, g1, g2⟩ := hKM s b hb
    rcases g2 with rfl | rfl
    ·cases hx
    ·exact ⟨s, b, hb, g1, hx⟩
  have bnd0 : ∀ {s : Nat} {b : Blk} {k : Nat}, M.get s = some b → (bch ρ s b).fp k → k < w.heap.size ∧ (k < w0.heap.size → k ∈ O) := fun {s b k} hs hk => hS0.bnd _ m0 k ⟨s, _, atB hs, hk⟩
  have dis0 : ∀ {s t : Nat} {b c : Blk}, M.get s = some b → M.get t = some c → s ≠ t → ∀ k, (bch ρ s b).fp k → ¬ (bch ρ t c).fp k := fun {s t b c} hs ht hne k => f0.2 s t _ _ (atB hs) (atB ht) hne k
  -- blocks behind the call
  have kinds : ∀ {s : Nat} {x : Chunk}, ((putAll M (postL e.pre post)).get s).map (bch ρ s) = some x → (∃ b, lkB post s = some b ∧ x = bch ρ s b) ∨ ((K.get s = none ∨ K.get s = some .dead) ∧ ∃ b, M.get s = some b ∧ x = bch ρ s b) := fun {s x} hs => by
   rw [hgetR] at hs
   by_cases hq : liveK e.pre s = true
   ·rw [if_pos hq] at hs
    cases hp : lkB post s with
    | some b =>
     rw [hp] at hs
     simp only [Option.map_some, Option.some.injEq] at hs
     exact .inl ⟨b, rfl, hs.symm⟩
    | none =>
     rw [hp] at hs
     refine .inr ⟨.inl ?_, ?_⟩
     ·cases hk : K.get s with
      | none => rfl
      | some c => obtain ⟨b', hb'⟩ := hpre2 s c hk; rw [hp] at hb'; cases hb'
     ·cases hm : M.get s with
      | none => dsimp only at hs; rw [hm] at hs; cases hs
      | some b =>
       dsimp only at hs
       rw [hm] at hs
       simp only [Option.map_some, Option.some.injEq] at hs
       exact ⟨b, rfl, hs.symm⟩
   ·rw [if_neg hq] at hs
    refine .inr ⟨.inr (by rw [hKg]; exact liveK_dead hq), ?_⟩
    cases hm : M.get s with
    | none => rw [hm] at hs; cases hs
    | some b =>
     rw [hm] at hs
     simp only [Option.map_some, Option.some.injEq] at hs
     exact ⟨b, rfl, hs.symm⟩
  have pc : ∀ {s : Nat} {b : Blk}, lkB post s = some b → bch ρ s b = bch τ.rho s b := fun {s b} hs => bch_congr (agree2 hE) (agree2 hE s (by rw [hs]; rfl)) (hps s b hs)
  have pfp : ∀ {s : Nat} {b : Blk} {k : Nat}, lkB post s = some b → (bch ρ s b).fp k → M'.get s = some b ∧ (bch τ.rho s b).fp k ∧ (memC τ.rho M').fp k := fun {s b k} hs hk => by
   rw [pc hs] at hk
   obtain ⟨c, g1, g2⟩ := hpost s b hs
   rcases g2 with rfl | rfl
   ·cases hk
   ·exact ⟨g1, hk, ⟨s, _, atB g1, hk⟩⟩
  have fr : ∀ {s : Nat} {b : Blk} {k : Nat}, (K.get s = none ∨ K.get s = some .dead) → M.get s = some b → (bch ρ s b).fp k → k ∉ O1 := fun {s b k} hk hm hfp hin => by
   obtain ⟨t, c, q1, q2, q3⟩ := hO2 k hin
   refine dis0 hm q2 (fun e => ?_) k hfp q3
   subst e
   rcases hk with hk | hk
   ·rw [hk] at q1; cases q1
   ·rw [hk] at q1; cases q1; cases q3
  refine ⟨hS1.os.trans hS0.os, hS1.tape.trans hS0.tape, hS1.output.trans hS0.output, Nat.le_trans hS0.size hS1.size, fun k hk ho => ?_, fun c hc => ?_, fun c hc k hk => ?_, List.pairwise_singleton _ _⟩
  ·rw [hS1.old k (Nat.lt_of_lt_of_le hk hS0.size) (fun hin => ?_)]
   ·exact hS0.old k hk ho
   ·obtain ⟨t, c, q1, q2, q3⟩ := hO2 k hin
    exact ho ((bnd0 q2 q3).2 hk)
  ·rw [List.mem_singleton.1 hc]
   refine ⟨fun s x hs => ?_, fun s t x z hs ht hne k hk hk2 => ?_⟩
   ·rcases kinds hs with ⟨b, hb, rfl⟩ | ⟨hk, b, hb, rfl⟩
    ·rw [pc hb]
     obtain ⟨c, g1, g2⟩ := hpost s b hb
     rcases g2 with rfl | rfl
     ·trivial
     ·exact f1.1 s _ (atB g1)
    ·refine (bch ρ s b).loc w w' (fun k hfp => hS1.old k (bnd0 hb hfp).1 (fr hk hb hfp)) (f0.1 s _ (atB hb))
   ·rcases kinds hs with ⟨b, hb, rfl⟩ | ⟨hks, b, hb, rfl⟩
    ·obtain ⟨a1, a2, a3⟩ := pfp hb hk
     rcases kinds ht with ⟨c, hc2, rfl⟩ | ⟨hkt, c, hc2, rfl⟩
     ·obtain ⟨d1, d2, d3⟩ := pfp hc2 hk2
      exact f1.2 s t _ _ (atB a1) (atB d1) hne k a2 d2
     ·exact fr hkt hc2 hk2 ((hS1.bnd _ m1 k a3).2 (bnd0 hc2 hk2).1)
    ·rcases kinds ht with ⟨c, hc2, rfl⟩ | ⟨hkt, c, hc2, rfl⟩
     ·obtain ⟨d1, d2, d3⟩ := pfp hc2 hk2
      exact fr hks hb hk ((hS1.bnd _ m1 k d3).2 (bnd0 hb hk).1)
     ·exact dis0 hb hc2 hne k hk hk2
  ·rw [List.mem_singleton.1 hc] at hk
   obtain ⟨s, x, hs, hx⟩ := hk
   rcases kinds hs with ⟨b, hb, rfl⟩ | ⟨hks, b, hb, rfl⟩
   ·obtain ⟨a1, a2, a3⟩ := pfp hb hx
    have q := hS1.bnd _ m1 k a3
    refine ⟨q.1, fun hk0 => ?_⟩
    obtain ⟨t, c, q1, q2, q3⟩ := hO2 k (q.2 (Nat.lt_of_lt_of_le hk0 hS0.size))
    exact (bnd0 q2 q3).2 hk0
   ·have q := bnd0 hb hx
    exact ⟨Nat.lt_of_lt_of_le q.1 hS1.size, q.2⟩
 ·rw [hgetR]
  by_cases hq : liveK e.pre s = true
  ·rw [if_pos hq]
   cases hp : lkB post s with
   | some b =>
    obtain ⟨p, h2⟩ := ts s b hp
    rw [t2p s b hp, h2]; simp
   | none =>
    rw [t2n s hp]
    exact hM.dom s
  ·rw [if_neg hq]
   have hkd : K.get s = some .dead := by rw [hKg]; exact liveK_dead hq
   obtain ⟨b', hb'⟩ := hpre2 s _ hkd
   obtain ⟨p, h2⟩ := ts s b' hb'
   obtain ⟨c', h3, _⟩ := hKM s _ hkd
   rw [t2p s b' hb', h2, h3]; simp
 ·rw [hgetR] at hs
  have old : M.get s = some (.ro cs) → ∃ p, τ2 s = some p ∧ p.b = some s := fun hs => by
   obtain ⟨p, q1, q2⟩ := hG.glo s cs hs
   exact ⟨p, hle2 s p q1, q2⟩
  by_cases hq : liveK e.pre s = true
  ·rw [if_pos hq] at hs
   cases hp : lkB post s with
   | some b =>
    rw [hp] at hs
    dsimp only at hs
    cases hs
    obtain ⟨c, g1, g2⟩ := hpost s _ hp
    rcases g2 with g2 | g2
    ·cases g2
    ·subst g2
     obtain ⟨p, q1, q2⟩ := hG'.glo s cs g1
     exact ⟨p, by rw [t2p s _ hp]; exact q1, q2⟩
   | none =>
    rw [hp] at hs
    exact old hs
  ·rw [if_neg hq] at hs
   exact old hs
noncomputable def orX (c1 c2 : Cf9) : Cf9 := fun f vs M n => match c1 f vs M n with
 | some r => some r
 | none => c2 f vs M n
theorem orX_ok {c1 c2 : Cf9} (h1 : CallOk P c1) (h2 : CallOk P c2) : CallOk P (orX c1 c2) := by
 intro f vs M n L h
 unfold orX at h
 split at h
 ·rename_i r hr
  cases h
  exact h1 hr
 ·exact h2 h
end
end Go.X
namespace Go.X
open Go Go.Eng Go.RowKit Dg Go.Proofs Go.Proofs.YtndpdhamadiopaaGreatDoor
section
variable {P : Program} {w0 w w' : World} {O : List Nat} {N : Nat} {D : List SD} {σ : Asg} {T T' : TrS} {M M' : TrB} {a : Act} {ρ ρ' : Rho} {Q : Exit → Act → World → Prop} {rd : Bool} {F : Fence}
mutual
def renV (f : Nat → Nat) : SV → SV
 | .int k i => .int k i
 | .bool b => .bool b
 | .str l => .str l
 | .ptr s o => .ptr (f s) o
 | .nilp => .nilp
 | .sl s i n z => .sl (f s) i n z
 | .slx s o n c => .slx (f s) o n c
 | .nils => .nils
 | .dg t s => .dg t (f s)
 | .mp s => .mp (f s)
 | .nilm => .nilm
 | .fn g us cs => .fn g (renVs f us) (renVs f cs)
 | .nilf => .nilf
 | .ifc t v => .ifc t (renV f v)
 | .nili => .nili
 | .agg l => .agg (renVs f l)
 | .tup l => .tup (renVs f l)
 | .opq s => .opq (f s)
 | .yl s => .yl (f s)
def renVs (f : Nat → Nat) : List SV → List SV
 | [] => []
 | x :: r => renV f x :: renVs f r
end
mutual
theorem dv_ren (f : Nat → Nat) : ∀ v : SV, dv ρ (renV f v) = dv (fun s => ρ (f s)) v
 | .int .. => rfl
 | .bool _ => rfl
 | .str _ => rfl
 | .ptr .. => rfl
 | .nilp => rfl
 | .sl .. => rfl
 | .slx .. => rfl
 | .nils => rfl
 | .dg .. => rfl
 | .mp _ => rfl
 | .nilm => rfl
 | .fn _ us cs => by simp only [renV, dv, dvs_ren f us, dvs_ren f cs]
 | .nilf => rfl
 | .ifc _ v => by simp only [renV, dv, dv_ren f v]
 | .nili => rfl
 | .agg l => by simp only [renV, dv, dvs_ren f l]
 | .tup l => by simp only [renV, dv, dvs_ren f l]
 | .opq _ => rfl
 | .yl _ => rfl
theorem dvs_ren (f : Nat → Nat) : ∀ l : List SV, dvs ρ (renVs f l) = dvs (fun s => ρ (f s)) l
 | [] => rfl
 | x :: r => by simp only [renVs, dvs, dv_ren f x, dvs_ren f r]
end
noncomputable def renKV (f : Nat → Nat) (l : List (List Nat × SV)) : List (List Nat × SV) := List.rec [] (fun x _ ih => (x.1, renV f x.2) :: ih) l
noncomputable def renO (f : Nat → Nat) (l : List (Option SV)) : List (Option SV) := List.rec [] (fun x _ ih => Option.map (renV f) x :: ih) l
noncomputable def renB (f : Nat → Nat) : Blk → Blk
 | .cells cs e => .cells (renVs f cs) e
 | .row xs n e z => .row (renVs f xs) n e z
 | .dgr t => .dgr t
 | .kv k l => .kv k (renKV f l)
 | .ro cs => .ro (renVs f cs)
 | .dfd => .dfd
 | .sit l p => .sit l p
 | .rd xs => .rd (renVs f xs)
 | .hol cs e => .hol (renO f cs) e
 | _ => .dead
theorem renVs_at (f : Nat → Nat) : ∀ {l : List SV} {j : Nat} {x : SV}, l[j]? = some x → (renVs f l)[j]? = some (renV f x)
 | [], j, x, h => by simp at h
 | y :: r, 0, x, h => by simp at h; subst h; rfl
 | y :: r, j + 1, x, h => by
  have := renVs_at f (l := r) (j := j) (by simpa using h)
  simpa [renVs] using this
theorem renO_at (f : Nat → Nat) : ∀ {l : List (Option SV)} {j : Nat} {x : SV}, l[j]? = some (some x) → (renO f l)[j]? = some (some (renV f x))
 | [], j, x, h => by simp at h
 | y :: r, 0, x, h => by simp at h; subst h; rfl
 | y :: r, j + 1, x, h => by
  have := renO_at f (l := r) (j := j) (by simpa using h)
  have e : renO f (y :: r) = Option.map (renV f) y :: renO f r := rfl
  rw [e]
  simpa using this
theorem renO_len (f : Nat → Nat) : ∀ l : List (Option SV), (renO f l).length = l.length
 | [] => rfl
 | y :: r => by
  have e : renO f (y :: r) = Option.map (renV f) y :: renO f r := rfl
  rw [e, List.length_cons, List.length_cons, renO_len f r]
theorem kvf_ren (f : Nat → Nat) {k : KK} : ∀ l : List (List Nat × SV), kvf ρ k (renKV f l) = kvf (fun s => ρ (f s)) k l
 | [] => rfl
 | x :: r => by
  have e : renKV f (x :: r) = (x.1, renV f x.2) :: renKV f r := rfl
  have ih := kvf_ren f (k := k) r
  funext q
  have ihq := congrFun ih q
  unfold kvf at ihq ⊢
  rw [e, List.find?_cons, List.find?_cons]
  dsimp only
  cases decide (k.key x.1 = q) with
  | true => simp only [Option.map_some, dv_ren]
  | false => exact ihq
theorem bch_ren (f : Nat → Nat) {s : Nat} (b : Blk) : (chO ρ (f s) (some (renB f b))).ok w → (∀ N T ps asg body busy, b ≠ .lp N T ps asg body busy) → (∀ t k l left cur, b ≠ .itr t k l left cur) → (bch (fun s => ρ (f s)) s b).ok w := by
 intro h h1 h2
 have h : (bch ρ (f s) (renB f b)).ok w := h
 cases b with
 | cells cs e => simp only [renB, bch, dvs_ren] at h ⊢; exact h
 | row xs n e z => simp only [renB, bch, dvs_ren] at h ⊢; exact h
 | dgr t => exact h
 | kv k l => simp only [renB, bch, kvf_ren] at h ⊢; exact h
 | ro cs =>
  obtain ⟨g1, g2⟩ := (show w.heap[bl ρ (f s)]? = (ρ (f s)).o ∧ ∀ (j : Nat) (x : SV), (renVs f cs)[j]? = some x → w.cell? ⟨bl ρ (f s), j, none⟩ = some (dv ρ x) from h)
  exact ⟨g1, fun j x hx => by rw [← dv_ren]; exact g2 j _ (renVs_at f hx)⟩
 | dead => trivial
 | lp => exact absurd rfl (h1 _ _ _ _ _ _)
 | dfd => exact h
 | itr => exact absurd rfl (h2 _ _ _ _ _)
 | sit => exact h
 | rd xs =>
  obtain ⟨g1, g2⟩ := (show (ρ (f s)).b = some (bl ρ (f s)) ∧ ∀ (j : Nat) (x : SV), (renVs f xs)[j]? = some x → w.cell? ⟨bl ρ (f s), j, none⟩ = some (dv ρ x) from h)
  exact ⟨g1, fun j x hx => by rw [← dv_ren]; exact g2 j _ (renVs_at f hx)⟩
 | hol cs e =>
  obtain ⟨vs, g1, g2, g3⟩ := (show ∃ vs : List Value, w.heap[bl ρ (f s)]? = some (.cells vs.toArray e (0, 0)) ∧ vs.length = (renO f cs).length ∧ ∀ (j : Nat) (x : SV), (renO f cs)[j]? = some (some x) → vs[j]? = some (dv ρ x) from h)
  exact ⟨vs, g1, by rw [g2, renO_len], fun j x hx => by rw [← dv_ren]; exact g3 j _ (renO_at f hx)⟩
theorem bch_fp (f : Nat → Nat) {s : Nat} (b : Blk) {k : Nat} (h2 : ∀ t k l left cur, b ≠ .itr t k l left cur) (h1 : ∀ N T ps asg body busy, b ≠ .lp N T ps asg body busy) (h : (bch (fun s => ρ (f s)) s b).fp k) : (bch ρ (f s) (renB f b)).fp k := by
 cases b with
 | itr => exact absurd rfl (h2 _ _ _ _ _)
 | lp => exact absurd rfl (h1 _ _ _ _ _ _)
 | row xs n e z => simp only [renB, bch, dvs_ren] at h ⊢; exact h
 | _ => exact h
structure Cand where
 pis : List (List (Nat × Nat))
 n : Nat
 T : List (Nat × SV)
 M : List (Nat × Blk)
noncomputable def rnP (l : List (Nat × Nat)) (s : Nat) : Nat := List.rec s (fun p _ ih => Bool.rec (motive := fun _ => Nat) ih p.2 (Nat.beq p.1 s)) l
noncomputable def putT (l : List (Nat × SV)) : TrS := List.rec TrS.lf (fun p _ ih => ih.set p.2 p.1) l
def deadF : (n : Nat) → Fx (Option Blk) n → Fx (Option Blk) n
 | 0, t => (match t with | none => none | some _ => some Blk.dead : Option Blk)
 | n + 1, t => (fun t : P8 (Fx (Option Blk) n) => (⟨deadF n t.a0, deadF n t.a1, deadF n t.a2, deadF n t.a3, deadF n t.a4, deadF n t.a5, deadF n t.a6, deadF n t.a7⟩ : P8 (Fx (Option Blk) n))) t
theorem leaf_dead : ∀ (n m : Nat) (t : Fx (Option Blk) n) (k : Nat), leafN m n (deadF n t) k = (leafN m n t k).map fun _ => Blk.dead
 | 0, m, t, k => by
  show (match t with | none => none | some _ => some Blk.dead : Option Blk) = _
  have t' : Option Blk := t
  show (match (t : Option Blk) with | none => none | some _ => some Blk.dead : Option Blk) = Option.map (fun _ => Blk.dead) (t : Option Blk)
  cases (t : Option Blk) <;> rfl
 | n + 1, m, t, k => by
  show leafN (m * 8) n (@sel8 (Fx (Option Blk) n) (dg m k) (deadF (n + 1) t)) k = (leafN (m * 8) n (@sel8 (Fx (Option Blk) n) (dg m k) t) k).map fun _ => Blk.dead
  have e : @sel8 (Fx (Option Blk) n) (dg m k) (deadF (n + 1) t) = deadF n (@sel8 (Fx (Option Blk) n) (dg m k) t) := by cases dg m k <;> rfl
  rw [e]; exact leaf_dead n _ _ _
noncomputable def deadT (M : TrB) : TrB := ⟨deadF 3 M.a, deadF 5 M.b, deadQ M.c⟩
theorem deadT_get (M : TrB) (k : Nat) : (deadT M).get k = (M.get k).map fun _ => Blk.dead := by
 rw [TrB.get_eq, TrB.get_eq]
 split
 ·exact leaf_dead ..
 ·split
  ·exact leaf_dead ..
  ·exact deadQ_get ..
noncomputable def smallT (l : List (Nat × SV)) : Bool := List.rec true (fun p _ ih => Nat.blt p.1 1000000000 && ih) l
noncomputable def allT (p : Nat → SV → Bool) (l : List (Nat × SV)) : Bool := List.rec true (fun q _ ih => p q.1 q.2 && ih) l
theorem allT_at {p : Nat → SV → Bool} : ∀ {l : List (Nat × SV)}, allT p l = true → ∀ {s : Nat} {b : SV}, (s, b) ∈ l → p s b = true
 | [], _, s, b, hm => by cases hm
 | q :: l, h, s, b, hm => by
  have h' : (p q.1 q.2 && allT p l) = true := h
  rw [Bool.and_eq_true] at h'
  rcases List.mem_cons.1 hm with rfl | hm
  ·exact h'.1
  ·exact allT_at h'.2 hm
theorem putT_get : ∀ {l : List (Nat × SV)}, smallT l = true → ∀ {i : Nat} {v : SV}, (putT l).get i = some v → (i, v) ∈ l
 | [], _, i, v, h => by
  have h' : TrS.lf.get i = some v := h
  rw [TrS.get_lf] at h'; cases h'
 | p :: l, hs, i, v, h => by
  have hs' : (Nat.blt p.1 1000000000 && smallT l) = true := hs
  rw [Bool.and_eq_true] at hs'
  have hlt : p.1 < 2 ^ 40 := Nat.lt_trans (Nat.le_of_ble_eq_true hs'.1) (show (1000000000 : Nat) < 2 ^ 40 by decide)
  have h' : ((putT l).set p.2 p.1).get i = some v := h
  rw [TrS.get_set _ _ _ _ hlt] at h'
  split at h'
  ·rename_i e; cases h'; rw [e]; exact List.mem_cons_self ..
  ·exact List.mem_cons_of_mem _ (putT_get hs'.2 h')
noncomputable def okBlk : Blk → Bool
 | .lp .. => false
 | .itr .. => false
 | _ => true
noncomputable def liveB : Blk → Bool
 | .dead => false
 | _ => true
noncomputable def isRo : Blk → Bool
 | .ro _ => true
 | _ => false
noncomputable def freeB (f : Nat → Nat) (s : Nat) (b : Blk) (l : List (Nat × Blk)) : Bool := allB (fun t c => !(liveB b && liveB c && Nat.beq (f s) (f t)) || Nat.beq s t) l
noncomputable def candB (M0 : TrB) (c : Cand) (T' : TrS) (M' : TrB) (pi : List (Nat × Nat)) : Bool :=
 smallB c.M && smallT c.T && allT (fun i v => (match T'.get i with | some v' => eqSV (renV (rnP pi) v) v' | none => false) && symV (fun s => (lkB c.M s).isSome) v) c.T &&
  allB (fun s b => okBlk b && hasB M' (rnP pi s) (renB (rnP pi) b) && (!(M0.get s).isSome || Nat.beq (rnP pi s) s) && (!isRo b || Nat.beq (rnP pi s) s) && symB (fun s => (lkB c.M s).isSome) b && freeB (rnP pi) s b c.M) c.M
noncomputable def candM (M0 : TrB) (c : Cand) : TrB := putAll (deadT M0) c.M
theorem or_not {p q : Bool} (h : (!p || q) = true) (hp : p = true) : q = true := by rw [hp] at h; simpa using h
theorem cand_ok {M0 : TrB} {σ τ : Asg} {c : Cand} {pi : List (Nat × Nat)} (h : candB M0 c T' M' pi = true) (hdom : ∀ s, M0.get s = none ↔ σ s = none) (hle : σ.le τ) (hF : FrS N [] τ T' a) (hM : MemS w0 O τ M' w) (hG : MemG τ M') :
  ∃ τ', σ.le τ' ∧ FrS N [] τ' (putT c.T) a ∧ MemS w0 O τ' (candM M0 c) w ∧ MemG τ' (candM M0 c) := by
 unfold candB at h
 simp only [Bool.and_eq_true] at h
 obtain ⟨⟨⟨hsm, hst⟩, hT⟩, hB⟩ := h
 obtain ⟨f, hf⟩ : ∃ f, rnP pi = f := ⟨_, rfl⟩
 rw [hf] at hT hB
 have blk : ∀ s b, lkB c.M s = some b → okBlk b = true ∧ hasB M' (f s) (renB f b) = true ∧ ((M0.get s).isSome = true → f s = s) ∧ (isRo b = true → f s = s) ∧ symB (fun s => (lkB c.M s).isSome) b = true ∧ freeB f s b c.M = true := fun s b hs => by
  have := allB_at hB (lkB_mem hs)
  simp only [Bool.and_eq_true] at this
  obtain ⟨⟨⟨⟨⟨q1, q2⟩, q3⟩, q4⟩, q5⟩, q6⟩ := this
  exact ⟨q1, q2, fun h => nb (or_not q3 h), fun h => nb (or_not q4 h), q5, q6⟩
 have hget : ∀ s, (candM M0 c).get s = match lkB c.M s with | some b => some b | none => (M0.get s).map fun _ => Blk.dead := fun s => by
  unfold candM
  rw [putAll_get _ hsm, deadT_get]
  try (cases lkB c.M s <;> rfl)
 let τ' : Asg := fun s => match lkB c.M s with | some _ => τ (f s) | none => σ s
 have tp : ∀ s b, lkB c.M s = some b → τ' s = τ (f s) := fun s b hs => by show (match lkB c.M s with | some _ => τ (f s) | none => σ s) = _; rw [hs]
 have tn : ∀ s, lkB c.M s = none → τ' s = σ s := fun s hs => by show (match lkB c.M s with | some _ => τ (f s) | none => σ s) = _; rw [hs]
 have ts : ∀ s b, lkB c.M s = some b → ∃ p, τ (f s) = some p := fun s b hs => by
  obtain ⟨c, h1, _⟩ := hasB_ok (blk s b hs).2.1
  cases hp : τ (f s) with
  | none => rw [(hM.dom _).2 hp] at h1; cases h1
  | some p => exact ⟨p, rfl⟩
 have hle' : σ.le τ' := fun s p hp => by
  cases hs : lkB c.M s with
  | none => rw [tn s hs]; exact hp
  | some b =>
   have h0 : (M0.get s).isSome = true := by
    cases hm : M0.get s with
    | none => rw [(hdom s).1 hm] at hp; cases hp
    | some _ => rfl
   rw [tp s b hs, (blk s b hs).2.2.1 h0]
   exact hle s p hp
 have agree : ∀ {ρ : Rho}, Ext τ' ρ → ∀ s, (lkB c.M s).isSome = true → ρ s = (fun t => τ.rho (f t)) s := fun {ρ} hE s hs => by
  obtain ⟨b, hb⟩ := lkB_some hs
  obtain ⟨p, hp⟩ := ts s b hb
  show ρ s = τ.rho (f s)
  rw [hE s p (by rw [tp s b hb]; exact hp), τ.rho_ext _ p hp]
 refine ⟨τ', hle', ⟨fun ρ hE => by rw [hF.defers τ.rho τ.rho_ext]; rfl, hF.size, fun ρ hE i v hv => ?_⟩, ⟨fun ρ hE => ?_, fun s => ?_⟩, ⟨fun s cs hs => ?_⟩⟩
 ·have := allT_at hT (putT_get hst hv)
  rw [Bool.and_eq_true] at this
  obtain ⟨q1, q2⟩ := this
  split at q1
  ·rename_i v' hv'
   have e := eqSV_ok q1
   rw [hF.get τ.rho τ.rho_ext i v' hv', ← e, dv_ren]
   exact congrArg some (dv_congr (agree hE) q2).symm
  ·cases q1
 ·have hS := hM.st τ.rho τ.rho_ext
  have hm := List.mem_singleton_self (memC τ.rho M')
  have ff := hS.ok _ hm
  have kinds : ∀ {s : Nat} {x : Chunk}, ((candM M0 c).get s).map (bch ρ s) = some x → x = noC ∨ ∃ b, lkB c.M s = some b ∧ x = bch ρ s b := fun {s x} hs => by
   rw [hget] at hs
   cases hp : lkB c.M s with
   | some b =>
    rw [hp] at hs
    simp only [Option.map_some, Option.some.injEq] at hs
    exact .inr ⟨b, rfl, hs.symm⟩
   | none =>
    rw [hp] at hs
    dsimp only at hs
    cases h0 : M0.get s with
    | none => rw [h0] at hs; cases hs
    | some _ =>
     rw [h0] at hs
     simp only [Option.map_some, Option.some.injEq] at hs
     exact .inl hs.symm
  have ch : ∀ {s : Nat} {b : Blk}, lkB c.M s = some b → bch ρ s b = bch (fun t => τ.rho (f t)) s b := fun {s b} hs => bch_congr (agree hE) (agree hE s (by rw [hs]; rfl)) (blk s b hs).2.2.2.2.1
  have nolp : ∀ {s : Nat} {b : Blk}, lkB c.M s = some b → ∀ N T ps asg body busy, b ≠ .lp N T ps asg body busy := fun {s b} hs N T ps asg body busy e => by
   have := (blk s b hs).1; rw [e] at this; cases this
  have noit : ∀ {s : Nat} {b : Blk}, lkB c.M s = some b → ∀ t k l left cur, b ≠ .itr t k l left cur := fun {s b} hs t k l left cur e => by
   have := (blk s b hs).1; rw [e] at this; cases this
  have fps : ∀ {s : Nat} {b : Blk} {k : Nat}, lkB c.M s = some b → (bch ρ s b).fp k → liveB b = true ∧ M'.get (f s) = some (renB f b) ∧ (bch τ.rho (f s) (renB f b)).fp k := fun {s b k} hs hk => by
   rw [ch hs] at hk
   have h1 := bch_fp (ρ := τ.rho) f b (noit hs) (nolp hs) hk
   obtain ⟨c', g1, g2⟩ := hasB_ok (blk s b hs).2.1
   refine ⟨?_, ?_, h1⟩
   ·cases b <;> first | rfl | cases hk
   ·rcases g2 with g2 | g2
    ·rw [g2] at h1; cases h1
    ·rw [g2]; exact g1
  refine ⟨hS.os, hS.tape, hS.output, hS.size, hS.old, fun d hd => ?_, fun d hd k hk => ?_, List.pairwise_singleton _ _⟩
  ·rw [List.mem_singleton.1 hd]
   refine ⟨fun s x hs => ?_, fun s t x z hs ht hne k hk hk2 => ?_⟩
   ·rcases kinds hs with rfl | ⟨b, hb, rfl⟩
    ·trivial
    ·rw [ch hb]
     refine bch_ren f b ?_ (nolp hb) (noit hb)
     obtain ⟨c', g1, g2⟩ := hasB_ok (blk s b hb).2.1
     show (bch τ.rho (f s) (renB f b)).ok w
     rcases g2 with g2 | g2
     ·rw [g2]; trivial
     ·rw [g2]; exact ff.1 (f s) _ (by show (M'.get (f s)).map _ = _; rw [g1]; rfl)
   ·rcases kinds hs with rfl | ⟨b, hb, rfl⟩
    ·cases hk
    ·rcases kinds ht with rfl | ⟨d2, hd2, rfl⟩
     ·cases hk2
     ·obtain ⟨a1, a2, a3⟩ := fps hb hk
      obtain ⟨e1, e2, e3⟩ := fps hd2 hk2
      have hfr := allB_at (blk s b hb).2.2.2.2.2 (lkB_mem hd2)
      have hne2 : f s ≠ f t := fun e => by
       rw [a1, e1, e, Nat.beq_refl] at hfr
       simp only [Bool.and_self, Bool.not_true, Bool.false_or] at hfr
       exact hne (nb hfr)
      exact ff.2 (f s) (f t) _ _ (by show (M'.get (f s)).map _ = _; rw [a2]; rfl) (by show (M'.get (f t)).map _ = _; rw [e2]; rfl) hne2 k a3 e3
  ·rw [List.mem_singleton.1 hd] at hk
   obtain ⟨s, x, hs, hx⟩ := hk
   rcases kinds hs with rfl | ⟨b, hb, rfl⟩
   ·cases hx
   ·obtain ⟨a1, a2, a3⟩ := fps hb hx
    exact hS.bnd _ hm k ⟨f s, _, by show (M'.get (f s)).map _ = _; rw [a2]; rfl, a3⟩
 ·rw [hget]
  cases hp : lkB c.M s with
  | some b =>
   obtain ⟨p, h2⟩ := ts s b hp
   rw [tp s b hp, h2]; simp
  | none =>
   rw [tn s hp]
   rw [← hdom s]
   simp
 ·rw [hget] at hs
  cases hp : lkB c.M s with
  | some b =>
   rw [hp] at hs
   dsimp only at hs
   cases hs
   obtain ⟨c', g1, g2⟩ := hasB_ok (blk s _ hp).2.1
   have e := (blk s _ hp).2.2.2.1 rfl
   rcases g2 with g2 | g2
   ·cases g2
   ·subst g2
    obtain ⟨p, q1, q2⟩ := hG.glo (f s) _ g1
    exact ⟨p, by rw [tp s _ hp]; exact q1, by rw [q2, e]⟩
  | none =>
   rw [hp] at hs
   cases h0 : M0.get s <;> rw [h0] at hs <;> cases hs
noncomputable def isNorm : XR → Bool
 | (.normal, _) => true
 | _ => false
noncomputable def nilD : List SD → Bool
 | [] => true
 | _ :: _ => false
noncomputable def flatO {α β : Type} (f : α → Option (List β)) (l : List α) : Option (List β) := List.rec (some []) (fun x _ ih => ob (f x) fun r => ob ih fun s => some (r ++ s)) l
theorem flatO_at {α β : Type} {f : α → Option (List β)} : ∀ {l : List α} {R : List β}, flatO f l = some R → ∀ x ∈ l, ∃ r, f x = some r ∧ ∀ y ∈ r, y ∈ R
 | [], R, h, x, hx => by cases hx
 | z :: l, R, h, x, hx => by
  have h' : (ob (f z) fun r => ob (flatO f l) fun s => some (r ++ s)) = some R := h
  obtain ⟨r, h1, h2⟩ := ob_some h'
  obtain ⟨s, h3, h4⟩ := ob_some h2
  cases h4
  rcases List.mem_cons.1 hx with rfl | hx
  ·exact ⟨r, h1, fun y hy => List.mem_append_left _ hy⟩
  ·obtain ⟨r', g1, g2⟩ := flatO_at h3 x hx
   exact ⟨r', g1, fun y hy => List.mem_append_right _ (g2 y hy)⟩
abbrev LSt := TrS × TrB × Nat
noncomputable def candS (M0 : TrB) (c : Cand) : LSt := (putT c.T, candM M0 c, c.n)
noncomputable def metB (M0 : TrB) (g : List Cand) (x : XR) : Bool := !isNorm x || (nilD x.2.2.1 && g.any fun c => c.pis.any (candB M0 c x.2.1 x.2.2.2.1))
noncomputable def loopG (ih : Rn) (rd : Bool) (N : Nat) (b : Code) (M0 : TrB) (gs : List (List Cand)) : List LSt → Option (List XR) := List.rec
 (fun L => flatO (fun x => loopX ih rd N b 100000 x.1 [] x.2.1 x.2.2) L)
 (fun g _ go L => ob (flatO (fun x => ih rd N b x.1 [] x.2.1 x.2.2) L) fun R => must (R.all (metB M0 g)) (ob (go (g.map (candS M0))) fun r => some (R.filter (fun x => !isNorm x) ++ r))) gs
theorem loopG_ok {ih : Rn} (hih : RunOk P ih) (hFo : FOk rd F) (hN0 : 0 < N) (hN : Nat.ble N 1000000 = true) {b : Code} {M0 : TrB} {σ : Asg} (hdom : ∀ s, M0.get s = none ↔ σ s = none) : ∀ {gs : List (List Cand)} {L : List LSt} {R : List XR},
  loopG ih rd N b M0 gs L = some R → Fin N w0 O σ R Q → ∀ x ∈ L, ∀ {τ : Asg} {a : Act} {w : World}, σ.le τ → FrS N [] τ x.1 a → MemS w0 O τ x.2.1 w → MemG τ x.2.1 → Code.roundsIn F 0 P b Q (100000 + gs.length) a w
 | [], L, R, h, hK, x, hx, τ, a, w, hle, hF, hM, hG => by
  have h' : flatO (fun x : LSt => loopX ih rd N b 100000 x.1 [] x.2.1 x.2.2) L = some R := h
  obtain ⟨r, h1, h2⟩ := flatO_at h' x hx
  exact loopX_ok hih hFo hN0 hN h1 hF hM hG ((hK.sub h2).le hle)
 | g :: gs, L, R, h, hK, x, hx, τ, a, w, hle, hF, hM, hG => by
  have h' : (ob (flatO (fun x : LSt => ih rd N b x.1 [] x.2.1 x.2.2) L) fun R => must (R.all (metB M0 g)) (ob (loopG ih rd N b M0 gs (g.map (candS M0))) fun r => some (R.filter (fun x => !isNorm x) ++ r))) = some R := h
  obtain ⟨R1, h1, h2⟩ := ob_some h'
  obtain ⟨hmet, h3⟩ := must_some h2
  obtain ⟨r, h4, h5⟩ := ob_some h3
  clear h h' h2 h3
  cases h5
  obtain ⟨rx, g1, g2⟩ := flatO_at h1 x hx
  rw [List.length_cons, show 100000 + (gs.length + 1) = (100000 + gs.length) + 1 by omega, roundsIn_succ]
  refine hih hN0 hN g1 hFo hF hM hG (fun y hy {τ1 e a' w'} hle1 he hF1 hM1 hG1 => ?_)
  have hyR := g2 y hy
  have hm := List.all_eq_true.1 hmet y hyR
  obtain ⟨ex, T1, D1, M1, n1⟩ := y
  have other : isNorm (ex, T1, D1, M1, n1) = false → Q e a' w' := fun hno => hK (ex, T1, D1, M1, n1) (List.mem_append_left _ (List.mem_filter.2 ⟨hyR, by rw [hno]; rfl⟩)) (hle.trans hle1) he hF1 hM1 hG1
  cases ex with
  | normal =>
   cases he
   have hm2 : (nilD D1 && g.any fun c => c.pis.any (candB M0 c T1 M1)) = true := hm
   rw [Bool.and_eq_true] at hm2
   have hD : D1 = [] := by cases D1 with | nil => rfl | cons _ _ => cases hm2.1
   subst hD
   obtain ⟨c, hc, hcb⟩ := List.any_eq_true.1 hm2.2
   obtain ⟨pi, _, hcb⟩ := List.any_eq_true.1 hcb
   obtain ⟨τ2, f1, f2, f3, f4⟩ := cand_ok hcb hdom (hle.trans hle1) hF1 hM1 hG1
   show Code.roundsIn F 0 P b Q (100000 + gs.length) a' w'
   exact loopG_ok hih hFo hN0 hN hdom h4 (hK.sub (fun z hz => List.mem_append_right _ hz)) (candS M0 c) (List.mem_map.2 ⟨c, hc, rfl⟩) f1 f2 f3 f4
  | exit i =>
   have := other rfl
   cases he; exact this
  | ret =>
   have := other rfl
   cases he; exact this
  | panic v =>
   have := other rfl
   have he0 := he
   obtain ⟨u, _, rfl⟩ := he0
   exact this
noncomputable def lrG (gd : Nat → Option (List (List Cand))) : Lr9 := fun ih rd N b T D M n => match gd n with
 | none => loopX ih rd N b 100000 T D M n
 | some gs => must (nilD D) (loopG ih rd N b M gs [(T, M, n)])
theorem lrG_ok (gd : Nat → Option (List (List Cand))) : LoopOk P (lrG gd) := fun {ih} hih {rd N b T D M n L} hN0 hN h {F} hFo {w0 w O σ a Q} hF hM hG hK => by
 unfold lrG at h
 split at h
 ·exact wpIn_loop_rounds 100000 (loopX_ok hih hFo hN0 hN h hF hM hG hK)
 ·rename_i gs hgs
  obtain ⟨hD, h2⟩ := must_some h
  have hD : D = [] := by cases D with | nil => rfl | cons _ _ => cases hD
  subst hD
  exact wpIn_loop_rounds _ (loopG_ok hih hFo hN0 hN hM.dom h2 hK (T, M, n) (List.mem_singleton_self _) (Asg.le.refl σ) hF hM hG)
end
end Go.X
namespace Go.X
open Go Go.Eng Go.RowKit Dg Go.Proofs Go.Proofs.YtndpdhamadiopaaGreatDoor
theorem hmix : Tryz.prog.follows .mixedOrders = true := by decide +kernel
def gd5 : List (List Cand) := [[⟨[[(8406, 8385), (8407, 8350)]], 8506, [(1, .ptr 8322 0), (14, .sl 8147 0 9 3), (15, .int .i64 9), (16, .int .i64 1)],
   [(6315, .dead), (6598, .dead), (6599, .cells [.ptr 6315 0, .mp 6598, .sl 6610 0 1 1, .nils, .nils, .sl 8406 0 1 3, .sl 8147 0 9 3, .int .i64 4084, .nils, .int .i64 0, .int .i64 0, .int .i64 2, .mp 6600] 181), (6600, .dead), (6610, .dead), (6871, .row [] 0 186 3), (7168, .row [.int .i64 0, .int .i64 0, .int .i64 1] 1 186 3), (7312, .row [] 0 186 3), (7565, .row [.int .i64 0, .int .i64 0, .int .i64 1] 1 186 3), (7660, .row [.int .i64 0, .int .i64 1, .int .i64 0] 1 186 3), (7764, .row [] 0 186 3), (7922, .row [.int .i64 0, .int .i64 0, .int .i64 1] 1 186 3), (8017, .row [.int .i64 0, .int .i64 1, .int .i64 0] 1 186 3), (8121, .row [] 0 186 3), (8147, .row [.int .i64 2, .sl 6871 0 0 3, .int .i64 1, .int .i64 1, .sl 7168 0 1 3, .int .i64 2, .int .i64 2, .sl 7312 0 0 3, .int .i64 1, .int .i64 1, .sl 7565 0 1 3, .int .i64 2, .int .i64 1, .sl 7660 0 1 3, .int .i64 2, .int .i64 2, .sl 7764 0 0 3, .int .i64 1, .int .i64 1, .sl 7922 0 1 3, .int .i64 2, .int .i64 1, .sl 8017 0 1 3, .int .i64 2, .int .i64 1, .sl 8121 0 0 3, .int .i64 1] 9 360 3), (8322, .cells [.ptr 6599 5] 369), (8406, .row [.int .i64 2, .sl 8407 0 0 3, .int .i64 1] 1 360 3), (8407, .row [] 0 186 3)]⟩],
  [⟨[[(8406, 8591), (8407, 8533), (8408, 8556)]], 8506, [(1, .ptr 8322 0), (14, .sl 8147 0 9 3), (15, .int .i64 9), (16, .int .i64 2)],
   [(6315, .dead), (6598, .dead), (6599, .cells [.ptr 6315 0, .mp 6598, .sl 6610 0 1 1, .nils, .nils, .sl 8406 0 2 3, .sl 8147 0 9 3, .int .i64 4084, .nils, .int .i64 0, .int .i64 0, .int .i64 2, .mp 6600] 181), (6600, .dead), (6610, .dead), (6871, .row [] 0 186 3), (7168, .row [.int .i64 0, .int .i64 0, .int .i64 1] 1 186 3), (7312, .row [] 0 186 3), (7565, .row [.int .i64 0, .int .i64 0, .int .i64 1] 1 186 3), (7660, .row [.int .i64 0, .int .i64 1, .int .i64 0] 1 186 3), (7764, .row [] 0 186 3), (7922, .row [.int .i64 0, .int .i64 0, .int .i64 1] 1 186 3), (8017, .row [.int .i64 0, .int .i64 1, .int .i64 0] 1 186 3), (8121, .row [] 0 186 3), (8147, .row [.int .i64 2, .sl 6871 0 0 3, .int .i64 1, .int .i64 1, .sl 7168 0 1 3, .int .i64 2, .int .i64 2, .sl 7312 0 0 3, .int .i64 1, .int .i64 1, .sl 7565 0 1 3, .int .i64 2, .int .i64 1, .sl 7660 0 1 3, .int .i64 2, .int .i64 2, .sl 7764 0 0 3, .int .i64 1, .int .i64 1, .sl 7922 0 1 3, .int .i64 2, .int .i64 1, .sl 8017 0 1 3, .int .i64 2, .int .i64 1, .sl 8121 0 0 3, .int .i64 1] 9 360 3), (8322, .cells [.ptr 6599 5] 369), (8406, .row [.int .i64 3, .sl 8407 0 1 3, .int .i64 2, .int .i64 2, .sl 8408 0 1 3, .int .i64 2] 2 360 3), (8407, .row [.int .i64 0, .int .i64 0, .int .i64 1] 1 186 3), (8408, .row [.int .i64 0, .int .i64 1, .int .i64 0] 1 186 3)]⟩,
  ⟨[[(8406, 8591), (8407, 8556), (8408, 8533)]], 8506, [(1, .ptr 8322 0), (14, .sl 8147 0 9 3), (15, .int .i64 9), (16, .int .i64 2)],
   [(6315, .dead), (6598, .dead), (6599, .cells [.ptr 6315 0, .mp 6598, .sl 6610 0 1 1, .nils, .nils, .sl 8406 0 2 3, .sl 8147 0 9 3, .int .i64 4084, .nils, .int .i64 0, .int .i64 0, .int .i64 2, .mp 6600] 181), (6600, .dead), (6610, .dead), (6871, .row [] 0 186 3), (7168, .row [.int .i64 0, .int .i64 0, .int .i64 1] 1 186 3), (7312, .row [] 0 186 3), (7565, .row [.int .i64 0, .int .i64 0, .int .i64 1] 1 186 3), (7660, .row [.int .i64 0, .int .i64 1, .int .i64 0] 1 186 3), (7764, .row [] 0 186 3), (7922, .row [.int .i64 0, .int .i64 0, .int .i64 1] 1 186 3), (8017, .row [.int .i64 0, .int .i64 1, .int .i64 0] 1 186 3), (8121, .row [] 0 186 3), (8147, .row [.int .i64 2, .sl 6871 0 0 3, .int .i64 1, .int .i64 1, .sl 7168 0 1 3, .int .i64 2, .int .i64 2, .sl 7312 0 0 3, .int .i64 1, .int .i64 1, .sl 7565 0 1 3, .int .i64 2, .int .i64 1, .sl 7660 0 1 3, .int .i64 2, .int .i64 2, .sl 7764 0 0 3, .int .i64 1, .int .i64 1, .sl 7922 0 1 3, .int .i64 2, .int .i64 1, .sl 8017 0 1 3, .int .i64 2, .int .i64 1, .sl 8121 0 0 3, .int .i64 1] 9 360 3), (8322, .cells [.ptr 6599 5] 369), (8406, .row [.int .i64 2, .sl 8407 0 1 3, .int .i64 2, .int .i64 3, .sl 8408 0 1 3, .int .i64 2] 2 360 3), (8407, .row [.int .i64 0, .int .i64 1, .int .i64 0] 1 186 3), (8408, .row [.int .i64 0, .int .i64 0, .int .i64 1] 1 186 3)]⟩],
  [⟨[[(8406, 8621), (8407, 8533), (8408, 8572)], [(8406, 8621), (8407, 8572), (8408, 8533)]], 8506, [(1, .ptr 8322 0), (14, .sl 8147 0 9 3), (15, .int .i64 9), (16, .int .i64 3)],
   [(6315, .dead), (6598, .dead), (6599, .cells [.ptr 6315 0, .mp 6598, .sl 6610 0 1 1, .nils, .nils, .sl 8406 0 2 3, .sl 8147 0 9 3, .int .i64 4084, .nils, .int .i64 0, .int .i64 0, .int .i64 2, .mp 6600] 181), (6600, .dead), (6610, .dead), (6871, .row [] 0 186 3), (7168, .row [.int .i64 0, .int .i64 0, .int .i64 1] 1 186 3), (7312, .row [] 0 186 3), (7565, .row [.int .i64 0, .int .i64 0, .int .i64 1] 1 186 3), (7660, .row [.int .i64 0, .int .i64 1, .int .i64 0] 1 186 3), (7764, .row [] 0 186 3), (7922, .row [.int .i64 0, .int .i64 0, .int .i64 1] 1 186 3), (8017, .row [.int .i64 0, .int .i64 1, .int .i64 0] 1 186 3), (8121, .row [] 0 186 3), (8147, .row [.int .i64 2, .sl 6871 0 0 3, .int .i64 1, .int .i64 1, .sl 7168 0 1 3, .int .i64 2, .int .i64 2, .sl 7312 0 0 3, .int .i64 1, .int .i64 1, .sl 7565 0 1 3, .int .i64 2, .int .i64 1, .sl 7660 0 1 3, .int .i64 2, .int .i64 2, .sl 7764 0 0 3, .int .i64 1, .int .i64 1, .sl 7922 0 1 3, .int .i64 2, .int .i64 1, .sl 8017 0 1 3, .int .i64 2, .int .i64 1, .sl 8121 0 0 3, .int .i64 1] 9 360 3), (8322, .cells [.ptr 6599 5] 369), (8406, .row [.int .i64 5, .sl 8407 0 1 3, .int .i64 2, .int .i64 4, .sl 8408 0 1 3, .int .i64 2] 2 360 3), (8407, .row [.int .i64 0, .int .i64 0, .int .i64 1] 1 186 3), (8408, .row [.int .i64 0, .int .i64 1, .int .i64 0] 1 186 3)]⟩,
  ⟨[[(8406, 8621), (8407, 8572), (8408, 8533)], [(8406, 8621), (8407, 8533), (8408, 8572)]], 8506, [(1, .ptr 8322 0), (14, .sl 8147 0 9 3), (15, .int .i64 9), (16, .int .i64 3)],
   [(6315, .dead), (6598, .dead), (6599, .cells [.ptr 6315 0, .mp 6598, .sl 6610 0 1 1, .nils, .nils, .sl 8406 0 2 3, .sl 8147 0 9 3, .int .i64 4084, .nils, .int .i64 0, .int .i64 0, .int .i64 2, .mp 6600] 181), (6600, .dead), (6610, .dead), (6871, .row [] 0 186 3), (7168, .row [.int .i64 0, .int .i64 0, .int .i64 1] 1 186 3), (7312, .row [] 0 186 3), (7565, .row [.int .i64 0, .int .i64 0, .int .i64 1] 1 186 3), (7660, .row [.int .i64 0, .int .i64 1, .int .i64 0] 1 186 3), (7764, .row [] 0 186 3), (7922, .row [.int .i64 0, .int .i64 0, .int .i64 1] 1 186 3), (8017, .row [.int .i64 0, .int .i64 1, .int .i64 0] 1 186 3), (8121, .row [] 0 186 3), (8147, .row [.int .i64 2, .sl 6871 0 0 3, .int .i64 1, .int .i64 1, .sl 7168 0 1 3, .int .i64 2, .int .i64 2, .sl 7312 0 0 3, .int .i64 1, .int .i64 1, .sl 7565 0 1 3, .int .i64 2, .int .i64 1, .sl 7660 0 1 3, .int .i64 2, .int .i64 2, .sl 7764 0 0 3, .int .i64 1, .int .i64 1, .sl 7922 0 1 3, .int .i64 2, .int .i64 1, .sl 8017 0 1 3, .int .i64 2, .int .i64 1, .sl 8121 0 0 3, .int .i64 1] 9 360 3), (8322, .cells [.ptr 6599 5] 369), (8406, .row [.int .i64 4, .sl 8407 0 1 3, .int .i64 2, .int .i64 5, .sl 8408 0 1 3, .int .i64 2] 2 360 3), (8407, .row [.int .i64 0, .int .i64 1, .int .i64 0] 1 186 3), (8408, .row [.int .i64 0, .int .i64 0, .int .i64 1] 1 186 3)]⟩],
  [⟨[[(8406, 8621), (8407, 8533), (8408, 8586)], [(8406, 8621), (8407, 8572), (8408, 8547)]], 8506, [(1, .ptr 8322 0), (14, .sl 8147 0 9 3), (15, .int .i64 9), (16, .int .i64 4)],
   [(6315, .dead), (6598, .dead), (6599, .cells [.ptr 6315 0, .mp 6598, .sl 6610 0 1 1, .nils, .nils, .sl 8406 0 2 3, .sl 8147 0 9 3, .int .i64 4084, .nils, .int .i64 0, .int .i64 0, .int .i64 2, .mp 6600] 181), (6600, .dead), (6610, .dead), (6871, .row [] 0 186 3), (7168, .row [.int .i64 0, .int .i64 0, .int .i64 1] 1 186 3), (7312, .row [] 0 186 3), (7565, .row [.int .i64 0, .int .i64 0, .int .i64 1] 1 186 3), (7660, .row [.int .i64 0, .int .i64 1, .int .i64 0] 1 186 3), (7764, .row [] 0 186 3), (7922, .row [.int .i64 0, .int .i64 0, .int .i64 1] 1 186 3), (8017, .row [.int .i64 0, .int .i64 1, .int .i64 0] 1 186 3), (8121, .row [] 0 186 3), (8147, .row [.int .i64 2, .sl 6871 0 0 3, .int .i64 1, .int .i64 1, .sl 7168 0 1 3, .int .i64 2, .int .i64 2, .sl 7312 0 0 3, .int .i64 1, .int .i64 1, .sl 7565 0 1 3, .int .i64 2, .int .i64 1, .sl 7660 0 1 3, .int .i64 2, .int .i64 2, .sl 7764 0 0 3, .int .i64 1, .int .i64 1, .sl 7922 0 1 3, .int .i64 2, .int .i64 1, .sl 8017 0 1 3, .int .i64 2, .int .i64 1, .sl 8121 0 0 3, .int .i64 1] 9 360 3), (8322, .cells [.ptr 6599 5] 369), (8406, .row [.int .i64 6, .sl 8407 0 1 3, .int .i64 2, .int .i64 4, .sl 8408 0 1 3, .int .i64 2] 2 360 3), (8407, .row [.int .i64 0, .int .i64 0, .int .i64 1] 1 186 3), (8408, .row [.int .i64 0, .int .i64 1, .int .i64 0] 1 186 3)]⟩,
  ⟨[[(8406, 8621), (8407, 8586), (8408, 8533)], [(8406, 8621), (8407, 8547), (8408, 8572)]], 8506, [(1, .ptr 8322 0), (14, .sl 8147 0 9 3), (15, .int .i64 9), (16, .int .i64 4)],
   [(6315, .dead), (6598, .dead), (6599, .cells [.ptr 6315 0, .mp 6598, .sl 6610 0 1 1, .nils, .nils, .sl 8406 0 2 3, .sl 8147 0 9 3, .int .i64 4084, .nils, .int .i64 0, .int .i64 0, .int .i64 2, .mp 6600] 181), (6600, .dead), (6610, .dead), (6871, .row [] 0 186 3), (7168, .row [.int .i64 0, .int .i64 0, .int .i64 1] 1 186 3), (7312, .row [] 0 186 3), (7565, .row [.int .i64 0, .int .i64 0, .int .i64 1] 1 186 3), (7660, .row [.int .i64 0, .int .i64 1, .int .i64 0] 1 186 3), (7764, .row [] 0 186 3), (7922, .row [.int .i64 0, .int .i64 0, .int .i64 1] 1 186 3), (8017, .row [.int .i64 0, .int .i64 1, .int .i64 0] 1 186 3), (8121, .row [] 0 186 3), (8147, .row [.int .i64 2, .sl 6871 0 0 3, .int .i64 1, .int .i64 1, .sl 7168 0 1 3, .int .i64 2, .int .i64 2, .sl 7312 0 0 3, .int .i64 1, .int .i64 1, .sl 7565 0 1 3, .int .i64 2, .int .i64 1, .sl 7660 0 1 3, .int .i64 2, .int .i64 2, .sl 7764 0 0 3, .int .i64 1, .int .i64 1, .sl 7922 0 1 3, .int .i64 2, .int .i64 1, .sl 8017 0 1 3, .int .i64 2, .int .i64 1, .sl 8121 0 0 3, .int .i64 1] 9 360 3), (8322, .cells [.ptr 6599 5] 369), (8406, .row [.int .i64 4, .sl 8407 0 1 3, .int .i64 2, .int .i64 6, .sl 8408 0 1 3, .int .i64 2] 2 360 3), (8407, .row [.int .i64 0, .int .i64 1, .int .i64 0] 1 186 3), (8408, .row [.int .i64 0, .int .i64 0, .int .i64 1] 1 186 3)]⟩],
  [⟨[[(8406, 8621), (8407, 8547), (8408, 8572)], [(8406, 8621), (8407, 8586), (8408, 8533)]], 8506, [(1, .ptr 8322 0), (14, .sl 8147 0 9 3), (15, .int .i64 9), (16, .int .i64 5)],
   [(6315, .dead), (6598, .dead), (6599, .cells [.ptr 6315 0, .mp 6598, .sl 6610 0 1 1, .nils, .nils, .sl 8406 0 2 3, .sl 8147 0 9 3, .int .i64 4084, .nils, .int .i64 0, .int .i64 0, .int .i64 2, .mp 6600] 181), (6600, .dead), (6610, .dead), (6871, .row [] 0 186 3), (7168, .row [.int .i64 0, .int .i64 0, .int .i64 1] 1 186 3), (7312, .row [] 0 186 3), (7565, .row [.int .i64 0, .int .i64 0, .int .i64 1] 1 186 3), (7660, .row [.int .i64 0, .int .i64 1, .int .i64 0] 1 186 3), (7764, .row [] 0 186 3), (7922, .row [.int .i64 0, .int .i64 0, .int .i64 1] 1 186 3), (8017, .row [.int .i64 0, .int .i64 1, .int .i64 0] 1 186 3), (8121, .row [] 0 186 3), (8147, .row [.int .i64 2, .sl 6871 0 0 3, .int .i64 1, .int .i64 1, .sl 7168 0 1 3, .int .i64 2, .int .i64 2, .sl 7312 0 0 3, .int .i64 1, .int .i64 1, .sl 7565 0 1 3, .int .i64 2, .int .i64 1, .sl 7660 0 1 3, .int .i64 2, .int .i64 2, .sl 7764 0 0 3, .int .i64 1, .int .i64 1, .sl 7922 0 1 3, .int .i64 2, .int .i64 1, .sl 8017 0 1 3, .int .i64 2, .int .i64 1, .sl 8121 0 0 3, .int .i64 1] 9 360 3), (8322, .cells [.ptr 6599 5] 369), (8406, .row [.int .i64 6, .sl 8407 0 1 3, .int .i64 2, .int .i64 5, .sl 8408 0 1 3, .int .i64 2] 2 360 3), (8407, .row [.int .i64 0, .int .i64 0, .int .i64 1] 1 186 3), (8408, .row [.int .i64 0, .int .i64 1, .int .i64 0] 1 186 3)]⟩,
  ⟨[[(8406, 8621), (8407, 8572), (8408, 8547)], [(8406, 8621), (8407, 8533), (8408, 8586)]], 8506, [(1, .ptr 8322 0), (14, .sl 8147 0 9 3), (15, .int .i64 9), (16, .int .i64 5)],
   [(6315, .dead), (6598, .dead), (6599, .cells [.ptr 6315 0, .mp 6598, .sl 6610 0 1 1, .nils, .nils, .sl 8406 0 2 3, .sl 8147 0 9 3, .int .i64 4084, .nils, .int .i64 0, .int .i64 0, .int .i64 2, .mp 6600] 181), (6600, .dead), (6610, .dead), (6871, .row [] 0 186 3), (7168, .row [.int .i64 0, .int .i64 0, .int .i64 1] 1 186 3), (7312, .row [] 0 186 3), (7565, .row [.int .i64 0, .int .i64 0, .int .i64 1] 1 186 3), (7660, .row [.int .i64 0, .int .i64 1, .int .i64 0] 1 186 3), (7764, .row [] 0 186 3), (7922, .row [.int .i64 0, .int .i64 0, .int .i64 1] 1 186 3), (8017, .row [.int .i64 0, .int .i64 1, .int .i64 0] 1 186 3), (8121, .row [] 0 186 3), (8147, .row [.int .i64 2, .sl 6871 0 0 3, .int .i64 1, .int .i64 1, .sl 7168 0 1 3, .int .i64 2, .int .i64 2, .sl 7312 0 0 3, .int .i64 1, .int .i64 1, .sl 7565 0 1 3, .int .i64 2, .int .i64 1, .sl 7660 0 1 3, .int .i64 2, .int .i64 2, .sl 7764 0 0 3, .int .i64 1, .int .i64 1, .sl 7922 0 1 3, .int .i64 2, .int .i64 1, .sl 8017 0 1 3, .int .i64 2, .int .i64 1, .sl 8121 0 0 3, .int .i64 1] 9 360 3), (8322, .cells [.ptr 6599 5] 369), (8406, .row [.int .i64 5, .sl 8407 0 1 3, .int .i64 2, .int .i64 6, .sl 8408 0 1 3, .int .i64 2] 2 360 3), (8407, .row [.int .i64 0, .int .i64 1, .int .i64 0] 1 186 3), (8408, .row [.int .i64 0, .int .i64 0, .int .i64 1] 1 186 3)]⟩],
  [⟨[[(8406, 8621), (8407, 8533), (8408, 8572)], [(8406, 8621), (8407, 8572), (8408, 8533)]], 8506, [(1, .ptr 8322 0), (14, .sl 8147 0 9 3), (15, .int .i64 9), (16, .int .i64 6)],
   [(6315, .dead), (6598, .dead), (6599, .cells [.ptr 6315 0, .mp 6598, .sl 6610 0 1 1, .nils, .nils, .sl 8406 0 2 3, .sl 8147 0 9 3, .int .i64 4084, .nils, .int .i64 0, .int .i64 0, .int .i64 2, .mp 6600] 181), (6600, .dead), (6610, .dead), (6871, .row [] 0 186 3), (7168, .row [.int .i64 0, .int .i64 0, .int .i64 1] 1 186 3), (7312, .row [] 0 186 3), (7565, .row [.int .i64 0, .int .i64 0, .int .i64 1] 1 186 3), (7660, .row [.int .i64 0, .int .i64 1, .int .i64 0] 1 186 3), (7764, .row [] 0 186 3), (7922, .row [.int .i64 0, .int .i64 0, .int .i64 1] 1 186 3), (8017, .row [.int .i64 0, .int .i64 1, .int .i64 0] 1 186 3), (8121, .row [] 0 186 3), (8147, .row [.int .i64 2, .sl 6871 0 0 3, .int .i64 1, .int .i64 1, .sl 7168 0 1 3, .int .i64 2, .int .i64 2, .sl 7312 0 0 3, .int .i64 1, .int .i64 1, .sl 7565 0 1 3, .int .i64 2, .int .i64 1, .sl 7660 0 1 3, .int .i64 2, .int .i64 2, .sl 7764 0 0 3, .int .i64 1, .int .i64 1, .sl 7922 0 1 3, .int .i64 2, .int .i64 1, .sl 8017 0 1 3, .int .i64 2, .int .i64 1, .sl 8121 0 0 3, .int .i64 1] 9 360 3), (8322, .cells [.ptr 6599 5] 369), (8406, .row [.int .i64 8, .sl 8407 0 1 3, .int .i64 2, .int .i64 7, .sl 8408 0 1 3, .int .i64 2] 2 360 3), (8407, .row [.int .i64 0, .int .i64 0, .int .i64 1] 1 186 3), (8408, .row [.int .i64 0, .int .i64 1, .int .i64 0] 1 186 3)]⟩,
  ⟨[[(8406, 8621), (8407, 8572), (8408, 8533)], [(8406, 8621), (8407, 8533), (8408, 8572)]], 8506, [(1, .ptr 8322 0), (14, .sl 8147 0 9 3), (15, .int .i64 9), (16, .int .i64 6)],
   [(6315, .dead), (6598, .dead), (6599, .cells [.ptr 6315 0, .mp 6598, .sl 6610 0 1 1, .nils, .nils, .sl 8406 0 2 3, .sl 8147 0 9 3, .int .i64 4084, .nils, .int .i64 0, .int .i64 0, .int .i64 2, .mp 6600] 181), (6600, .dead), (6610, .dead), (6871, .row [] 0 186 3), (7168, .row [.int .i64 0, .int .i64 0, .int .i64 1] 1 186 3), (7312, .row [] 0 186 3), (7565, .row [.int .i64 0, .int .i64 0, .int .i64 1] 1 186 3), (7660, .row [.int .i64 0, .int .i64 1, .int .i64 0] 1 186 3), (7764, .row [] 0 186 3), (7922, .row [.int .i64 0, .int .i64 0, .int .i64 1] 1 186 3), (8017, .row [.int .i64 0, .int .i64 1, .int .i64 0] 1 186 3), (8121, .row [] 0 186 3), (8147, .row [.int .i64 2, .sl 6871 0 0 3, .int .i64 1, .int .i64 1, .sl 7168 0 1 3, .int .i64 2, .int .i64 2, .sl 7312 0 0 3, .int .i64 1, .int .i64 1, .sl 7565 0 1 3, .int .i64 2, .int .i64 1, .sl 7660 0 1 3, .int .i64 2, .int .i64 2, .sl 7764 0 0 3, .int .i64 1, .int .i64 1, .sl 7922 0 1 3, .int .i64 2, .int .i64 1, .sl 8017 0 1 3, .int .i64 2, .int .i64 1, .sl 8121 0 0 3, .int .i64 1] 9 360 3), (8322, .cells [.ptr 6599 5] 369), (8406, .row [.int .i64 7, .sl 8407 0 1 3, .int .i64 2, .int .i64 8, .sl 8408 0 1 3, .int .i64 2] 2 360 3), (8407, .row [.int .i64 0, .int .i64 1, .int .i64 0] 1 186 3), (8408, .row [.int .i64 0, .int .i64 0, .int .i64 1] 1 186 3)]⟩],
  [⟨[[(8406, 8621), (8407, 8533), (8408, 8586)], [(8406, 8621), (8407, 8572), (8408, 8547)]], 8506, [(1, .ptr 8322 0), (14, .sl 8147 0 9 3), (15, .int .i64 9), (16, .int .i64 7)],
   [(6315, .dead), (6598, .dead), (6599, .cells [.ptr 6315 0, .mp 6598, .sl 6610 0 1 1, .nils, .nils, .sl 8406 0 2 3, .sl 8147 0 9 3, .int .i64 4084, .nils, .int .i64 0, .int .i64 0, .int .i64 2, .mp 6600] 181), (6600, .dead), (6610, .dead), (6871, .row [] 0 186 3), (7168, .row [.int .i64 0, .int .i64 0, .int .i64 1] 1 186 3), (7312, .row [] 0 186 3), (7565, .row [.int .i64 0, .int .i64 0, .int .i64 1] 1 186 3), (7660, .row [.int .i64 0, .int .i64 1, .int .i64 0] 1 186 3), (7764, .row [] 0 186 3), (7922, .row [.int .i64 0, .int .i64 0, .int .i64 1] 1 186 3), (8017, .row [.int .i64 0, .int .i64 1, .int .i64 0] 1 186 3), (8121, .row [] 0 186 3), (8147, .row [.int .i64 2, .sl 6871 0 0 3, .int .i64 1, .int .i64 1, .sl 7168 0 1 3, .int .i64 2, .int .i64 2, .sl 7312 0 0 3, .int .i64 1, .int .i64 1, .sl 7565 0 1 3, .int .i64 2, .int .i64 1, .sl 7660 0 1 3, .int .i64 2, .int .i64 2, .sl 7764 0 0 3, .int .i64 1, .int .i64 1, .sl 7922 0 1 3, .int .i64 2, .int .i64 1, .sl 8017 0 1 3, .int .i64 2, .int .i64 1, .sl 8121 0 0 3, .int .i64 1] 9 360 3), (8322, .cells [.ptr 6599 5] 369), (8406, .row [.int .i64 9, .sl 8407 0 1 3, .int .i64 2, .int .i64 7, .sl 8408 0 1 3, .int .i64 2] 2 360 3), (8407, .row [.int .i64 0, .int .i64 0, .int .i64 1] 1 186 3), (8408, .row [.int .i64 0, .int .i64 1, .int .i64 0] 1 186 3)]⟩,
  ⟨[[(8406, 8621), (8407, 8586), (8408, 8533)], [(8406, 8621), (8407, 8547), (8408, 8572)]], 8506, [(1, .ptr 8322 0), (14, .sl 8147 0 9 3), (15, .int .i64 9), (16, .int .i64 7)],
   [(6315, .dead), (6598, .dead), (6599, .cells [.ptr 6315 0, .mp 6598, .sl 6610 0 1 1, .nils, .nils, .sl 8406 0 2 3, .sl 8147 0 9 3, .int .i64 4084, .nils, .int .i64 0, .int .i64 0, .int .i64 2, .mp 6600] 181), (6600, .dead), (6610, .dead), (6871, .row [] 0 186 3), (7168, .row [.int .i64 0, .int .i64 0, .int .i64 1] 1 186 3), (7312, .row [] 0 186 3), (7565, .row [.int .i64 0, .int .i64 0, .int .i64 1] 1 186 3), (7660, .row [.int .i64 0, .int .i64 1, .int .i64 0] 1 186 3), (7764, .row [] 0 186 3), (7922, .row [.int .i64 0, .int .i64 0, .int .i64 1] 1 186 3), (8017, .row [.int .i64 0, .int .i64 1, .int .i64 0] 1 186 3), (8121, .row [] 0 186 3), (8147, .row [.int .i64 2, .sl 6871 0 0 3, .int .i64 1, .int .i64 1, .sl 7168 0 1 3, .int .i64 2, .int .i64 2, .sl 7312 0 0 3, .int .i64 1, .int .i64 1, .sl 7565 0 1 3, .int .i64 2, .int .i64 1, .sl 7660 0 1 3, .int .i64 2, .int .i64 2, .sl 7764 0 0 3, .int .i64 1, .int .i64 1, .sl 7922 0 1 3, .int .i64 2, .int .i64 1, .sl 8017 0 1 3, .int .i64 2, .int .i64 1, .sl 8121 0 0 3, .int .i64 1] 9 360 3), (8322, .cells [.ptr 6599 5] 369), (8406, .row [.int .i64 7, .sl 8407 0 1 3, .int .i64 2, .int .i64 9, .sl 8408 0 1 3, .int .i64 2] 2 360 3), (8407, .row [.int .i64 0, .int .i64 1, .int .i64 0] 1 186 3), (8408, .row [.int .i64 0, .int .i64 0, .int .i64 1] 1 186 3)]⟩],
  [⟨[[(8406, 8621), (8407, 8547), (8408, 8572)], [(8406, 8621), (8407, 8586), (8408, 8533)]], 8506, [(1, .ptr 8322 0), (14, .sl 8147 0 9 3), (15, .int .i64 9), (16, .int .i64 8)],
   [(6315, .dead), (6598, .dead), (6599, .cells [.ptr 6315 0, .mp 6598, .sl 6610 0 1 1, .nils, .nils, .sl 8406 0 2 3, .sl 8147 0 9 3, .int .i64 4084, .nils, .int .i64 0, .int .i64 0, .int .i64 2, .mp 6600] 181), (6600, .dead), (6610, .dead), (6871, .row [] 0 186 3), (7168, .row [.int .i64 0, .int .i64 0, .int .i64 1] 1 186 3), (7312, .row [] 0 186 3), (7565, .row [.int .i64 0, .int .i64 0, .int .i64 1] 1 186 3), (7660, .row [.int .i64 0, .int .i64 1, .int .i64 0] 1 186 3), (7764, .row [] 0 186 3), (7922, .row [.int .i64 0, .int .i64 0, .int .i64 1] 1 186 3), (8017, .row [.int .i64 0, .int .i64 1, .int .i64 0] 1 186 3), (8121, .row [] 0 186 3), (8147, .row [.int .i64 2, .sl 6871 0 0 3, .int .i64 1, .int .i64 1, .sl 7168 0 1 3, .int .i64 2, .int .i64 2, .sl 7312 0 0 3, .int .i64 1, .int .i64 1, .sl 7565 0 1 3, .int .i64 2, .int .i64 1, .sl 7660 0 1 3, .int .i64 2, .int .i64 2, .sl 7764 0 0 3, .int .i64 1, .int .i64 1, .sl 7922 0 1 3, .int .i64 2, .int .i64 1, .sl 8017 0 1 3, .int .i64 2, .int .i64 1, .sl 8121 0 0 3, .int .i64 1] 9 360 3), (8322, .cells [.ptr 6599 5] 369), (8406, .row [.int .i64 9, .sl 8407 0 1 3, .int .i64 2, .int .i64 8, .sl 8408 0 1 3, .int .i64 2] 2 360 3), (8407, .row [.int .i64 0, .int .i64 0, .int .i64 1] 1 186 3), (8408, .row [.int .i64 0, .int .i64 1, .int .i64 0] 1 186 3)]⟩,
  ⟨[[(8406, 8621), (8407, 8572), (8408, 8547)], [(8406, 8621), (8407, 8533), (8408, 8586)]], 8506, [(1, .ptr 8322 0), (14, .sl 8147 0 9 3), (15, .int .i64 9), (16, .int .i64 8)],
   [(6315, .dead), (6598, .dead), (6599, .cells [.ptr 6315 0, .mp 6598, .sl 6610 0 1 1, .nils, .nils, .sl 8406 0 2 3, .sl 8147 0 9 3, .int .i64 4084, .nils, .int .i64 0, .int .i64 0, .int .i64 2, .mp 6600] 181), (6600, .dead), (6610, .dead), (6871, .row [] 0 186 3), (7168, .row [.int .i64 0, .int .i64 0, .int .i64 1] 1 186 3), (7312, .row [] 0 186 3), (7565, .row [.int .i64 0, .int .i64 0, .int .i64 1] 1 186 3), (7660, .row [.int .i64 0, .int .i64 1, .int .i64 0] 1 186 3), (7764, .row [] 0 186 3), (7922, .row [.int .i64 0, .int .i64 0, .int .i64 1] 1 186 3), (8017, .row [.int .i64 0, .int .i64 1, .int .i64 0] 1 186 3), (8121, .row [] 0 186 3), (8147, .row [.int .i64 2, .sl 6871 0 0 3, .int .i64 1, .int .i64 1, .sl 7168 0 1 3, .int .i64 2, .int .i64 2, .sl 7312 0 0 3, .int .i64 1, .int .i64 1, .sl 7565 0 1 3, .int .i64 2, .int .i64 1, .sl 7660 0 1 3, .int .i64 2, .int .i64 2, .sl 7764 0 0 3, .int .i64 1, .int .i64 1, .sl 7922 0 1 3, .int .i64 2, .int .i64 1, .sl 8017 0 1 3, .int .i64 2, .int .i64 1, .sl 8121 0 0 3, .int .i64 1] 9 360 3), (8322, .cells [.ptr 6599 5] 369), (8406, .row [.int .i64 8, .sl 8407 0 1 3, .int .i64 2, .int .i64 9, .sl 8408 0 1 3, .int .i64 2] 2 360 3), (8407, .row [.int .i64 0, .int .i64 1, .int .i64 0] 1 186 3), (8408, .row [.int .i64 0, .int .i64 0, .int .i64 1] 1 186 3)]⟩],
  [⟨[[(8406, 8621), (8407, 8533), (8408, 8572)], [(8406, 8621), (8407, 8572), (8408, 8533)]], 8506, [(1, .ptr 8322 0), (14, .sl 8147 0 9 3), (15, .int .i64 9), (16, .int .i64 9)],
   [(6315, .dead), (6598, .dead), (6599, .cells [.ptr 6315 0, .mp 6598, .sl 6610 0 1 1, .nils, .nils, .sl 8406 0 2 3, .sl 8147 0 9 3, .int .i64 4084, .nils, .int .i64 0, .int .i64 0, .int .i64 2, .mp 6600] 181), (6600, .dead), (6610, .dead), (6871, .row [] 0 186 3), (7168, .row [.int .i64 0, .int .i64 0, .int .i64 1] 1 186 3), (7312, .row [] 0 186 3), (7565, .row [.int .i64 0, .int .i64 0, .int .i64 1] 1 186 3), (7660, .row [.int .i64 0, .int .i64 1, .int .i64 0] 1 186 3), (7764, .row [] 0 186 3), (7922, .row [.int .i64 0, .int .i64 0, .int .i64 1] 1 186 3), (8017, .row [.int .i64 0, .int .i64 1, .int .i64 0] 1 186 3), (8121, .row [] 0 186 3), (8147, .row [.int .i64 2, .sl 6871 0 0 3, .int .i64 1, .int .i64 1, .sl 7168 0 1 3, .int .i64 2, .int .i64 2, .sl 7312 0 0 3, .int .i64 1, .int .i64 1, .sl 7565 0 1 3, .int .i64 2, .int .i64 1, .sl 7660 0 1 3, .int .i64 2, .int .i64 2, .sl 7764 0 0 3, .int .i64 1, .int .i64 1, .sl 7922 0 1 3, .int .i64 2, .int .i64 1, .sl 8017 0 1 3, .int .i64 2, .int .i64 1, .sl 8121 0 0 3, .int .i64 1] 9 360 3), (8322, .cells [.ptr 6599 5] 369), (8406, .row [.int .i64 10, .sl 8407 0 1 3, .int .i64 2, .int .i64 9, .sl 8408 0 1 3, .int .i64 2] 2 360 3), (8407, .row [.int .i64 0, .int .i64 0, .int .i64 1] 1 186 3), (8408, .row [.int .i64 0, .int .i64 1, .int .i64 0] 1 186 3)]⟩,
  ⟨[[(8406, 8621), (8407, 8572), (8408, 8533)], [(8406, 8621), (8407, 8533), (8408, 8572)]], 8506, [(1, .ptr 8322 0), (14, .sl 8147 0 9 3), (15, .int .i64 9), (16, .int .i64 9)],
   [(6315, .dead), (6598, .dead), (6599, .cells [.ptr 6315 0, .mp 6598, .sl 6610 0 1 1, .nils, .nils, .sl 8406 0 2 3, .sl 8147 0 9 3, .int .i64 4084, .nils, .int .i64 0, .int .i64 0, .int .i64 2, .mp 6600] 181), (6600, .dead), (6610, .dead), (6871, .row [] 0 186 3), (7168, .row [.int .i64 0, .int .i64 0, .int .i64 1] 1 186 3), (7312, .row [] 0 186 3), (7565, .row [.int .i64 0, .int .i64 0, .int .i64 1] 1 186 3), (7660, .row [.int .i64 0, .int .i64 1, .int .i64 0] 1 186 3), (7764, .row [] 0 186 3), (7922, .row [.int .i64 0, .int .i64 0, .int .i64 1] 1 186 3), (8017, .row [.int .i64 0, .int .i64 1, .int .i64 0] 1 186 3), (8121, .row [] 0 186 3), (8147, .row [.int .i64 2, .sl 6871 0 0 3, .int .i64 1, .int .i64 1, .sl 7168 0 1 3, .int .i64 2, .int .i64 2, .sl 7312 0 0 3, .int .i64 1, .int .i64 1, .sl 7565 0 1 3, .int .i64 2, .int .i64 1, .sl 7660 0 1 3, .int .i64 2, .int .i64 2, .sl 7764 0 0 3, .int .i64 1, .int .i64 1, .sl 7922 0 1 3, .int .i64 2, .int .i64 1, .sl 8017 0 1 3, .int .i64 2, .int .i64 1, .sl 8121 0 0 3, .int .i64 1] 9 360 3), (8322, .cells [.ptr 6599 5] 369), (8406, .row [.int .i64 9, .sl 8407 0 1 3, .int .i64 2, .int .i64 10, .sl 8408 0 1 3, .int .i64 2] 2 360 3), (8407, .row [.int .i64 0, .int .i64 1, .int .i64 0] 1 186 3), (8408, .row [.int .i64 0, .int .i64 0, .int .i64 1] 1 186 3)]⟩]]
noncomputable def orcS : Orc := ⟨fun f => Nat.beq f 55 || Nat.beq f 72 || Nat.beq f 57, dgX, lrG fun n => bif Nat.beq n 8323 then some gd5 else none⟩
theorem orcS_run : CallOk Tryz.prog orcS.run := @dgX_ok
def kS : Kept := ⟨206, [.ptr 6599 5], 8322,
  [(6315, .dead), (6598, .dead), (6599, .cells [.ptr 6315 0, .mp 6598, .sl 6610 0 1 1, .nils, .nils, .slx 6841 0 1 1, .sl 8147 0 9 3, .int .i64 4084, .nils, .int .i64 0, .int .i64 0, .int .i64 2, .mp 6600] 181), (6600, .dead), (6610, .dead), (6841, .cells [.int .i64 0, .nils, .int .i64 1] 360), (6871, .row [] 0 186 3), (7168, .row [.int .i64 0, .int .i64 0, .int .i64 1] 1 186 3), (7312, .row [] 0 186 3), (7565, .row [.int .i64 0, .int .i64 0, .int .i64 1] 1 186 3), (7660, .row [.int .i64 0, .int .i64 1, .int .i64 0] 1 186 3), (7764, .row [] 0 186 3), (7922, .row [.int .i64 0, .int .i64 0, .int .i64 1] 1 186 3), (8017, .row [.int .i64 0, .int .i64 1, .int .i64 0] 1 186 3), (8121, .row [] 0 186 3), (8147, .row [.int .i64 2, .sl 6871 0 0 3, .int .i64 1, .int .i64 1, .sl 7168 0 1 3, .int .i64 2, .int .i64 2, .sl 7312 0 0 3, .int .i64 1, .int .i64 1, .sl 7565 0 1 3, .int .i64 2, .int .i64 1, .sl 7660 0 1 3, .int .i64 2, .int .i64 2, .sl 7764 0 0 3, .int .i64 1, .int .i64 1, .sl 7922 0 1 3, .int .i64 2, .int .i64 1, .sl 8017 0 1 3, .int .i64 2, .int .i64 1, .sl 8121 0 0 3, .int .i64 1] 9 360 3)],
  [(false, .tup [],
  [(6315, .dead), (6598, .dead), (6599, .cells [.ptr 6315 0, .mp 6598, .sl 6610 0 1 1, .nils, .nils, .sl 8406 0 2 3, .nils, .int .i64 4086, .nils, .int .i64 0, .int .i64 0, .int .i64 2, .mp 6600] 181), (6600, .dead), (6610, .dead), (6841, .dead), (6871, .row [] 0 186 3), (7168, .row [.int .i64 0, .int .i64 0, .int .i64 1] 1 186 3), (7312, .row [] 0 186 3), (7565, .row [.int .i64 0, .int .i64 0, .int .i64 1] 1 186 3), (7660, .row [.int .i64 0, .int .i64 1, .int .i64 0] 1 186 3), (7764, .row [] 0 186 3), (7922, .row [.int .i64 0, .int .i64 0, .int .i64 1] 1 186 3), (8017, .row [.int .i64 0, .int .i64 1, .int .i64 0] 1 186 3), (8121, .row [] 0 186 3), (8147, .row [.int .i64 2, .sl 6871 0 0 3, .int .i64 1, .int .i64 1, .sl 7168 0 1 3, .int .i64 2, .int .i64 2, .sl 7312 0 0 3, .int .i64 1, .int .i64 1, .sl 7565 0 1 3, .int .i64 2, .int .i64 1, .sl 7660 0 1 3, .int .i64 2, .int .i64 2, .sl 7764 0 0 3, .int .i64 1, .int .i64 1, .sl 7922 0 1 3, .int .i64 2, .int .i64 1, .sl 8017 0 1 3, .int .i64 2, .int .i64 1, .sl 8121 0 0 3, .int .i64 1] 9 360 3), (8406, .dead)], 8519)]⟩
theorem kS_kb : keptB (goX Tryz.prog orcS 300) kS = true := by decide +kernel
theorem kS_ok : CallOk Tryz.prog (keptX kS) := @keptX_ok Tryz.prog (goX Tryz.prog orcS 300) (@eval_call Tryz.prog noNG orcS @orcS_run (@lrG_ok _ _) hmix 300) kS kS_kb
end Go.X
