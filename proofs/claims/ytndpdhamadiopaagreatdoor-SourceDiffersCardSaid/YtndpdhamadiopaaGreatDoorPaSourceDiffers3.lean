/- Parts of the walk, put together by a program. By an AI agent. -/
import Derived.Test.YtndpdhamadiopaaGreatDoorPaSourceDiffers2
set_option linter.unusedSimpArgs false
set_option linter.unusedVariables false
namespace Dg
def hasVar (v : Nat) : BT → Prop
 | .lf _ => False
 | .nd x l h => v = x ∨ hasVar v l ∨ hasVar v h
theorem sup_bit (j : Nat) : ∀ (l : List Dec) (s : Nat), (l.foldl (fun s x => s ||| 2 ^ x.1) s).testBit j = true ↔ s.testBit j = true ∨ ∃ x ∈ l, x.1 = j
 | [], s => by simp
 | x :: l, s => by
  rw [List.foldl_cons, sup_bit j l, Nat.testBit_or, Nat.testBit_two_pow]
  simp
  constructor
  ·rintro ((h | h) | h)
   ·exact .inl h
   ·exact .inr (.inl h)
   ·exact .inr (.inr h)
  ·rintro (h | h | h)
   ·exact .inl (.inl h)
   ·exact .inl (.inr h)
   ·exact .inr h
theorem visitT_var (t : BT) : ∀ (out : List Dec), ∀ x ∈ (visitT t out).1, x ∈ out ∨ hasVar x.1 t := by
 induction t with
 | lf b => intro out x h; left; simpa [visitT] using h
 | nd v lo hi ihl ihh =>
  intro out x h
  unfold visitT at h
  cases hl : look out (.nd v lo hi) with
  | some p => rw [hl] at h; exact .inl h
  | none =>
   rw [hl] at h
   rcases List.mem_append.1 h with h | h
   ·rcases ihh _ x h with h | h
    ·rcases ihl _ x h with h | h
     ·exact .inl h
     ·exact .inr (.inr (.inl h))
    ·exact .inr (.inr (.inr h))
   ·rw [List.mem_singleton.1 h]; exact .inr (.inl rfl)
theorem trs_var {l : List Dec} (hm : Mk l) {v : Nat} : ∀ (t : BT) (p : Nat), p < l.length + 2 → trs l p = t → hasVar v t → ∃ x ∈ l, x.1 = v
 | .lf _, _, _, _, h => h.elim
 | .nd y lo hi, p, hp, he, h => by
  have h2 : 2 ≤ p := by
   rcases p with _ | _ | p
   ·rw [(trs_zero l).1] at he; cases he
   ·rw [(trs_zero l).2] at he; cases he
   ·omega
  obtain ⟨x, hx⟩ : ∃ x, l[p - 2]? = some x := ⟨_, List.getElem?_eq_getElem (by omega)⟩
  have ha := hm.at hx
  rw [show p - 2 + 2 = p by omega, he] at ha
  injection ha with h3 h4 h5
  have hk := hm.kid _ x hx
  have hxm := List.mem_of_getElem? hx
  rcases h with h | h | h
  ·exact ⟨x, hxm, by rw [h, h3]⟩
  ·exact trs_var hm lo x.2.1 (by have := (List.getElem?_eq_some_iff.1 hx).1; omega) h4.symm h
  ·exact trs_var hm hi x.2.2 (by have := (List.getElem?_eq_some_iff.1 hx).1; omega) h5.symm h
theorem sup_var {t : BT} (ho : t.ok 0) (v : Nat) : (supT (canon t).1).testBit v = true ↔ hasVar v t := by
 unfold supT
 rw [sup_bit]
 constructor
 ·rintro (h | ⟨x, hx, rfl⟩)
  ·simp at h
  ·rcases visitT_var t [] x hx with h | h
   ·cases h
   ·exact h
 ·intro h
  obtain ⟨x, hx, he⟩ := trs_var (canon_mk ho) t (canon t).2 (canon_at t).1 (canon_at t).2 h
  exact .inr ⟨x, hx, he⟩
theorem upd_comm (c : Cf) {x v : Nat} (a b : Bool) (h : x ≠ v) : upd (upd c v b) x a = upd (upd c x a) v b := by
 funext j
 unfold upd
 by_cases h1 : j = x
 ·subst h1; rw [if_pos rfl, if_neg h, if_pos rfl]
 ·rw [if_neg h1]
  by_cases h2 : j = v
  ·rw [if_pos h2, if_pos h2]
  ·rw [if_neg h2, if_neg h2, if_neg h1]
theorem not_var : ∀ {t : BT} {m v : Nat}, t.ok m → (∀ c, t.ev (upd c v false) = t.ev (upd c v true)) → ¬ hasVar v t
 | .lf _, _, _, _, _ => fun h => h
 | .nd x l h, m, v, ho, hi => by
  have ho' := ho
  obtain ⟨h1, h2, h3, h4, h5⟩ := ho'
  have hl : ∀ c, l.ev c = (BT.nd x l h).ev (upd c x false) := fun c => (BT.ev_lo ho c).symm
  have hh : ∀ c, h.ev c = (BT.nd x l h).ev (upd c x true) := fun c => (BT.ev_hi ho c).symm
  rintro (rfl | hv | hv)
  ·exact h3 (BT.unique h4 h5 fun c => by rw [hl, hh]; exact hi c)
  ·by_cases hx : x = v
   ·subst hx
    exact h3 (BT.unique h4 h5 fun c => by rw [hl, hh]; exact hi c)
   ·exact not_var h4 (fun c => by rw [hl, hl, upd_comm c _ _ hx, upd_comm c _ _ hx]; exact hi _) hv
  ·by_cases hx : x = v
   ·subst hx
    exact h3 (BT.unique h4 h5 fun c => by rw [hl, hh]; exact hi c)
   ·exact not_var h5 (fun c => by rw [hh, hh, upd_comm c _ _ hx, upd_comm c _ _ hx]; exact hi _) hv
theorem no_var : ∀ {t : BT} {v : Nat}, ¬ hasVar v t → ∀ (c : Cf) (b : Bool), t.ev (upd c v b) = t.ev c
 | .lf _, _, _, _, _ => rfl
 | .nd x l h, v, hn, c, b => by
  have hx : x ≠ v := fun e => hn (.inl e.symm)
  simp only [BT.ev]
  rw [no_var (fun hv => hn (.inr (.inl hv))) c b, no_var (fun hv => hn (.inr (.inr hv))) c b, upd_ne c b hx]
theorem sup_dep {t : BT} (ho : t.ok 0) (v : Nat) : (supT (canon t).1).testBit v = true ↔ ∃ c, t.ev (upd c v false) ≠ t.ev (upd c v true) := by
 rw [sup_var ho]
 constructor
 ·intro h
  refine Classical.byContradiction fun hn => ?_
  exact not_var ho (fun c => Classical.byContradiction fun hc => hn ⟨c, hc⟩) h
 ·rintro ⟨c, hc⟩
  refine Classical.byContradiction fun hn => hc ?_
  rw [no_var hn, no_var hn]
theorem sup_fold {n : Nat} : ∀ (l : List Dec) (s : Nat), (∀ x ∈ l, x.1 < n) → s < 2 ^ n → l.foldl (fun s x => s ||| 2 ^ x.1) s < 2 ^ n
 | [], s, _, h => h
 | x :: l, s, hx, h => sup_fold l _ (fun y hy => hx y (List.mem_cons_of_mem _ hy)) (Nat.or_lt_two_pow h (Nat.pow_lt_pow_right (by decide) (hx x (List.mem_cons_self ..))))
theorem supT_take {l : List Dec} {k : Nat} {x : Dec} (h : l[k]? = some x) : supT (l.take (k + 1)) = supT (l.take k) ||| 2 ^ x.1 := by
 unfold supT
 rw [List.take_add_one, h]
 simp
end Dg
namespace Dg
def dep (f : Nat) (ev : Cf → Bool) : Prop := ∀ c c' : Cf, (∀ k, f.testBit k = true → c k = c' k) → ev c = ev c'
theorem cubeB_dep {on off f : Nat} (h : ∀ k, k < 24 → (on.testBit k = true ∨ off.testBit k = true) → f.testBit k = true) : dep f (cubeB on off 0) := fun c c' hc => by
 unfold cubeB
 rw [Bool.eq_iff_iff, List.all_eq_true, List.all_eq_true]
 have key : ∀ j, j < 24 → (((!on.testBit j || c j) && (!off.testBit j || !c j)) = ((!on.testBit j || c' j) && (!off.testBit j || !c' j))) := fun j hj => by
  cases h1 : on.testBit j with
  | true => rw [hc j (h j hj (.inl h1))]
  | false =>
   cases h2 : off.testBit j with
   | true => rw [hc j (h j hj (.inr h2))]
   | false => rfl
 constructor
 ·intro ha j hj
  rw [← key j (List.mem_range.1 hj)]; exact ha j hj
 ·intro ha j hj
  rw [key j (List.mem_range.1 hj)]; exact ha j hj
theorem sup_in {t : BT} {f : Nat} (ho : t.ok 0) (h : dep f t.ev) {v : Nat} (hv : (supT (canon t).1).testBit v = true) : f.testBit v = true := by
 obtain ⟨c, hc⟩ := (sup_dep ho v).1 hv
 cases hf : f.testBit v with
 | true => rfl
 | false =>
  exfalso
  refine hc (h _ _ fun k hk => ?_)
  have hne : k ≠ v := fun e => by rw [e, hf] at hk; cases hk
  simp [upd, hne]
end Dg
namespace Dg
def cfgsN (u : Nat) : Nat → List Nat
 | 0 => [0]
 | k + 1 => if u.testBit k then cfgsN u k ++ (cfgsN u k).map (fun c => c ||| 2 ^ k) else cfgsN u k
theorem or_pow {c k : Nat} (h : c < 2 ^ k) : c ||| 2 ^ k = 2 ^ k + c := by
 have := Nat.two_pow_add_eq_or_of_lt h 1
 rw [Nat.mul_one] at this
 rw [Nat.or_comm, this]
theorem mem_cfgsN {u c : Nat} : ∀ {k : Nat}, c ∈ cfgsN u k ↔ c < 2 ^ k ∧ ∀ i, c.testBit i = true → u.testBit i = true
 | 0 => by
  simp only [cfgsN, List.mem_singleton, Nat.pow_zero]
  constructor
  ·rintro rfl; exact ⟨by decide, fun i h => by simp at h⟩
  ·rintro ⟨h, _⟩; omega
 | k + 1 => by
  have ih : ∀ c, c ∈ cfgsN u k ↔ c < 2 ^ k ∧ ∀ i, c.testBit i = true → u.testBit i = true := fun c => mem_cfgsN (c := c) (k := k)
  have hp : 2 ^ (k + 1) = 2 ^ k + 2 ^ k := by rw [Nat.pow_succ]; omega
  have big : ∀ {d : Nat}, d < 2 ^ k → ∀ i, (d ||| 2 ^ k).testBit i = (d.testBit i || decide (i = k)) := fun {d} _ i => by
   rw [Nat.testBit_or, Nat.testBit_two_pow]
   congr 1
   exact decide_eq_decide.2 eq_comm
  have high : c < 2 ^ k → c.testBit k = false := fun h => Nat.testBit_lt_two_pow h
  have split : ¬ c < 2 ^ k → c < 2 ^ (k + 1) → ∃ d, d < 2 ^ k ∧ c = d ||| 2 ^ k := fun h1 h2 => ⟨c - 2 ^ k, by omega, by rw [or_pow (by omega)]; omega⟩
  unfold cfgsN
  by_cases hu : u.testBit k = true
  ·rw [if_pos hu, List.mem_append, List.mem_map, ih]
   constructor
   ·rintro (⟨h1, h2⟩ | ⟨d, hd, rfl⟩)
    ·exact ⟨by omega, h2⟩
    ·obtain ⟨h1, h2⟩ := (ih d).1 hd
     refine ⟨by rw [or_pow h1]; omega, fun i hi => ?_⟩
     rw [big h1, Bool.or_eq_true, decide_eq_true_eq] at hi
     rcases hi with hi | rfl
     ·exact h2 i hi
     ·exact hu
   ·rintro ⟨h1, h2⟩
    by_cases hc : c < 2 ^ k
    ·exact .inl ⟨hc, h2⟩
    ·obtain ⟨d, hd, rfl⟩ := split hc h1
     refine .inr ⟨d, (ih d).2 ⟨hd, fun i hi => h2 i (by rw [big hd, hi]; rfl)⟩, rfl⟩
  ·rw [if_neg hu, ih]
   constructor
   ·rintro ⟨h1, h2⟩; exact ⟨by omega, h2⟩
   ·rintro ⟨h1, h2⟩
    refine ⟨?_, h2⟩
    by_cases hc : c < 2 ^ k
    ·exact hc
    ·obtain ⟨d, hd, rfl⟩ := split hc h1
     exact absurd (h2 k (by rw [big hd]; simp)) hu
theorem cfgsN_up (u : Nat) : ∀ k, (cfgsN u k).Pairwise (· < ·)
 | 0 => List.pairwise_singleton _ _
 | k + 1 => by
  have ih := cfgsN_up u k
  unfold cfgsN
  split
  ·have hlt : ∀ c ∈ cfgsN u k, c < 2 ^ k := fun c hc => (mem_cfgsN.1 hc).1
   refine List.pairwise_append.2 ⟨ih, ?_, fun c hc d hd => ?_⟩
   ·rw [List.pairwise_map]
    refine ih.imp_of_mem fun {a b} ha hb h => ?_
    rw [or_pow (hlt a ha), or_pow (hlt b hb)]
    omega
   ·obtain ⟨e, he, rfl⟩ := List.mem_map.1 hd
    have := hlt c hc
    rw [or_pow (hlt e he)]
    omega
  ·exact ih
theorem cfgsN_nodup (u k : Nat) : (cfgsN u k).Nodup := (cfgsN_up u k).imp fun h => Nat.ne_of_lt h
abbrev cfgs (u : Nat) : List Nat := cfgsN u 32
abbrev QB := Nat × Nat
def setF (l : List QB) : Cf → Bool := fun c => l.any fun q => cubeB q.1 q.2 0 c
def inQ (q : QB) (c : Nat) : Bool := decide (c &&& q.1 &&& 16777215 = q.1 &&& 16777215) && decide (c &&& q.2 &&& 16777215 = 0)
def inN (l : List QB) (c : Nat) : Bool := l.any fun q => inQ q c
theorem bit24 (i : Nat) : (16777215 : Nat).testBit i = decide (i < 24) := by
 rw [show (16777215 : Nat) = 2 ^ 24 - 1 from rfl, Nat.testBit_two_pow_sub_one]
theorem inQ_cube (q : QB) (c : Nat) : inQ q c = cubeB q.1 q.2 0 (cfg c) := by
 unfold inQ cubeB cfg
 rw [Bool.eq_iff_iff, Bool.and_eq_true, decide_eq_true_eq, decide_eq_true_eq, List.all_eq_true]
 constructor
 ·rintro ⟨h1, h2⟩ j hj
  have hj := List.mem_range.1 hj
  have e1 := congrArg (fun x => Nat.testBit x j) h1
  have e2 := congrArg (fun x => Nat.testBit x j) h2
  simp only [Nat.testBit_and, bit24, Nat.zero_testBit, decide_eq_true hj, Bool.and_true] at e1 e2
  cases h3 : q.1.testBit j <;> cases h4 : q.2.testBit j <;> cases h5 : c.testBit j <;> simp_all
 ·intro h
  constructor
  ·refine Nat.eq_of_testBit_eq fun j => ?_
   simp only [Nat.testBit_and, bit24]
   by_cases hj : j < 24
   ·have := h j (List.mem_range.2 hj)
    cases h3 : q.1.testBit j <;> cases h4 : q.2.testBit j <;> cases h5 : c.testBit j <;> simp_all
   ·simp [hj]
  ·refine Nat.eq_of_testBit_eq fun j => ?_
   simp only [Nat.testBit_and, bit24, Nat.zero_testBit]
   by_cases hj : j < 24
   ·have := h j (List.mem_range.2 hj)
    cases h3 : q.1.testBit j <;> cases h4 : q.2.testBit j <;> cases h5 : c.testBit j <;> simp_all
   ·simp [hj]
theorem inN_set (l : List QB) (c : Nat) : inN l c = setF l (cfg c) := by
 unfold inN setF
 congr 1
 funext q
 exact inQ_cube q c
def orQ (u : Nat) (l : List QB) : Nat := l.foldl (fun u q => u ||| q.1 ||| q.2) u
def bitsQ (l : List QB) : Nat := orQ 0 l &&& 16777215
theorem orQ_bit : ∀ (l : List QB) (u i : Nat), (orQ u l).testBit i = (u.testBit i || l.any fun q => q.1.testBit i || q.2.testBit i)
 | [], u, i => by simp [orQ]
 | q :: l, u, i => by
  have := orQ_bit l (u ||| q.1 ||| q.2) i
  unfold orQ at this ⊢
  rw [List.foldl_cons, this, Nat.testBit_or, Nat.testBit_or, List.any_cons]
  simp only [Bool.or_assoc]
theorem bitsQ_lt (l : List QB) : bitsQ l < 2 ^ 24 := by
 unfold bitsQ
 have := Nat.and_le_right (n := orQ 0 l) (m := 16777215)
 omega
def inU (l : List QB) (u : Nat) : Prop := ∀ i, i < 24 → (bitsQ l).testBit i = true → u.testBit i = true
theorem setF_dep {l : List QB} {u : Nat} (h : inU l u) : dep u (setF l) := by
 intro c c' hc
 unfold setF
 rw [Bool.eq_iff_iff, List.any_eq_true, List.any_eq_true]
 have one : ∀ q ∈ l, cubeB q.1 q.2 0 c = cubeB q.1 q.2 0 c' := fun q hq => by
  refine cubeB_dep (f := u) (fun k hk hb => h k hk ?_) c c' hc
  unfold bitsQ
  rw [Nat.testBit_and, bit24, decide_eq_true hk, Bool.and_true, orQ_bit]
  simp only [Nat.zero_testBit, Bool.false_or]
  rw [List.any_eq_true]
  exact ⟨q, hq, by rcases hb with hb | hb <;> simp [hb]⟩
 constructor
 ·rintro ⟨q, hq, h2⟩; exact ⟨q, hq, by rw [← one q hq]; exact h2⟩
 ·rintro ⟨q, hq, h2⟩; exact ⟨q, hq, by rw [one q hq]; exact h2⟩
def thoseF (u : Nat) (f : Cf → Bool) : List Nat := (cfgs u).filter fun c => f (cfg c)
def thoseL (l : List QB) (u : Nat) : List Nat := (cfgs u).filter (inN l)
def onU (u : Nat) (c : Cf) : Nat → Nat
 | 0 => 0
 | k + 1 => if u.testBit k && c k then onU u c k ||| 2 ^ k else onU u c k
def alikeF (t : BT) (l : List Nat) (u : Nat) : Bool := decide (l = thoseF u t.ev) && decide (supT (canon t).1 &&& (4294967295 - u) = 0)
theorem alike_good {t : BT} {u : Nat} {f : Cf → Bool} (ho : t.ok 0) (he : ∀ c, t.ev c = f c) (hf : dep u f) (hu : u < 2 ^ 32) : alikeF t (thoseF u f) u = true := by
 unfold alikeF
 have e : t.ev = f := funext he
 rw [e, decide_eq_true rfl, Bool.true_and, decide_eq_true_eq]
 refine Nat.eq_of_testBit_eq fun i => ?_
 rw [Nat.testBit_and, Nat.zero_testBit]
 cases hs : (supT (canon t).1).testBit i with
 | false => rfl
 | true =>
  have := sup_in (f := u) ho (by rw [e]; exact hf) hs
  rw [Bool.true_and]
  rw [show 4294967295 - u = 2 ^ 32 - (u + 1) by omega, Nat.testBit_two_pow_sub_succ hu, this]
  simp
end Dg
namespace Go.Proofs.YtndpdhamadiopaaGreatDoor
open Go Go.Eng Go.Proofs Dg
abbrev LM : Nat := 140737488351232
abbrev qC (q : QB) : List Value := [.int .u32 (q.1 : Int), .int .u32 (q.2 : Int)]
def qOk (q : QB) : Prop := q.1 < 4294967296 ∧ q.2 < 4294967296
structure ItV where
 k : Nat
 t : List UInt8
 p : List Int
 pa : Option Addr
 pc : Nat
 f : Int
 l : Int
 q : List QB
 qa : Option Addr
 qc : Nat
abbrev itC (x : ItV) : List Value := [.int .u8 (x.k : Int), .string (str x.t), .slice x.pa x.p.length x.pc, .int .i64 x.f, .int .i64 x.l, .slice x.qa x.q.length x.qc]
structure ItR (w : World) (x : ItV) : Prop where
 k : x.k < 256
 t : x.t.length ≤ LM
 pl : x.p.length ≤ LM
 p : RdC w x.p x.pa
 ql : x.q.length ≤ LM
 q : RdSl qC 2 w x.q x.qa
 qo : ∀ y ∈ x.q, qOk y
structure NoV where
 k : Nat
 p : List Int
 pa : Option Addr
 pc : Nat
 f : Int
 l : Int
 q : List QB
 qa : Option Addr
 qc : Nat
abbrev noC (x : NoV) : List Value := [.int .u8 (x.k : Int), .slice x.pa x.p.length x.pc, .int .i64 x.f, .int .i64 x.l, .slice x.qa x.q.length x.qc]
structure NoR (w : World) (x : NoV) : Prop where
 k : x.k < 256
 pl : x.p.length ≤ LM
 p : RdC w x.p x.pa
 ql : x.q.length ≤ LM
 q : RdSl qC 2 w x.q x.qa
 qo : ∀ y ∈ x.q, qOk y
structure RwV where
 i : List ItV
 ia : Option Addr
 ic : Nat
 n : List NoV
 na : Option Addr
 nc : Nat
abbrev rwC (x : RwV) : List Value := [.slice x.ia x.i.length x.ic, .slice x.na x.n.length x.nc]
structure RwR (w : World) (x : RwV) : Prop where
 il : x.i.length ≤ LM
 i : RdSl itC 6 w x.i x.ia
 io : ∀ y ∈ x.i, ItR w y
 nl : x.n.length ≤ LM
 n : RdSl noC 5 w x.n x.na
 no : ∀ y ∈ x.n, NoR w y
section
variable {w0 w : World} {C : List Chunk}
theorem ItR.next {x : ItV} (h : ItR w0 x) (hS : St w0 [] C w) : ItR w x := ⟨h.k, h.t, h.pl, h.p.next hS, h.ql, h.q.next hS, h.qo⟩
theorem NoR.next {x : NoV} (h : NoR w0 x) (hS : St w0 [] C w) : NoR w x := ⟨h.k, h.pl, h.p.next hS, h.ql, h.q.next hS, h.qo⟩
theorem RwR.next {x : RwV} (h : RwR w0 x) (hS : St w0 [] C w) : RwR w x := ⟨h.il, h.i.next hS, fun y hy => (h.io y hy).next hS, h.nl, h.n.next hS, fun y hy => (h.no y hy).next hS⟩
end
structure TkV where
 x : ItV
 d : BT
 da : Option Addr
 dc : Nat
abbrev tkC (y : TkV) : List Value := [.int .u8 (y.x.k : Int), .string (str y.x.t), .slice y.x.pa y.x.p.length y.x.pc, .int .i64 y.x.f, .int .i64 y.x.l, .slice y.da (canon y.d).1.length y.dc, .int .i64 ((canon y.d).2 : Int)]
structure RtV where
 x : ItV
 c : List Nat
 ca : Option Addr
 cc : Nat
abbrev rtC (y : RtV) : List Value := [.int .u8 (y.x.k : Int), .string (str y.x.t), .slice y.x.pa y.x.p.length y.x.pc, .int .i64 y.x.f, .int .i64 y.x.l, .slice y.ca y.c.length y.cc]
structure DgV where
 x : NoV
 d : BT
 da : Option Addr
 dc : Nat
abbrev dgC (y : DgV) : List Value := [.int .u8 (y.x.k : Int), .slice y.x.pa y.x.p.length y.x.pc, .int .i64 y.x.f, .int .i64 y.x.l, .slice y.da (canon y.d).1.length y.dc, .int .i64 ((canon y.d).2 : Int)]
structure RgV where
 x : NoV
 c : List Nat
 ca : Option Addr
 cc : Nat
abbrev rgC (y : RgV) : List Value := [.int .u8 (y.x.k : Int), .slice y.x.pa y.x.p.length y.x.pc, .int .i64 y.x.f, .int .i64 y.x.l, .slice y.ca y.c.length y.cc]
abbrev nC (n : Nat) : List Value := [.int .u32 (n : Int)]
abbrev RdN (w : World) (l : List Nat) (a : Option Addr) : Prop := RdSl nC 1 w l a
open Go Go.Eng Go.Proofs Dg Go.ChangeShapes Go.WideShapes Go.ChangeAt Go.RowKit Go.ChangeMaps
section
variable {H : Type} {enc : TypeId × Value → H} {W : World} {base : Nat} {held : Bool}
abbrev Wt {H : Type} (t : TypeId) (d : DataW H) : Prop := ∀ n ∈ d.weights Tryz.prog t, n ≤ LM
theorem weightsAll_mem6 {H : Type} {e : TypeId} : ∀ {l : List (DataW H)} {d : DataW H}, d ∈ l → ∀ n ∈ d.weights Tryz.prog e, n ∈ DataW.weightsAll Tryz.prog e l
 | d' :: r, d, hd, n, hn => by
  simp only [DataW.weightsAll, List.mem_append]
  rcases List.mem_cons.1 hd with rfl | h
  ·exact Or.inl hn
  ·exact Or.inr (weightsAll_mem6 h n hn)
theorem open_sl {α : Type} {cells : α → List Value} {φ : α → Prop} {ts te : TypeId} {sz : Nat} (hts : Tryz.prog.underlying ts = some (.slice te)) (hsz : Tryz.prog.cellsOf te = sz) {kb : Nat} (hkb : Tryz.prog.bytesOf te = kb) (hkp : 0 < kb) (hpos : 0 < sz) (hlen : ∀ y, (cells y).length = sz)
  (he : ∀ {fuel : Nat} {cs : List Value} {x : DataW H × List MemPlace}, DataW.trod enc Tryz.prog W 0 (fun _ => true) held fuel te cs = some x → Wt te x.1 → ∃ y : α, cs = cells y ∧ φ y)
  {fuel : Nat} {cs : List Value} {x : DataW H × List MemPlace} (h : DataW.trod enc Tryz.prog W 0 (fun _ => true) held fuel ts cs = some x) (hwt : Wt ts x.1) :
  ∃ (l : List α) (a : Option Addr) (k : Nat), cs = [.slice a l.length k] ∧ l.length ≤ LM ∧ RdSl cells sz W l a ∧ ∀ y ∈ l, φ y := by
 rcases DataW.trod_slice hts h with ⟨h1, _⟩ | ⟨a', len, cap, elems, rest, m, _, h1, hxx, _, hlc, hcm, hel0, hel, _⟩
 ·exact ⟨[], none, 0, h1, Nat.zero_le _, fun i x hx => by simp at hx, by simp⟩
 ·rw [hsz] at hel
  have hwt2 : ∀ n ∈ ((elems.map (·.1)).length + (rest.map (·.1)).length) * Tryz.prog.bytesOf te :: (DataW.weightsAll Tryz.prog te (elems.map (·.1)) ++ DataW.weightsAll Tryz.prog te (rest.map (·.1))), n ≤ LM := fun n hn => hwt n (by rw [hxx]; simp only [DataW.weights, hts]; exact hn)
  have hlm : len ≤ LM := by
   have h9 := hwt2 _ (List.mem_cons_self ..)
   rw [hkb, List.length_map, List.length_map, hel0] at h9
   exact Nat.le_trans (Nat.le_trans (Nat.le_add_right len rest.length) (Nat.le_mul_of_pos_right _ hkp)) h9
  have hwe : ∀ z ∈ elems, Wt te z.1 := fun z hz n hn => hwt2 n (List.mem_cons_of_mem _ (List.mem_append_left _ (weightsAll_mem6 (List.mem_map_of_mem hz) n hn)))
  have each : ∀ i, i < len → ∃ y : α, W.cells? 0 (a'.add (i * sz)) sz = some (cells y) ∧ φ y := fun i hi => by
   have h1 := hel i hi
   have h2 : elems[i]? = some (elems[i]'(by omega)) := List.getElem?_eq_getElem _
   rw [h2] at h1
   obtain ⟨cs', h3, h4⟩ := Option.bind_eq_some_iff.1 h1
   obtain ⟨y, rfl, h5⟩ := he h4 (hwe _ (List.getElem_mem ..))
   exact ⟨y, h3, h5⟩
  obtain ⟨l, hl, hP⟩ := list_of len each
  refine ⟨l, some a', cap, by rw [h1, hl], by omega, fun i x hx => ?_, fun x hx => ?_⟩
  ·obtain ⟨h1, _⟩ := hP i x hx
   obtain ⟨_, _, h2⟩ := World.cells?_some h1
   have hil : i < len := by have := (List.getElem?_eq_some_iff.1 hx).1; omega
   obtain ⟨y0, hy0, _⟩ := each 0 (by omega)
   obtain ⟨_, _, g2⟩ := World.cells?_some hy0
   obtain ⟨u0, hu0⟩ : ∃ u, (cells y0)[0]? = some u := ⟨_, List.getElem?_eq_getElem (by rw [hlen]; exact hpos)⟩
   have g20 := g2 0 hpos
   rw [hu0] at g20
   have ha0 : a'.add 0 = a' := by simp [Addr.add]
   rw [Nat.zero_mul, ha0, ha0] at g20
   have hs := cell_spot g20
   obtain ⟨b, off, spot⟩ := a'
   simp only at hs
   subst hs
   refine ⟨b, off, rfl, fun j u hu => ?_⟩
   have hj : j < sz := by have := (List.getElem?_eq_some_iff.1 hu).1; rw [hlen] at this; exact this
   have h4 := h2 j hj
   rw [hu, add_blk, add_blk] at h4
   exact h4
  ·obtain ⟨i, hi⟩ := List.getElem?_of_mem hx
   exact (hP i x hi).2
theorem open_int1 {fuel : Nat} {cs : List Value} {x : DataW H × List MemPlace} (h : DataW.trod enc Tryz.prog W 0 (fun _ => true) held fuel 3 cs = some x) (_ : Wt 3 x.1) : ∃ y : Int, cs = [Value.int .i64 y] ∧ True := by
 obtain ⟨n, e, _, _⟩ := DataW.trod_int undInt6 h
 exact ⟨n, e, trivial⟩
theorem open_ints6 {fuel : Nat} {cs : List Value} {x : DataW H × List MemPlace} (h : DataW.trod enc Tryz.prog W 0 (fun _ => true) held fuel 70 cs = some x) (hwt : Wt 70 x.1) : ∃ (l : List Int) (a : Option Addr) (k : Nat), cs = [.slice a l.length k] ∧ l.length ≤ LM ∧ RdC W l a := by
 obtain ⟨l, a, k, e, hl, hr, _⟩ := open_sl (cells := fun z : Int => [Value.int .i64 z]) (φ := fun _ => True) undInts6 cellsInt6 (show Tryz.prog.bytesOf 3 = 8 by kernel_rfl) (by decide) (by decide) (fun _ => rfl) open_int1 h hwt
 exact ⟨l, a, k, e, hl, fun j x hx => by
  obtain ⟨b, off, e, hc⟩ := hr j x hx
  have := hc 0 _ rfl
  rw [Nat.mul_one, Nat.add_zero] at this
  exact ⟨b, off, e, this⟩⟩
noncomputable def fsCube : Array Field := match Tryz.prog.underlying 128 with
 | some (.struct fs) => fs
 | _ => #[]
theorem undCube' : Tryz.prog.underlying 128 = some (.struct fsCube) := by kernel_rfl
theorem cellsCube' : Tryz.prog.cellsOf 128 = 2 := by kernel_rfl
theorem fsCube_ty : fsCube.toList.map (fun f => (f.type, f.offset)) = [(24, 0), (24, 1)] := by kernel_rfl
theorem fsCube_f {i t o : Nat} (h : (fsCube.toList.map (fun f => (f.type, f.offset)))[i]? = some (t, o)) : ∃ f : Field, fsCube[i]? = some f ∧ f.type = t ∧ f.offset = o := by
 rw [List.getElem?_map] at h
 cases hq : fsCube.toList[i]? with
 | none => rw [hq] at h; cases h
 | some f =>
  rw [hq] at h
  simp only [Option.map_some, Option.some.injEq, Prod.mk.injEq] at h
  exact ⟨f, by rw [← Array.getElem?_toList]; exact hq, h.1, h.2⟩
set_option maxRecDepth 100000 in
theorem open_cube {fuel : Nat} {cs : List Value} {x : DataW H × List MemPlace} (h : DataW.trod enc Tryz.prog W 0 (fun _ => true) held fuel 128 cs = some x) (hwt : Wt 128 x.1) : ∃ y : QB, cs = qC y ∧ qOk y := by
 obtain ⟨xs, n, rfl, rfl, hl, hx, hf⟩ := DataW.trod_struct undCube' h
 have hsz : fsCube.size = 2 := by
  have := congrArg List.length fsCube_ty
  simpa using this
 rw [hsz] at hx
 rw [cellsCube'] at hl
 have fld : ∀ {i t o : Nat}, (fsCube.toList.map (fun f => (f.type, f.offset)))[i]? = some (t, o) → i < 2 → ∃ y, DataW.trod enc Tryz.prog W 0 (fun _ => true) held n t ((cs.drop o).take (Tryz.prog.cellsOf t)) = some y ∧ Wt t y.1 := fun {i t o} hi hi12 => by
  obtain ⟨f, h1, rfl, rfl⟩ := fsCube_f hi
  have hxi : xs[i]? = some (xs[i]'(by omega)) := List.getElem?_eq_getElem _
  exact ⟨xs[i]'(by omega), by rw [hf i f h1]; exact hxi, fun n hn => hwt n (by simp only [DataW.weights, undCube']; exact DataW.weights_mem_each (j := i) (by rw [List.getElem?_map, Array.getElem?_toList, h1]; rfl) (by rw [List.getElem?_map, hxi]; rfl) n hn)⟩
 rw [fsCube_ty] at fld
 obtain ⟨y0, f0, g0⟩ := fld (i := 0) rfl (by decide)
 obtain ⟨y1, f1, g1⟩ := fld (i := 1) rfl (by decide)
 rw [show Tryz.prog.cellsOf 24 = 1 by kernel_rfl] at f0
 rw [show Tryz.prog.cellsOf 24 = 1 by kernel_rfl] at f1
 match cs, hl with
 | [u0, u1], _ =>
  simp only [List.drop_zero, List.take_succ_cons, List.take_zero, List.drop_succ_cons] at f0 f1
  obtain ⟨n0, e0, _, w0⟩ := DataW.trod_int (show Tryz.prog.underlying 24 = some (.int .u32) by kernel_rfl) f0
  have v0 := wf_u32 w0
  obtain ⟨m0, rfl⟩ := Int.eq_ofNat_of_zero_le v0.1
  obtain ⟨n1, e1, _, w1⟩ := DataW.trod_int (show Tryz.prog.underlying 24 = some (.int .u32) by kernel_rfl) f1
  have v1 := wf_u32 w1
  obtain ⟨m1, rfl⟩ := Int.eq_ofNat_of_zero_le v1.1
  simp only [List.cons.injEq, and_true] at e0 e1
  subst e0
  subst e1
  exact ⟨(m0, m1), rfl, by show m0 < 4294967296; omega, by show m1 < 4294967296; omega⟩
noncomputable def fsItem : Array Field := match Tryz.prog.underlying 92 with
 | some (.struct fs) => fs
 | _ => #[]
theorem undItem' : Tryz.prog.underlying 92 = some (.struct fsItem) := by kernel_rfl
theorem cellsItem' : Tryz.prog.cellsOf 92 = 6 := by kernel_rfl
theorem fsItem_ty : fsItem.toList.map (fun f => (f.type, f.offset)) = [(5, 0), (9, 1), (70, 2), (3, 3), (3, 4), (23, 5)] := by kernel_rfl
theorem fsItem_f {i t o : Nat} (h : (fsItem.toList.map (fun f => (f.type, f.offset)))[i]? = some (t, o)) : ∃ f : Field, fsItem[i]? = some f ∧ f.type = t ∧ f.offset = o := by
 rw [List.getElem?_map] at h
 cases hq : fsItem.toList[i]? with
 | none => rw [hq] at h; cases h
 | some f =>
  rw [hq] at h
  simp only [Option.map_some, Option.some.injEq, Prod.mk.injEq] at h
  exact ⟨f, by rw [← Array.getElem?_toList]; exact hq, h.1, h.2⟩
set_option maxRecDepth 100000 in
theorem open_item {fuel : Nat} {cs : List Value} {x : DataW H × List MemPlace} (h : DataW.trod enc Tryz.prog W 0 (fun _ => true) held fuel 92 cs = some x) (hwt : Wt 92 x.1) : ∃ y : ItV, cs = itC y ∧ ItR W y := by
 obtain ⟨xs, n, rfl, rfl, hl, hx, hf⟩ := DataW.trod_struct undItem' h
 have hsz : fsItem.size = 6 := by
  have := congrArg List.length fsItem_ty
  simpa using this
 rw [hsz] at hx
 rw [cellsItem'] at hl
 have fld : ∀ {i t o : Nat}, (fsItem.toList.map (fun f => (f.type, f.offset)))[i]? = some (t, o) → i < 6 → ∃ y, DataW.trod enc Tryz.prog W 0 (fun _ => true) held n t ((cs.drop o).take (Tryz.prog.cellsOf t)) = some y ∧ Wt t y.1 := fun {i t o} hi hi12 => by
  obtain ⟨f, h1, rfl, rfl⟩ := fsItem_f hi
  have hxi : xs[i]? = some (xs[i]'(by omega)) := List.getElem?_eq_getElem _
  exact ⟨xs[i]'(by omega), by rw [hf i f h1]; exact hxi, fun n hn => hwt n (by simp only [DataW.weights, undItem']; exact DataW.weights_mem_each (j := i) (by rw [List.getElem?_map, Array.getElem?_toList, h1]; rfl) (by rw [List.getElem?_map, hxi]; rfl) n hn)⟩
 rw [fsItem_ty] at fld
 obtain ⟨y0, f0, g0⟩ := fld (i := 0) rfl (by decide)
 obtain ⟨y1, f1, g1⟩ := fld (i := 1) rfl (by decide)
 obtain ⟨y2, f2, g2⟩ := fld (i := 2) rfl (by decide)
 obtain ⟨y3, f3, g3⟩ := fld (i := 3) rfl (by decide)
 obtain ⟨y4, f4, g4⟩ := fld (i := 4) rfl (by decide)
 obtain ⟨y5, f5, g5⟩ := fld (i := 5) rfl (by decide)
 rw [show Tryz.prog.cellsOf 5 = 1 by kernel_rfl] at f0
 rw [show Tryz.prog.cellsOf 9 = 1 by kernel_rfl] at f1
 rw [show Tryz.prog.cellsOf 70 = 1 by kernel_rfl] at f2
 rw [show Tryz.prog.cellsOf 3 = 1 by kernel_rfl] at f3
 rw [show Tryz.prog.cellsOf 3 = 1 by kernel_rfl] at f4
 rw [show Tryz.prog.cellsOf 23 = 1 by kernel_rfl] at f5
 match cs, hl with
 | [u0, u1, u2, u3, u4, u5], _ =>
  simp only [List.drop_zero, List.take_succ_cons, List.take_zero, List.drop_succ_cons] at f0 f1 f2 f3 f4 f5
  obtain ⟨n0, e0, _, w0⟩ := DataW.trod_int (show Tryz.prog.underlying 5 = some (.int .u8) by kernel_rfl) f0
  have v0 := wf_u8 w0
  obtain ⟨m0, rfl⟩ := Int.eq_ofNat_of_zero_le v0.1
  obtain ⟨s1, e1, z1, w1⟩ := DataW.trod_string und_string f1
  obtain ⟨l2, a2, k2, e2, w2, r2⟩ := open_ints6 f2 g2
  obtain ⟨n3, e3, _, w3⟩ := DataW.trod_int undInt6 f3
  obtain ⟨n4, e4, _, w4⟩ := DataW.trod_int undInt6 f4
  obtain ⟨l5, a5, k5, e5, w5, r5, q5⟩ := open_sl (cells := qC) (φ := qOk) (show Tryz.prog.underlying 23 = some (.slice 128) by kernel_rfl) (show Tryz.prog.cellsOf 128 = 2 by kernel_rfl) (show Tryz.prog.bytesOf 128 = 8 by kernel_rfl) (by decide) (by decide) (fun _ => rfl) open_cube f5 g5
  simp only [List.cons.injEq, and_true] at e0 e1 e2 e3 e4 e5
  subst e0
  subst e1
  subst e2
  subst e3
  subst e4
  subst e5
  refine ⟨⟨m0, s1.data.toList, l2, a2, k2, n3, n4, l5, a5, k5⟩, ?_, ⟨by show m0 < 256; omega, ?_, w2, r2, w5, r5, q5⟩⟩
  ·show _ = [Value.int .u8 (m0 : Int), .string (str s1.data.toList), _, _, _, _]
   rw [← str_of s1]
  ·show s1.data.toList.length ≤ LM
   exact g1 _ (by rw [z1]; simp [DataW.weights])
noncomputable def fsNote : Array Field := match Tryz.prog.underlying 95 with
 | some (.struct fs) => fs
 | _ => #[]
theorem undNote' : Tryz.prog.underlying 95 = some (.struct fsNote) := by kernel_rfl
theorem cellsNote' : Tryz.prog.cellsOf 95 = 5 := by kernel_rfl
theorem fsNote_ty : fsNote.toList.map (fun f => (f.type, f.offset)) = [(93, 0), (70, 1), (3, 2), (3, 3), (23, 4)] := by kernel_rfl
theorem fsNote_f {i t o : Nat} (h : (fsNote.toList.map (fun f => (f.type, f.offset)))[i]? = some (t, o)) : ∃ f : Field, fsNote[i]? = some f ∧ f.type = t ∧ f.offset = o := by
 rw [List.getElem?_map] at h
 cases hq : fsNote.toList[i]? with
 | none => rw [hq] at h; cases h
 | some f =>
  rw [hq] at h
  simp only [Option.map_some, Option.some.injEq, Prod.mk.injEq] at h
  exact ⟨f, by rw [← Array.getElem?_toList]; exact hq, h.1, h.2⟩
set_option maxRecDepth 100000 in
theorem open_note {fuel : Nat} {cs : List Value} {x : DataW H × List MemPlace} (h : DataW.trod enc Tryz.prog W 0 (fun _ => true) held fuel 95 cs = some x) (hwt : Wt 95 x.1) : ∃ y : NoV, cs = noC y ∧ NoR W y := by
 obtain ⟨xs, n, rfl, rfl, hl, hx, hf⟩ := DataW.trod_struct undNote' h
 have hsz : fsNote.size = 5 := by
  have := congrArg List.length fsNote_ty
  simpa using this
 rw [hsz] at hx
 rw [cellsNote'] at hl
 have fld : ∀ {i t o : Nat}, (fsNote.toList.map (fun f => (f.type, f.offset)))[i]? = some (t, o) → i < 5 → ∃ y, DataW.trod enc Tryz.prog W 0 (fun _ => true) held n t ((cs.drop o).take (Tryz.prog.cellsOf t)) = some y ∧ Wt t y.1 := fun {i t o} hi hi12 => by
  obtain ⟨f, h1, rfl, rfl⟩ := fsNote_f hi
  have hxi : xs[i]? = some (xs[i]'(by omega)) := List.getElem?_eq_getElem _
  exact ⟨xs[i]'(by omega), by rw [hf i f h1]; exact hxi, fun n hn => hwt n (by simp only [DataW.weights, undNote']; exact DataW.weights_mem_each (j := i) (by rw [List.getElem?_map, Array.getElem?_toList, h1]; rfl) (by rw [List.getElem?_map, hxi]; rfl) n hn)⟩
 rw [fsNote_ty] at fld
 obtain ⟨y0, f0, g0⟩ := fld (i := 0) rfl (by decide)
 obtain ⟨y1, f1, g1⟩ := fld (i := 1) rfl (by decide)
 obtain ⟨y2, f2, g2⟩ := fld (i := 2) rfl (by decide)
 obtain ⟨y3, f3, g3⟩ := fld (i := 3) rfl (by decide)
 obtain ⟨y4, f4, g4⟩ := fld (i := 4) rfl (by decide)
 rw [show Tryz.prog.cellsOf 93 = 1 by kernel_rfl] at f0
 rw [show Tryz.prog.cellsOf 70 = 1 by kernel_rfl] at f1
 rw [show Tryz.prog.cellsOf 3 = 1 by kernel_rfl] at f2
 rw [show Tryz.prog.cellsOf 3 = 1 by kernel_rfl] at f3
 rw [show Tryz.prog.cellsOf 23 = 1 by kernel_rfl] at f4
 match cs, hl with
 | [u0, u1, u2, u3, u4], _ =>
  simp only [List.drop_zero, List.take_succ_cons, List.take_zero, List.drop_succ_cons] at f0 f1 f2 f3 f4
  obtain ⟨n0, e0, _, w0⟩ := DataW.trod_int (show Tryz.prog.underlying 93 = some (.int .u8) by kernel_rfl) f0
  have v0 := wf_u8 w0
  obtain ⟨m0, rfl⟩ := Int.eq_ofNat_of_zero_le v0.1
  obtain ⟨l1, a1, k1, e1, w1, r1⟩ := open_ints6 f1 g1
  obtain ⟨n2, e2, _, w2⟩ := DataW.trod_int undInt6 f2
  obtain ⟨n3, e3, _, w3⟩ := DataW.trod_int undInt6 f3
  obtain ⟨l4, a4, k4, e4, w4, r4, q4⟩ := open_sl (cells := qC) (φ := qOk) (show Tryz.prog.underlying 23 = some (.slice 128) by kernel_rfl) (show Tryz.prog.cellsOf 128 = 2 by kernel_rfl) (show Tryz.prog.bytesOf 128 = 8 by kernel_rfl) (by decide) (by decide) (fun _ => rfl) open_cube f4 g4
  simp only [List.cons.injEq, and_true] at e0 e1 e2 e3 e4
  subst e0
  subst e1
  subst e2
  subst e3
  subst e4
  exact ⟨⟨m0, l1, a1, k1, n2, n3, l4, a4, k4⟩, rfl, ⟨by show m0 < 256; omega, w1, r1, w4, r4, q4⟩⟩
noncomputable def fsRows : Array Field := match Tryz.prog.underlying 43 with
 | some (.struct fs) => fs
 | _ => #[]
theorem undRows' : Tryz.prog.underlying 43 = some (.struct fsRows) := by kernel_rfl
theorem cellsRows' : Tryz.prog.cellsOf 43 = 2 := by kernel_rfl
theorem fsRows_ty : fsRows.toList.map (fun f => (f.type, f.offset)) = [(40, 0), (41, 1)] := by kernel_rfl
theorem fsRows_f {i t o : Nat} (h : (fsRows.toList.map (fun f => (f.type, f.offset)))[i]? = some (t, o)) : ∃ f : Field, fsRows[i]? = some f ∧ f.type = t ∧ f.offset = o := by
 rw [List.getElem?_map] at h
 cases hq : fsRows.toList[i]? with
 | none => rw [hq] at h; cases h
 | some f =>
  rw [hq] at h
  simp only [Option.map_some, Option.some.injEq, Prod.mk.injEq] at h
  exact ⟨f, by rw [← Array.getElem?_toList]; exact hq, h.1, h.2⟩
set_option maxRecDepth 100000 in
theorem open_rows {fuel : Nat} {cs : List Value} {x : DataW H × List MemPlace} (h : DataW.trod enc Tryz.prog W 0 (fun _ => true) held fuel 43 cs = some x) (hwt : Wt 43 x.1) : ∃ y : RwV, cs = rwC y ∧ RwR W y := by
 obtain ⟨xs, n, rfl, rfl, hl, hx, hf⟩ := DataW.trod_struct undRows' h
 have hsz : fsRows.size = 2 := by
  have := congrArg List.length fsRows_ty
  simpa using this
 rw [hsz] at hx
 rw [cellsRows'] at hl
 have fld : ∀ {i t o : Nat}, (fsRows.toList.map (fun f => (f.type, f.offset)))[i]? = some (t, o) → i < 2 → ∃ y, DataW.trod enc Tryz.prog W 0 (fun _ => true) held n t ((cs.drop o).take (Tryz.prog.cellsOf t)) = some y ∧ Wt t y.1 := fun {i t o} hi hi12 => by
  obtain ⟨f, h1, rfl, rfl⟩ := fsRows_f hi
  have hxi : xs[i]? = some (xs[i]'(by omega)) := List.getElem?_eq_getElem _
  exact ⟨xs[i]'(by omega), by rw [hf i f h1]; exact hxi, fun n hn => hwt n (by simp only [DataW.weights, undRows']; exact DataW.weights_mem_each (j := i) (by rw [List.getElem?_map, Array.getElem?_toList, h1]; rfl) (by rw [List.getElem?_map, hxi]; rfl) n hn)⟩
 rw [fsRows_ty] at fld
 obtain ⟨y0, f0, g0⟩ := fld (i := 0) rfl (by decide)
 obtain ⟨y1, f1, g1⟩ := fld (i := 1) rfl (by decide)
 rw [show Tryz.prog.cellsOf 40 = 1 by kernel_rfl] at f0
 rw [show Tryz.prog.cellsOf 41 = 1 by kernel_rfl] at f1
 match cs, hl with
 | [u0, u1], _ =>
  simp only [List.drop_zero, List.take_succ_cons, List.take_zero, List.drop_succ_cons] at f0 f1
  obtain ⟨l0, a0, k0, e0, w0, r0, q0⟩ := open_sl (cells := itC) (φ := ItR W) (show Tryz.prog.underlying 40 = some (.slice 92) by kernel_rfl) (show Tryz.prog.cellsOf 92 = 6 by kernel_rfl) (show Tryz.prog.bytesOf 92 = 88 by kernel_rfl) (by decide) (by decide) (fun _ => rfl) open_item f0 g0
  obtain ⟨l1, a1, k1, e1, w1, r1, q1⟩ := open_sl (cells := noC) (φ := NoR W) (show Tryz.prog.underlying 41 = some (.slice 95) by kernel_rfl) (show Tryz.prog.cellsOf 95 = 5 by kernel_rfl) (show Tryz.prog.bytesOf 95 = 72 by kernel_rfl) (by decide) (by decide) (fun _ => rfl) open_note f1 g1
  simp only [List.cons.injEq, and_true] at e0 e1
  subst e0
  subst e1
  exact ⟨⟨l0, a0, k0, l1, a1, k1⟩, rfl, ⟨w0, r0, q0, w1, r1, q1⟩⟩
set_option maxRecDepth 100000 in
theorem open_rowsA {v : Value} {d : DataW H} {p : List MemPlace} (hv : Value.okWide Tryz.prog W .any base 43 v) (h : DataW.Trod enc Tryz.prog W 0 (fun _ => true) held 43 v d p) (hwt : Wt 43 d) : ∃ y : RwV, v = .agg (rwC y).toArray ∧ RwR W y := by
 obtain ⟨cs, rfl, _⟩ := okWide_struct undRows' hv
 obtain ⟨fuel, hf⟩ := h
 obtain ⟨y, h1, h2⟩ := open_rows hf hwt
 have e : cs = (rwC y).toArray := by
  apply Array.ext'
  simpa [Value.cells] using h1
 exact ⟨y, by rw [e], h2⟩
set_option maxRecDepth 100000 in
theorem open_slA {α : Type} {cells : α → List Value} {φ : α → Prop} {ts te : TypeId} {sz : Nat} (hts : Tryz.prog.underlying ts = some (.slice te)) (hsz : Tryz.prog.cellsOf te = sz) {kb : Nat} (hkb : Tryz.prog.bytesOf te = kb) (hkp : 0 < kb) (hpos : 0 < sz) (hlen : ∀ y, (cells y).length = sz)
  (he : ∀ {fuel : Nat} {cs : List Value} {x : DataW H × List MemPlace}, DataW.trod enc Tryz.prog W 0 (fun _ => true) held fuel te cs = some x → Wt te x.1 → ∃ y : α, cs = cells y ∧ φ y)
  {v : Value} {d : DataW H} {p : List MemPlace} (hv : Value.okWide Tryz.prog W .any base ts v) (h : DataW.Trod enc Tryz.prog W 0 (fun _ => true) held ts v d p) (hwt : Wt ts d) :
  ∃ (l : List α) (a : Option Addr) (k : Nat), v = .slice a l.length k ∧ l.length ≤ LM ∧ RdSl cells sz W l a ∧ ∀ y ∈ l, φ y := by
 obtain ⟨a, len, cap, rfl⟩ := okWide_slice hts hv
 obtain ⟨fuel, hf⟩ := h
 obtain ⟨l, a2, k, e, h1, h2, h3⟩ := open_sl hts hsz hkb hkp hpos hlen he hf hwt
 have e2 : [Value.slice a len cap] = [Value.slice a2 l.length k] := by simpa [Value.cells] using e
 simp only [List.cons.injEq, Value.slice.injEq, and_true] at e2
 obtain ⟨rfl, rfl, rfl⟩ := e2
 exact ⟨l, a, cap, rfl, h1, h2, h3⟩
set_option maxRecDepth 100000 in
theorem open_cubesA {v : Value} {d : DataW H} {p : List MemPlace} (hv : Value.okWide Tryz.prog W .any base 23 v) (h : DataW.Trod enc Tryz.prog W 0 (fun _ => true) held 23 v d p) (hwt : Wt 23 d) :
  ∃ (l : List QB) (a : Option Addr) (k : Nat), v = .slice a l.length k ∧ l.length ≤ LM ∧ RdSl qC 2 W l a ∧ ∀ y ∈ l, qOk y :=
 open_slA (show Tryz.prog.underlying 23 = some (.slice 128) by kernel_rfl) (show Tryz.prog.cellsOf 128 = 2 by kernel_rfl) (show Tryz.prog.bytesOf 128 = 8 by kernel_rfl) (by decide) (by decide) (fun _ => rfl) open_cube hv h hwt
end
theorem wt_of {H : Type} {ts : List TypeId} {ds : List (DataW H)} (h : (DataW.weightsEach Tryz.prog ts ds).all (· ≤ reachBytes) = true) {j : Nat} {t : TypeId} {d : DataW H} (ht : ts[j]? = some t) (hd : ds[j]? = some d) : Wt t d := fun n hn => by
 have h9 := List.all_eq_true.1 h n (DataW.weights_mem_each ht hd n hn)
 have h8 : n ≤ reachBytes := by simpa using h9
 exact Nat.le_trans h8 (by decide)
open Go Go.Eng Go.Proofs Dg
def CfgAt (w : World) (c : List Nat) (a : Option Addr) (F : List Nat) : Prop := ∀ (i x : Nat), c[i]? = some x → ∃ b off, a = some ⟨b, off, none⟩ ∧ w.cell? ⟨b, off + i, none⟩ = some (.int .u32 (x : Int)) ∧ b ∈ F
def insC (F : List Nat) (l : List (List Nat × Option Addr)) : Chunk where
 fp k := k ∈ F
 ok w := ∀ x ∈ l, CfgAt w x.1 x.2 F
 loc w w' h hw := fun x hx i y hy => by
  obtain ⟨b, off, e1, e2, e3⟩ := hw x hx i y hy
  exact ⟨b, off, e1, by rw [World.cell?_of_block (h b e3)]; exact e2, e3⟩
theorem FpIs.insC {F : List Nat} {l : List (List Nat × Option Addr)} : FpIs (insC F l) F := fun k => Iff.rfl
theorem nC_one {u : Value} {x j : Nat} (h : (nC x)[j]? = some u) : j = 0 ∧ u = .int .u32 (x : Int) := by
 cases j with
 | zero => simp at h; exact ⟨rfl, h.symm⟩
 | succ j => simp at h
theorem insC_rd {F : List Nat} {l : List (List Nat × Option Addr)} {w : World} {x : List Nat × Option Addr} (h : (insC F l).ok w) (hx : x ∈ l) : RdN w x.1 x.2 := fun i y hy => by
 obtain ⟨b, off, e1, e2, _⟩ := h x hx i y hy
 refine ⟨b, off, e1, fun j u hu => ?_⟩
 obtain ⟨rfl, rfl⟩ := nC_one hu
 rw [Nat.mul_one, Nat.add_zero]
 exact e2
section
variable {w0 : World} {O : List Nat} {C : List Chunk}
theorem _root_.Go.Eng.St.insNil {w : World} (h : St w0 O C w) : St w0 O (insC [] [] :: C) w :=
 ⟨h.os, h.tape, h.output, h.size, h.old, fun c hc => by
  rcases List.mem_cons.1 hc with rfl | hc
  ·intro x hx; cases hx
  ·exact h.ok c hc, fun c hc k hk => by
  rcases List.mem_cons.1 hc with rfl | hc
  ·cases hk
  ·exact h.bnd c hc k hk, List.Pairwise.cons (fun _ _ _ hk => by cases hk) h.disj⟩
theorem _root_.Go.Eng.St.insSnoc {w : World} {F : List Nat} {l : List (List Nat × Option Addr)} {c : List Nat} {a : Option Addr} {k : Nat} {e : TypeId} (h : St w0 O (insC F l :: rowc (.slice a c.length k) c.length e 1 (c.flatMap nC) :: C) w) : ∃ F', St w0 O (insC F' (l ++ [(c, a)]) :: C) w := by
 have hok : (rowc (.slice a c.length k) c.length e 1 (c.flatMap nC)).ok w := h.ok _ (List.mem_cons_of_mem _ (List.mem_cons_self ..))
 have hob : ∃ G : List Nat, (∀ j ∈ G, (rowc (.slice a c.length k) c.length e 1 (c.flatMap nC)).fp j) ∧ CfgAt w c a G := by
  by_cases h0 : c.length = 0
  ·exact ⟨[], by simp, fun i x hx => by rw [List.length_eq_zero_iff.1 h0] at hx; simp at hx⟩
  ·obtain ⟨g, hg, _, _⟩ := rowc_addr hok (by omega)
   subst hg
   refine ⟨[g], fun j hj => by simp at hj; subst hj; rfl, fun i x hx => ⟨g, 0, rfl, ?_, by simp⟩⟩
   rw [Nat.zero_add]
   have := flat_at (cells := nC) (sz := 1) (fun _ _ => rfl) hx 0 _ rfl
   rw [Nat.mul_one] at this
   exact rowc_cells hok this
 obtain ⟨G, hG1, hG2⟩ := hob
 refine ⟨F ++ G, h.join (fun j hj => ?_) (fun hc hd _ => ?_)⟩
 ·rcases List.mem_append.1 hj with hj | hj
  ·exact .inl hj
  ·exact .inr (hG1 j hj)
 ·intro x hx i y hy
  rcases List.mem_append.1 hx with hx | hx
  ·obtain ⟨b, off, e1, e2, e3⟩ := hc x hx i y hy
   exact ⟨b, off, e1, e2, List.mem_append_left _ e3⟩
  ·rw [List.mem_singleton.1 hx] at hy ⊢
   obtain ⟨b, off, e1, e2, e3⟩ := hG2 i y hy
   exact ⟨b, off, e1, e2, List.mem_append_right _ e3⟩
end
open Go Go.Eng Go.Proofs Dg
theorem orQ_take {l : List QB} {i : Nat} {q : QB} (h : l[i]? = some q) : orQ 0 (l.take (i + 1)) = orQ 0 (l.take i) ||| q.1 ||| q.2 := by
 unfold orQ
 rw [List.take_add_one, h]
 simp [List.foldl_append]
theorem orQ_lt : ∀ (l : List QB) (u : Nat), u < 4294967296 → (∀ q ∈ l, qOk q) → orQ u l < 4294967296
 | [], u, hu, _ => hu
 | q :: l, u, hu, hq => by
  obtain ⟨h1, h2⟩ := hq q (by simp)
  exact orQ_lt l (u ||| q.1 ||| q.2) (Nat.or_lt_two_pow (n := 32) (Nat.or_lt_two_pow (n := 32) hu h1) h2) (fun y hy => hq y (by simp [hy]))
theorem orQ_lt' {l : List QB} {i : Nat} (hq : ∀ q ∈ l, qOk q) : orQ 0 (l.take i) < 4294967296 := orQ_lt _ _ (by decide) (fun y hy => hq y (List.mem_of_mem_take hy))
theorem bits_c (l : List QB) (a : Option Addr) (c : Nat) (hl : l.length ≤ 1000000000000000) (w : World) (hr : RdSl qC 2 w l a) (hq : ∀ q ∈ l, qOk q) :
  Pure Tryz.prog 35 [.slice a l.length c] w (.int .u32 (bitsQ l : Int)) := by
 refine enter Tryz.func35 rfl Tryz.ntmps35 rfl (St.init _) ?_
 refine jN 20 ?_
 refine WC.loop (α := Nat) (fun i => i ≤ l.length) (fun i => [(0, .slice a l.length c), (3, .int .u32 (orQ 0 (l.take i) : Int)), (4, .int .i64 (i : Int))]) (fun _ => []) (fun i => l.length - i) (0) ?_ ?_ ?_ ?_
 ·exact Nat.zero_le _
 ·exact ⟨rfl, rfl, rfl, trivial⟩
 ·rfl
 rintro i hi
 refine jN 13 ?_
 refine WC.cond rfl (fun h8 => ?_) (fun h8 => ?_)
 ·have hlt : i < l.length := by simpa using h8
  obtain ⟨q, hx⟩ : ∃ z, l[i]? = some z := ⟨_, List.getElem?_eq_getElem hlt⟩
  obtain ⟨b, o, rfl, hcq⟩ := hr i q hx
  have hqq := hq q (List.mem_of_getElem? hx)
  have hq1 := hqq.1
  have hq2 := hqq.2
  refine jN 4 ?_
  refine WC.draws [([], fun w => w.cell? ⟨b, o + i * 2 + 0, none⟩ = some (.int .u32 (q.1 : Int))), ([], fun w => w.cell? ⟨b, o + i * 2 + 1, none⟩ = some (.int .u32 (q.2 : Int)))] (by kernel_rfl) (fun w hS => facts_cons (hS.oldc (hcq 0 _ rfl) (by simp)) (facts_cons (hS.oldc (hcq 1 _ rfl) (by simp)) (facts_nil))) ?_
  refine jT 0 rfl (Yl.move rfl) ?_
  refine jT 1 rfl (Yl.move rfl) ?_
  refine jT 2 rfl (Yl.move rfl) ?_
  refine jT 3 rfl (Yl.indexAddr F.sl23 rfl rfl hlt) ?_
  refine jT 4 rfl (Yl.fieldAddr F.fld128_0 rfl) ?_
  refine jF 5 0 rfl rfl (Yl.load1 F.one24 rfl) ?_
  have hob := orQ_lt' (i := i) hq
  refine jT 6 rfl (Yl.bin (v := .int .u32 ((orQ 0 (l.take i) ||| q.1 : Nat) : Int)) rfl rfl (fun w => run_or (orQ_lt' hq) hq1 _ _ _ w)) ?_
  refine jT 7 rfl (Yl.move rfl) ?_
  refine jT 8 rfl (Yl.move rfl) ?_
  refine jT 9 rfl (Yl.indexAddr F.sl23 rfl rfl hlt) ?_
  refine jT 10 rfl (Yl.fieldAddr F.fld128_1 rfl) ?_
  refine jF 11 1 rfl rfl (Yl.load1 F.one24 rfl) ?_
  refine jT 12 rfl (Yl.bin (v := .int .u32 ((orQ 0 (l.take i) ||| q.1 ||| q.2 : Nat) : Int)) rfl rfl (fun w => run_or (Nat.or_lt_two_pow (n := 32) (orQ_lt' hq) hq1) hq2 _ _ _ w)) ?_
  refine jT 13 rfl (Yl.assign rfl) ?_
  refine jD ?_
  refine jN 10 ?_
  rw [← orQ_take hx]
  refine WQ.back (i + 1) ?_ ?_ ?_ ?_
  ·exact hlt
  ·omega
  ·exact ⟨rfl, rfl, rfl, trivial⟩
  ·rfl
 ·have hie : i = l.length := by simp at h8; omega
  subst hie
  rw [List.take_length]
  refine jN 10 ?_
  refine WL.bin (v := .int .u32 ((orQ 0 l &&& 16777215 : Nat) : Int)) rfl rfl rfl (fun w => run_and (orQ_lt _ _ (by decide) hq) (b := 16777215) (by decide) _ _ _ w) ?_
  refine jN 5 ?_
  exact WQ.ret (rs := [.tmp 2]) rfl (.tmp rfl .nil) (fun w hS => ⟨rfl, hS⟩)
def popN (v : Nat) : Nat → Nat
 | 0 => 0
 | k + 1 => popN v k + (v >>> k &&& 1)
theorem popN_le (v : Nat) : ∀ k, popN v k ≤ k
 | 0 => Nat.le_refl _
 | k + 1 => by
  have h1 : (v >>> k &&& 1) ≤ 1 := Nat.and_le_right
  have := popN_le v k
  simp only [popN]
  omega
theorem conv6 {n : Nat} (hn : n < 4294967296) (w : World) : (convert 24 3 (.int .u32 (n : Int))).run Tryz.prog w = .ok (.int .i64 (n : Int)) w := by
 have h := run_convert_int (P := Tryz.prog) w 24 3 .u32 (n : Int) (by kernel_rfl) (by kernel_rfl)
 rw [h]
 have h2 : IntKind.i64.wrap (n : Int) = (n : Int) := by
  unfold IntKind.wrap
  simp [IntKind.signed, IntKind.bits]
  omega
 rw [show Tryz.prog.intKind 3 = .i64 by kernel_rfl, h2]
theorem run_addN6 {m n : Nat} (hm : m < 1000000000000000000) (hn : n < 1000000000000000000) (t : TypeId) (x y : Operand) (w : World) :
  (do eqGuard .add t x y (.int .i64 (m : Int)) (.int .i64 (n : Int)); binOp .add t (.int .i64 (m : Int)) (.int .i64 (n : Int)) : Sem Value).run Tryz.prog w = .ok (.int .i64 ((m + n : Nat) : Int)) w := by
 have h2 : IntKind.i64.wrap ((m : Int) + (n : Int)) = (m : Int) + (n : Int) := by
  unfold IntKind.wrap
  simp [IntKind.signed, IntKind.bits]
  omega
 simp [eqGuard, binOp, Op.intArith, h2]
theorem few6_c (v : Nat) (hv : v < 4294967296) (m : Int) (w : World) :
  Calls Tryz.prog 36 [.int .u32 (v : Int), .int .i64 m].toArray w fun e w' => ∃ b : Bool, e = .returned (.bool b) ∧ St w [] [] w' := by
 refine enter Tryz.func36 rfl Tryz.ntmps36 rfl (St.init _) ?_
 refine jN 20 ?_
 refine WC.loop (α := Nat) (fun i => i ≤ 32) (fun i => [(0, .int .u32 (v : Int)), (1, .int .i64 m), (5, .int .i64 (popN v i : Int)), (6, .int .i64 (i : Int))]) (fun _ => []) (fun i => 32 - i) (0) ?_ ?_ ?_ ?_
 ·exact by decide
 ·exact ⟨rfl, rfl, rfl, rfl, trivial⟩
 ·rfl
 rintro i hi
 refine jN 9 ?_
 refine WC.cond rfl (fun h8 => ?_) (fun h8 => ?_)
 ·have hlt : i < 32 := by simp at h8; omega
  have hpl := popN_le v i
  have hp1 : (v >>> i &&& 1) ≤ 1 := Nat.and_le_right
  refine jN 12 ?_
  refine WL.bin (v := .int .u32 ((v >>> i : Nat) : Int)) rfl rfl rfl (fun w => run_shr (by omega) _ _ _ w) ?_
  refine jN 1 ?_
  refine WL.bin (v := .int .u32 ((v >>> i &&& 1 : Nat) : Int)) rfl rfl rfl (fun w => run_and (b := 1) (Nat.lt_of_le_of_lt (Nat.shiftRight_le v i) hv) (by decide) _ _ _ w) ?_
  refine jN 1 ?_
  refine WL.convert rfl rfl (v := .int .i64 ((v >>> i &&& 1 : Nat) : Int)) (fun w hS => conv6 (by omega) w) ?_
  refine jN 1 ?_
  refine WL.bin (v := .int .i64 (popN v (i + 1) : Int)) rfl rfl rfl (fun w => by simp only [popN]; exact run_addN6 (by omega) (by omega) _ _ _ w) ?_
  refine jN 13 ?_
  refine WQ.back (i + 1) ?_ ?_ ?_ ?_
  ·exact by omega
  ·omega
  ·exact ⟨rfl, rfl, rfl, rfl, trivial⟩
  ·rfl
 ·refine jN 18 ?_
  exact WQ.ret (rs := [.tmp 4]) rfl (.tmp rfl .nil) (fun w hS => ⟨_, rfl, hS⟩)
theorem and2_lt {a b : Nat} (h : a < 4294967296) : a &&& b < 4294967296 := Nat.lt_of_le_of_lt Nat.and_le_left h
theorem inQ_T {q : QB} {c : Nat} (h : (((c &&& q.1 &&& 16777215 : Nat) : Int) == ((q.1 &&& 16777215 : Nat) : Int)) = true) : inQ q c = (((c &&& q.2 &&& 16777215 : Nat) : Int) == 0) := by
 have h1 : c &&& q.1 &&& 16777215 = q.1 &&& 16777215 := by rw [beq_iff_eq] at h; omega
 unfold inQ
 rw [decide_eq_true h1, Bool.true_and, Bool.eq_iff_iff, decide_eq_true_eq, beq_iff_eq]
 omega
theorem inQ_F {q : QB} {c : Nat} (h : (((c &&& q.1 &&& 16777215 : Nat) : Int) == ((q.1 &&& 16777215 : Nat) : Int)) = false) : inQ q c = false := by
 have h1 : ¬ c &&& q.1 &&& 16777215 = q.1 &&& 16777215 := by intro e; rw [e] at h; simp at h
 unfold inQ
 rw [decide_eq_false h1, Bool.false_and]
theorem inN_no {l : List QB} {c i : Nat} {q : QB} (h : l[i]? = some q) (hn : (l.take i).any (fun q => inQ q c) = false) (hq : inQ q c = false) : (l.take (i + 1)).any (fun q => inQ q c) = false := by
 rw [List.take_add_one, h]
 simp [hn, hq]
theorem in6_c (l : List QB) (a : Option Addr) (c n : Nat) (hn : n < 4294967296) (hl : l.length ≤ 1000000000000000) (w : World) (hr : RdSl qC 2 w l a) (hq : ∀ q ∈ l, qOk q) :
  Pure Tryz.prog 60 [.slice a l.length c, .int .u32 (n : Int)] w (.bool (inN l n)) := by
 refine enter Tryz.func60 rfl Tryz.ntmps60 rfl (St.init _) ?_
 refine jN 14 ?_
 refine WC.loop (α := Nat) (fun i => i ≤ l.length ∧ (l.take i).any (fun q => inQ q n) = false) (fun i => [(0, .slice a l.length c), (1, .int .u32 (n : Int)), (5, .int .i64 (i : Int))]) (fun _ => []) (fun i => l.length - i) (0) ?_ ?_ ?_ ?_
 ·exact ⟨Nat.zero_le _, rfl⟩
 ·exact ⟨rfl, rfl, rfl, trivial⟩
 ·rfl
 rintro i ⟨hi, hno⟩
 refine jN 13 ?_
 refine WC.cond rfl (fun h8 => ?_) (fun h8 => ?_)
 ·have hlt : i < l.length := by simpa using h8
  obtain ⟨q, hx⟩ : ∃ z, l[i]? = some z := ⟨_, List.getElem?_eq_getElem hlt⟩
  obtain ⟨b, o, rfl, hcq⟩ := hr i q hx
  have hqq := hq q (List.mem_of_getElem? hx)
  have hq1 := hqq.1
  have hq2 := hqq.2
  refine jN 5 ?_
  refine WC.cutP [(37, .bool (inQ q n)), (0, .slice (some ⟨b, o, none⟩) l.length c), (1, .int .u32 (n : Int)), (5, .int .i64 (i : Int))] (fun c a d v w h => by cases d <;> exact h) (fun Q' hP hQ => ?_) ?_
  ·refine WC.draws [([], fun w => w.cell? ⟨b, o + i * 2 + 0, none⟩ = some (.int .u32 (q.1 : Int))), ([], fun w => w.cell? ⟨b, o + i * 2 + 0, none⟩ = some (.int .u32 (q.1 : Int))), ([], fun w => w.cell? ⟨b, o + i * 2 + 1, none⟩ = some (.int .u32 (q.2 : Int)))] (by kernel_rfl) (fun w hS => facts_cons (hS.oldc (hcq 0 _ rfl) (by simp)) (facts_cons (hS.oldc (hcq 0 _ rfl) (by simp)) (facts_cons (hS.oldc (hcq 1 _ rfl) (by simp)) (facts_nil)))) ?_
   refine jT 0 rfl (Yl.move rfl) ?_
   refine jT 1 rfl (Yl.move rfl) ?_
   refine jT 2 rfl (Yl.move rfl) ?_
   refine jT 3 rfl (Yl.indexAddr F.sl23 rfl rfl hlt) ?_
   refine jT 4 rfl (Yl.fieldAddr F.fld128_0 rfl) ?_
   refine jF 5 0 rfl rfl (Yl.load1 F.one24 rfl) ?_
   refine jT 6 rfl (Yl.bin (v := .int .u32 ((n &&& q.1 : Nat) : Int)) rfl rfl (fun w => run_and hn hq1 _ _ _ w)) ?_
   refine jT 7 rfl (Yl.bin (v := .int .u32 ((n &&& q.1 &&& 16777215 : Nat) : Int)) rfl rfl (fun w => run_and (and2_lt hn) (by decide) _ _ _ w)) ?_
   refine jT 8 rfl (Yl.move rfl) ?_
   refine jT 9 rfl (Yl.move rfl) ?_
   refine jT 10 rfl (Yl.indexAddr F.sl23 rfl rfl hlt) ?_
   refine jT 11 rfl (Yl.fieldAddr F.fld128_0 rfl) ?_
   refine jF 12 1 rfl rfl (Yl.load1 F.one24 rfl) ?_
   refine jT 13 rfl (Yl.bin (v := .int .u32 ((q.1 &&& 16777215 : Nat) : Int)) rfl rfl (fun w => run_and hq1 (by decide) _ _ _ w)) ?_
   refine jT 14 rfl (Yl.eqI rfl rfl) ?_
   refine jT 15 rfl (Yl.move rfl) ?_
   refine fun hcl => WA.splitB (i := 27) rfl (fun g27 => ?_) (fun g27 => ?_)
   ·refine (show WD _ _ _ _ _ _ _ _ _ _ _ _ from ?_) hcl
    refine WD.takeG (i := 16) rfl rfl rfl rfl rfl rfl (by kernel_rfl) (by kernel_rfl) (by kernel_rfl) (fun _ _ _ h => hP _ _ _ _ _ h) (by kernel_rfl) need_none (Yl.move rfl) ?_
    refine WD.takeG (i := 17) rfl rfl rfl rfl rfl rfl (by kernel_rfl) (by kernel_rfl) (by kernel_rfl) (fun _ _ _ h => hP _ _ _ _ _ h) (by kernel_rfl) need_none (Yl.move rfl) ?_
    refine WD.takeG (i := 18) rfl rfl rfl rfl rfl rfl (by kernel_rfl) (by kernel_rfl) (by kernel_rfl) (fun _ _ _ h => hP _ _ _ _ _ h) (by kernel_rfl) need_none (Yl.move rfl) ?_
    refine WD.takeG (i := 19) rfl rfl rfl rfl rfl rfl (by kernel_rfl) (by kernel_rfl) (by kernel_rfl) (fun _ _ _ h => hP _ _ _ _ _ h) (by kernel_rfl) need_none (Yl.indexAddr F.sl23 rfl rfl hlt) ?_
    refine WD.takeG (i := 20) rfl rfl rfl rfl rfl rfl (by kernel_rfl) (by kernel_rfl) (by kernel_rfl) (fun _ _ _ h => hP _ _ _ _ _ h) (by kernel_rfl) need_none (Yl.fieldAddr F.fld128_1 rfl) ?_
    refine WD.takeG (i := 21) rfl rfl rfl rfl rfl rfl (by kernel_rfl) (by kernel_rfl) (by kernel_rfl) (fun _ _ _ h => hP _ _ _ _ _ h) (by kernel_rfl) (need_at 2 26 rfl (by kernel_rfl)) (Yl.load1 F.one24 rfl) ?_
    refine WD.takeG (i := 22) rfl rfl rfl rfl rfl rfl (by kernel_rfl) (by kernel_rfl) (by kernel_rfl) (fun _ _ _ h => hP _ _ _ _ _ h) (by kernel_rfl) need_none (Yl.bin (v := .int .u32 ((n &&& q.2 : Nat) : Int)) rfl rfl (fun w => run_and hn hq2 _ _ _ w)) ?_
    refine WD.takeG (i := 23) rfl rfl rfl rfl rfl rfl (by kernel_rfl) (by kernel_rfl) (by kernel_rfl) (fun _ _ _ h => hP _ _ _ _ _ h) (by kernel_rfl) need_none (Yl.bin (v := .int .u32 ((n &&& q.2 &&& 16777215 : Nat) : Int)) rfl rfl (fun w => run_and (and2_lt hn) (by decide) _ _ _ w)) ?_
    refine WD.takeG (i := 24) rfl rfl rfl rfl rfl rfl (by kernel_rfl) (by kernel_rfl) (by kernel_rfl) (fun _ _ _ h => hP _ _ _ _ _ h) (by kernel_rfl) need_none (Yl.eqI rfl rfl) ?_
    refine jT 25 rfl (Yl.pickT rfl rfl) ?_
    refine jD ?_
    refine WQ.byCut hQ (subF_bool ?_ ⟨rfl, rfl, rfl, trivial⟩ rfl)
    first | exact (inQ_T g27).symm | exact inQ_T g27 | exact inQ_F g27 | exact (inQ_F g27).symm
   ·refine (show WD _ _ _ _ _ _ _ _ _ _ _ _ from ?_) hcl
    refine WD.skip (i := 16) rfl rfl rfl rfl rfl rfl rfl (by kernel_rfl) (by kernel_rfl) (by kernel_rfl) (fun _ _ _ h => hP _ _ _ _ _ h) (by kernel_rfl) ?_
    refine WD.skip (i := 17) rfl rfl rfl rfl rfl rfl rfl (by kernel_rfl) (by kernel_rfl) (by kernel_rfl) (fun _ _ _ h => hP _ _ _ _ _ h) (by kernel_rfl) ?_
    refine WD.skip (i := 18) rfl rfl rfl rfl rfl rfl rfl (by kernel_rfl) (by kernel_rfl) (by kernel_rfl) (fun _ _ _ h => hP _ _ _ _ _ h) (by kernel_rfl) ?_
    refine WD.skip (i := 19) rfl rfl rfl rfl rfl rfl rfl (by kernel_rfl) (by kernel_rfl) (by kernel_rfl) (fun _ _ _ h => hP _ _ _ _ _ h) (by kernel_rfl) ?_
    refine WD.skip (i := 20) rfl rfl rfl rfl rfl rfl rfl (by kernel_rfl) (by kernel_rfl) (by kernel_rfl) (fun _ _ _ h => hP _ _ _ _ _ h) (by kernel_rfl) ?_
    refine WD.skip (i := 21) rfl rfl rfl rfl rfl rfl rfl (by kernel_rfl) (by kernel_rfl) (by kernel_rfl) (fun _ _ _ h => hP _ _ _ _ _ h) (by kernel_rfl) ?_
    refine WD.skip (i := 22) rfl rfl rfl rfl rfl rfl rfl (by kernel_rfl) (by kernel_rfl) (by kernel_rfl) (fun _ _ _ h => hP _ _ _ _ _ h) (by kernel_rfl) ?_
    refine WD.skip (i := 23) rfl rfl rfl rfl rfl rfl rfl (by kernel_rfl) (by kernel_rfl) (by kernel_rfl) (fun _ _ _ h => hP _ _ _ _ _ h) (by kernel_rfl) ?_
    refine WD.skip (i := 24) rfl rfl rfl rfl rfl rfl rfl (by kernel_rfl) (by kernel_rfl) (by kernel_rfl) (fun _ _ _ h => hP _ _ _ _ _ h) (by kernel_rfl) ?_
    refine jT 25 rfl (Yl.pickF rfl rfl) ?_
    refine jD ?_
    refine WQ.byCut hQ (subF_bool ?_ ⟨rfl, rfl, rfl, trivial⟩ rfl)
    first | exact (inQ_T g27).symm | exact inQ_T g27 | exact inQ_F g27 | exact (inQ_F g27).symm
  refine jN 1 ?_
  refine WC.cond rfl (fun h37 => ?_) (fun h37 => ?_)
  ·have hin : inN l n = true := by unfold inN; rw [List.any_eq_true]; exact ⟨q, List.mem_of_getElem? hx, h37⟩
   refine jN 12 ?_
   exact WQ.ret (rs := [.tmp 4]) rfl (.tmp rfl .nil) (fun w hS => ⟨by rw [hin]; rfl, hS⟩)
  ·refine jN 11 ?_
   refine WQ.back (i + 1) ?_ ?_ ?_ ?_
   ·exact ⟨hlt, inN_no hx hno h37⟩
   ·omega
   ·exact ⟨rfl, rfl, rfl, trivial⟩
   ·rfl
 ·have hie : i = l.length := by simp at h8; omega
  subst hie
  rw [List.take_length] at hno
  refine jN 12 ?_
  exact WQ.ret (rs := [.tmp 4]) rfl (.tmp rfl .nil) (fun w hS => ⟨by show _ = Ending.returned (Value.bool (inN l n)); unfold inN; rw [hno]; rfl, hS⟩)
theorem dwith_c (g : Nat) (bop : Bool → Bool → Bool) (opf : Nat → Nat → Nat × Bool) (hop : OpOk g bop opf) (s t : BT) (aa ab : Option Addr) (ca cb : Nat) (w : World) (hs : RdD w s aa) (ht : RdD w t ab) :
  Calls Tryz.prog 105 [dval s aa ca, dval t ab cb, Value.func (.func g) [].toArray [].toArray].toArray w (DPost (fun c => bop (s.ev c) (t.ev c)) w) := by
 refine enter Tryz.func105 rfl Tryz.ntmps105 rfl (St.init _) ?_
 refine jN 3 ?_
 refine WL.boxN rfl rfl (fun b3 => ?_)
 refine jN 1 ?_
 refine WL.boxN rfl rfl (fun b4 => ?_)
 refine jN 1 ?_
 refine WL.alloc F.zero50 rfl (fun b6 => ?_)
 refine jN 3 ?_
 refine WC.cutPE (α := Nat × Nat × Nat × List Nat) (fun x => [(7, pp x.1), (2, Value.func (.func g) [].toArray [].toArray), (3, pp b3), (4, pp b4), (6, pp b6)]) (fun x => [pt x.1 [pp x.2.1, .slice aa (canon s).1.length ca, .int .i64 ((canon s).2 : Int), .slice ab (canon t).1.length cb, .int .i64 ((canon t).2 : Int), .map (some x.2.2.1)] 251, mkr x.2.2.2 x.2.1 [], mpg enc2 x.2.2.1 (fun _ => none), pt b3 [.slice aa (canon s).1.length ca, .int .i64 ((canon s).2 : Int)] 50, pt b4 [.slice ab (canon t).1.length cb, .int .i64 ((canon t).2 : Int)] 50, pt b6 [.slice none 0 0, .int .i64 0] 50]) (fun c a d v w h => by cases d <;> exact h) (fun Q' hP hQ => ?_) (fun xE => ?_)
 ·refine WC.drawsL (by kernel_rfl) (FactsOk.cons (ds := [5]) (LoadOk.whole (t := 3) rfl jM) (FactsOk.cons (ds := [5]) (LoadOk.whole (t := 4) rfl jM) (FactsOk.nil))) ?_
  refine jF 1 0 rfl rfl (Yl.loadN F.agg50 rfl rfl) ?_
  refine jF 2 1 rfl rfl (Yl.loadN F.agg50 rfl rfl) ?_
  refine WD.two (i := 0) (j := 3) (by kernel_rfl) rfl rfl ?_ ?_
  ·refine WL.call0 (β := List Nat × Nat) (res := fun x => .returned (pp x.2)) (cs := fun x => [mkr x.1 x.2 []]) (ψ := fun _ => True) F.fun96 (fun d h => by cases h; rfl) rfl (fun w hS => (newMaker_c w).mono (fun e w2 ⟨x, h1, h2⟩ => ⟨x, trivial, h1, h2⟩)) (fun x8 _ => ?_)
   refine WD.on (closed_of (by kernel_rfl)) (fun w hS => Sx.keep ((fun j v hv => by rw [Nat.zero_add]; exact hS.cell jM hv)) (Sx.keep ((fun j v hv => by rw [Nat.zero_add]; exact hS.cell jM hv)) (Sx.none))) ?_
   refine jA 3 rfl ?_
   refine WL.makeMapG enc2 rfl (fun b11 => ?_)
   refine WD.on (closed_of (by kernel_rfl)) (fun w hS => Sx.keep ((fun j v hv => by rw [Nat.zero_add]; exact hS.cell jM hv)) (Sx.keep ((fun j v hv => by rw [Nat.zero_add]; exact hS.cell jM hv)) (Sx.none))) ?_
   refine jT 4 rfl (Yl.build F.stT251 rfl jB) ?_
   refine jA 5 rfl ?_
   refine WL.boxN rfl rfl (fun b13 => ?_)
   refine jG ?_
   refine jT 6 rfl (Yl.assign rfl) ?_
   refine jD ?_
   refine WQ.chunks (C' := [pt b13 [pp x8.2, .slice aa (canon s).1.length ca, .int .i64 ((canon s).2 : Int), .slice ab (canon t).1.length cb, .int .i64 ((canon t).2 : Int), .map (some b11)] 251, mkr x8.1 x8.2 [], mpg enc2 b11 (fun _ => none), pt b3 [.slice aa (canon s).1.length ca, .int .i64 ((canon s).2 : Int)] 50, pt b4 [.slice ab (canon t).1.length cb, .int .i64 ((canon t).2 : Int)] 50, pt b6 [.slice none 0 0, .int .i64 0] 50]) (fun w hS => (jK hS)) ?_
   exact WQ.byCut (hQ (b13, x8.2, b11, x8.1)) ⟨rfl, rfl, rfl, rfl, rfl, trivial⟩
  ·refine WL.makeMapG enc2 rfl (fun b11 => ?_)
   refine WD.on (closed_of (by kernel_rfl)) (fun w hS => Sx.keep ((fun j v hv => by rw [Nat.zero_add]; exact hS.cell jM hv)) (Sx.keep ((fun j v hv => by rw [Nat.zero_add]; exact hS.cell jM hv)) (Sx.none))) ?_
   refine jA 0 rfl ?_
   refine WL.call0 (β := List Nat × Nat) (res := fun x => .returned (pp x.2)) (cs := fun x => [mkr x.1 x.2 []]) (ψ := fun _ => True) F.fun96 (fun d h => by cases h; rfl) rfl (fun w hS => (newMaker_c w).mono (fun e w2 ⟨x, h1, h2⟩ => ⟨x, trivial, h1, h2⟩)) (fun x8 _ => ?_)
   refine WD.on (closed_of (by kernel_rfl)) (fun w hS => Sx.keep ((fun j v hv => by rw [Nat.zero_add]; exact hS.cell jM hv)) (Sx.keep ((fun j v hv => by rw [Nat.zero_add]; exact hS.cell jM hv)) (Sx.none))) ?_
   refine jT 4 rfl (Yl.build F.stT251 rfl jB) ?_
   refine jA 5 rfl ?_
   refine WL.boxN rfl rfl (fun b13 => ?_)
   refine jG ?_
   refine jT 6 rfl (Yl.assign rfl) ?_
   refine jD ?_
   refine WQ.chunks (C' := [pt b13 [pp x8.2, .slice aa (canon s).1.length ca, .int .i64 ((canon s).2 : Int), .slice ab (canon t).1.length cb, .int .i64 ((canon t).2 : Int), .map (some b11)] 251, mkr x8.1 x8.2 [], mpg enc2 b11 (fun _ => none), pt b3 [.slice aa (canon s).1.length ca, .int .i64 ((canon s).2 : Int)] 50, pt b4 [.slice ab (canon t).1.length cb, .int .i64 ((canon t).2 : Int)] 50, pt b6 [.slice none 0 0, .int .i64 0] 50]) (fun w hS => (jK hS)) ?_
   exact WQ.byCut (hQ (b13, x8.2, b11, x8.1)) ⟨rfl, rfl, rfl, rfl, rfl, trivial⟩
 obtain ⟨bp, bm, bs, F1⟩ := xE
 show WQ _ _ _ _ _ _ [(7, pp bp), (2, Value.func (.func g) [].toArray [].toArray), (3, pp b3), (4, pp b4), (6, pp b6)] [pt bp [pp bm, .slice aa (canon s).1.length ca, .int .i64 ((canon s).2 : Int), .slice ab (canon t).1.length cb, .int .i64 ((canon t).2 : Int), .map (some bs)] 251, mkr F1 bm [], mpg enc2 bs (fun _ => none), pt b3 [.slice aa (canon s).1.length ca, .int .i64 ((canon s).2 : Int)] 50, pt b4 [.slice ab (canon t).1.length cb, .int .i64 ((canon t).2 : Int)] 50, pt b6 [.slice none 0 0, .int .i64 0] 50]
 refine jN 2 ?_
 refine WC.chunks (C' := [jns (F1 ++ ([bs] ++ [])) bm bs [] (fun _ => none), pt bp [pp bm, .slice aa (canon s).1.length ca, .int .i64 ((canon s).2 : Int), .slice ab (canon t).1.length cb, .int .i64 ((canon t).2 : Int), .map (some bs)] 251, pt b3 [.slice aa (canon s).1.length ca, .int .i64 ((canon s).2 : Int)] 50, pt b4 [.slice ab (canon t).1.length cb, .int .i64 ((canon t).2 : Int)] 50, pt b6 [.slice none 0 0, .int .i64 0] 50]) (fun w hS => St.jnsClose (f := fun _ => none) (jK hS)) ?_
 ·refine WC.drawsL (by kernel_rfl) (FactsOk.cons (ds := [11, 12]) (LoadOk.one (t := 7) (off := 0) rfl jM rfl) (FactsOk.cons (ds := [10, 11, 12]) (LoadOk.one (t := 3) (off := 1) rfl jM rfl) (FactsOk.cons (ds := [10, 11, 12]) (LoadOk.one (t := 4) (off := 1) rfl jM rfl) (FactsOk.nil)))) ?_
  refine jT 0 rfl (Yl.move rfl) ?_
  refine jT 1 rfl (Yl.nilCheck rfl) ?_
  refine jT 2 rfl (Yl.fieldAddr0 F.fld251_0 rfl) ?_
  refine jF 3 0 rfl rfl (Yl.load1 F.one187 rfl) ?_
  refine jT 4 rfl (Yl.move rfl) ?_
  refine jT 5 rfl (Yl.fieldAddr0 F.fld50_1 rfl) ?_
  refine jF 6 1 rfl rfl (Yl.load1 F.one3 rfl) ?_
  refine jT 7 rfl (Yl.fieldAddr0 F.fld50_1 rfl) ?_
  refine jF 8 2 rfl rfl (Yl.load1 F.one3 rfl) ?_
  refine jT 9 rfl (Yl.move rfl) ?_
  refine jA 10 rfl ?_
  refine WL.callC (β := { z : JT // JPost bop (canon s).1 (canon t).1 [] 0 (canon s).2 (canon t).2 z }) (res := fun z => .int .i64 (z.1.2.2.2 : Int)) (cs := fun z => [jns z.1.1 bm bs z.1.2.1 z.1.2.2.1]) (Cs := [jns (F1 ++ ([bs] ++ [])) bm bs [] (fun _ => none)]) (C1 := [pt bp [pp bm, .slice aa (canon s).1.length ca, .int .i64 ((canon s).2 : Int), .slice ab (canon t).1.length cb, .int .i64 ((canon t).2 : Int), .map (some bs)] 251, pt b3 [.slice aa (canon s).1.length ca, .int .i64 ((canon s).2 : Int)] 50, pt b4 [.slice ab (canon t).1.length cb, .int .i64 ((canon t).2 : Int)] 50, pt b6 [.slice none 0 0, .int .i64 0] 50]) (O' := (F1 ++ ([bs] ++ []))) F.fun142 (fun d h => by cases h; rfl) rfl (List.Perm.refl _) bun_O1 bun_O2 (fun w hS hS2 => join_c g bop opf hop bp bm bs (canon s).1 (canon t).1 aa ab ca cb (canon s).2 (canon t).2 (canon_mk hs.1) (canon_mk ht.1) (Nat.le_of_lt (canon_len hs.1)) (Nat.le_of_lt (canon_len ht.1)) 25 0 (by omega) (by omega) (F1 ++ ([bs] ++ [])) [] (fun _ => none) (canon s).2 (canon t).2 w (canon_at s).1 (canon_at t).1 (by rw [(canon_at s).2]; exact hs.1) (by rw [(canon_at t).2]; exact ht.1) Mk.nil (fun _ _ _ h => by cases h) (by decide) (jenv_of hS hs.2 ht.2) hS2) (fun ⟨z1, hz1⟩ => ?_)
  refine WD.on (closed_of (by kernel_rfl)) (fun w hS => Sx.keep (hS.cell jM rfl) (Sx.gone rfl (Sx.gone rfl (Sx.none)))) ?_
  refine jA 11 rfl ?_
  obtain ⟨G1, l1, f1, r1⟩ := z1
  obtain ⟨j1, j2, j3, j4, j5⟩ := hz1
  dsimp only at j1 j2 j3 j4 j5 ⊢
  rw [(canon_at s).2, (canon_at t).2] at j4
  have hl1 : l1.length ≤ 16777216 := by
   have e : 2 ^ (24 - 0) = 16777216 := by decide
   simp only [List.length_nil] at j3
   omega
  refine WA.openB (fun G3 _ _ _ => ?_)
  simp only [jnCs, List.cons_append, List.nil_append]
  refine WL.callC (β := Option Addr × Nat) (res := fun z => dval (trs l1 r1) z.1 z.2) (cs := fun z => [dC z.1 z.2 (trs l1 r1)]) (Cs := [mkr G3 bm l1]) (C1 := [mpg enc2 bs (fun q => (f1 q).map encI), pt bp [pp bm, .slice aa (canon s).1.length ca, .int .i64 ((canon s).2 : Int), .slice ab (canon t).1.length cb, .int .i64 ((canon t).2 : Int), .map (some bs)] 251, pt b3 [.slice aa (canon s).1.length ca, .int .i64 ((canon s).2 : Int)] 50, pt b4 [.slice ab (canon t).1.length cb, .int .i64 ((canon t).2 : Int)] 50, pt b6 [.slice none 0 0, .int .i64 0] 50]) (O' := G3) F.fun98 (fun d h => by cases h; rfl) rfl (List.Perm.refl _) bun_O1 bun_O2 (fun w hS hS2 => done_c G3 bm l1 r1 w j1 j4.lt (j4.ok 0 hs.1 ht.1) hl1 hS2) (fun z3 => ?_)
  refine jG ?_
  refine jA 12 rfl ?_
  refine WL.storeN F.agg50 rfl rfl rfl jO jU jS ?_
  refine jG ?_
  refine jD ?_
  refine jN 2 ?_
  refine WQ.ret (rs := [.cell 6 50]) rfl (.cellN F.agg50 rfl jM rfl .nil) (fun w hS => ⟨⟨(trs l1 r1, z3), j4.ok 0 hs.1 ht.1, j4.ev⟩, rfl, (jK hS)⟩)
theorem And_c (s t : BT) (aa ab : Option Addr) (ca cb : Nat) (w : World) (hs : RdD w s aa) (ht : RdD w t ab) :
  Calls Tryz.prog 55 [dval s aa ca, dval t ab cb].toArray w (DPost (fun c => (fun p q : Bool => p && q) (s.ev c) (t.ev c)) w) := by
 refine enter Tryz.func55 rfl Tryz.ntmps55 rfl (St.init _) ?_
 refine jN 3 ?_
 refine WL.boxN rfl rfl (fun b2 => ?_)
 refine jN 1 ?_
 refine WL.boxN rfl rfl (fun b3 => ?_)
 refine jN 1 ?_
 refine WL.alloc F.zero50 rfl (fun b4 => ?_)
 refine jN 9 ?_
 refine WL.call0 (β := DRes (fun c => (fun p q : Bool => p && q) (s.ev c) (t.ev c))) (res := fun z => .returned z.v) (cs := fun z => [z.ch]) (ψ := fun _ => True) F.fun105 (fun d h => by cases h; rfl) rfl (fun w hS => (dwith_c _ _ _ both_ok s t aa ab ca cb w (hs.next0 hS) (ht.next0 hS)).mono (fun e w2 ⟨x, h1, h2⟩ => ⟨x, trivial, h1, h2⟩)) (fun z7 _ => ?_)
 refine WL.step ?_
 refine WL.storeN F.agg50 rfl rfl rfl (by simp [Value.oneCell']) (by repeat (first | exact Upd.here | apply Upd.there)) (by repeat constructor) ?_
 refine WL.nil ?_
 refine WQ.then_normal ?_
 refine WC.ret ?_
 refine WQ.ret (rs := [.cell 4 50]) rfl (.cellN F.agg50 rfl jM rfl .nil) (fun w hS => ⟨z7, rfl, (jK hS)⟩)
theorem Or_c (s t : BT) (aa ab : Option Addr) (ca cb : Nat) (w : World) (hs : RdD w s aa) (ht : RdD w t ab) :
  Calls Tryz.prog 57 [dval s aa ca, dval t ab cb].toArray w (DPost (fun c => (fun p q : Bool => p || q) (s.ev c) (t.ev c)) w) := by
 refine enter Tryz.func57 rfl Tryz.ntmps57 rfl (St.init _) ?_
 refine jN 3 ?_
 refine WL.boxN rfl rfl (fun b2 => ?_)
 refine jN 1 ?_
 refine WL.boxN rfl rfl (fun b3 => ?_)
 refine jN 1 ?_
 refine WL.alloc F.zero50 rfl (fun b4 => ?_)
 refine jN 9 ?_
 refine WL.call0 (β := DRes (fun c => (fun p q : Bool => p || q) (s.ev c) (t.ev c))) (res := fun z => .returned z.v) (cs := fun z => [z.ch]) (ψ := fun _ => True) F.fun105 (fun d h => by cases h; rfl) rfl (fun w hS => (dwith_c _ _ _ either_ok s t aa ab ca cb w (hs.next0 hS) (ht.next0 hS)).mono (fun e w2 ⟨x, h1, h2⟩ => ⟨x, trivial, h1, h2⟩)) (fun z7 _ => ?_)
 refine WL.step ?_
 refine WL.storeN F.agg50 rfl rfl rfl (by simp [Value.oneCell']) (by repeat (first | exact Upd.here | apply Upd.there)) (by repeat constructor) ?_
 refine WL.nil ?_
 refine WQ.then_normal ?_
 refine WC.ret ?_
 refine WQ.ret (rs := [.cell 4 50]) rfl (.cellN F.agg50 rfl jM rfl .nil) (fun w hS => ⟨z7, rfl, (jK hS)⟩)
abbrev fcf (f : Cf → Bool) : Cf → Bool := f
theorem False_c (w : World) : Calls Tryz.prog 56 [].toArray w (DPost (fun _ => false) w) := by
 refine enter Tryz.func56 rfl Tryz.ntmps56 rfl (St.init _) ?_
 refine jN 3 ?_
 refine WL.alloc F.zero50 rfl (fun b0 => ?_)
 refine jN 11 ?_
 refine WQ.ret (rs := [.cell 0 50]) rfl (.cellN F.agg50 rfl jM rfl .nil) (fun w hS => ⟨⟨(.lf false, none, 0), trivial, fun _ => rfl⟩, rfl, ?_⟩)
 exact (hS.drop).rowNil _ _
theorem Empty_c (t : BT) (a : Option Addr) (c : Nat) (w : World) : Pure Tryz.prog 73 [dval t a c] w (.bool ((canon t).2 == 0)) := by
 refine enter Tryz.func73 rfl Tryz.ntmps73 rfl (St.init _) ?_
 refine jN 3 ?_
 refine WL.boxN rfl rfl (fun b1 => ?_)
 refine jN 17 ?_
 refine WQ.ret (rs := [.tmp 2]) rfl (.tmp rfl .nil) (fun w hS => ⟨?_, hS.drop⟩)
 show Ending.returned (.bool (((canon t).2 : Int) == 0)) = _
 have e : (((canon t).2 : Int) == 0) = ((canon t).2 == 0) := by (rw [Bool.eq_iff_iff]; simp)
 rw [e]
theorem Has_c (t : BT) (a : Option Addr) (c n : Nat) (hn : n < 4294967296) (w : World) (ht : RdD w t a) : Pure Tryz.prog 62 [dval t a c, .int .u32 (n : Int)] w (.bool (t.ev (cfg n))) := by
 have hmk := canon_mk ht.1
 have hcl := canon_len ht.1
 refine enter Tryz.func62 rfl Tryz.ntmps62 rfl (St.init _) ?_
 refine jN 3 ?_
 refine WL.boxN rfl rfl (fun b2 => ?_)
 refine jN 16 ?_
 refine WC.loop (α := Nat) (fun r => r < (canon t).1.length + 2 ∧ (trs (canon t).1 r).ev (cfg n) = t.ev (cfg n)) (fun r => [(1, .int .u32 (n : Int)), (2, pp b2), (5, .int .i64 (r : Int))]) (fun _ => [pt b2 [.slice a (canon t).1.length c, .int .i64 ((canon t).2 : Int)] 50]) (fun r => r) ((canon t).2) ?_ ?_ ?_ ?_
 ·exact ⟨(canon_at t).1, by rw [(canon_at t).2]⟩
 ·exact ⟨rfl, rfl, rfl, trivial⟩
 ·rfl
 rintro r ⟨hr, hev⟩
 show WC _ _ _ _ _ _ _ [(1, .int .u32 (n : Int)), (2, pp b2), (5, .int .i64 (r : Int))] [pt b2 [.slice a (canon t).1.length c, .int .i64 ((canon t).2 : Int)] 50]
 refine jN 9 ?_
 refine WC.cond rfl (fun h10 => ?_) (fun h10 => ?_)
 ·have h2 : 2 ≤ r := by simp at h10; omega
  obtain ⟨k, rfl⟩ : ∃ k, r = k + 2 := ⟨r - 2, by omega⟩
  have hk : k < (canon t).1.length := by omega
  obtain ⟨x, hx⟩ : ∃ x, (canon t).1[k]? = some x := ⟨_, List.getElem?_eq_getElem hk⟩
  have hkb := hmk.kid k x hx
  have htr := hmk.at hx
  obtain ⟨bl, off, rfl, hcx⟩ := ht.2.at hx
  have hri : ((k : Nat) : Int) = ((k + 2 : Nat) : Int) - 2 := by omega
  refine jN 13 ?_
  refine WA.say 14 (.int .i64 (k : Int)) (by rw [hri]; rfl) ?_
  refine jN 1 ?_
  refine WL.indexAddr F.sl48 rfl rfl rfl hk ?_
  refine jN 1 ?_
  refine WL.loadN F.agg186 rfl rfl (vs := [Value.int .i64 (x.1 : Int), .int .i64 (x.2.1 : Int), .int .i64 (x.2.2 : Int)]) rfl (fun w hS j v hv => hS.oldc (hcx j v hv) (by simp)) ?_
  refine jN 1 ?_
  refine WL.alloc F.zero186 rfl (fun b6 => ?_)
  refine jN 23 ?_
  refine WL.bin rfl rfl rfl (fun w => run_shr (by omega) _ _ _ w) ?_
  refine jN 1 ?_
  refine WL.bin rfl rfl rfl (fun w => run_and (b := 1) (Nat.lt_of_le_of_lt (by rw [Nat.shiftRight_eq_div_pow]; exact Nat.div_le_self _ _) hn) (by decide) _ _ _ w) ?_
  refine jN 4 ?_
  refine WC.cond rfl (fun h24 => ?_) (fun h24 => ?_)
  ·have hbit : cfg n x.1 = true := by (rw [Fm.testBit_shift] at h24; exact h24)
   refine jN 9 ?_
   refine WQ.chunks (C' := [pt b2 [.slice (some ⟨bl, off, none⟩) (canon t).1.length c, .int .i64 ((canon t).2 : Int)] 50]) (fun w hS => (jK hS)) ?_
   refine WQ.back (x.2.2) ?_ ?_ ?_ ?_
   ·exact ⟨by omega, by rw [← hev, htr]; simp only [BT.ev, hbit, cond_true]⟩
   ·(show x.2.2 < k + 2; omega)
   ·exact ⟨rfl, rfl, rfl, trivial⟩
   ·rfl
  ·have hbit : cfg n x.1 = false := by (rw [Fm.testBit_shift] at h24; exact h24)
   refine jN 2 ?_
   refine WQ.chunks (C' := [pt b2 [.slice (some ⟨bl, off, none⟩) (canon t).1.length c, .int .i64 ((canon t).2 : Int)] 50]) (fun w hS => (jK hS)) ?_
   refine WQ.back (x.2.1) ?_ ?_ ?_ ?_
   ·exact ⟨by omega, by rw [← hev, htr]; simp only [BT.ev, hbit, cond_false]⟩
   ·(show x.2.1 < k + 2; omega)
   ·exact ⟨rfl, rfl, rfl, trivial⟩
   ·rfl
 ·have h2 : r < 2 := by simp at h10; omega
  have hfin : (r == 1) = t.ev (cfg n) := by
   rw [← hev]
   rcases r with _ | _ | r
   ·rw [(trs_zero _).1]; rfl
   ·rw [(trs_zero _).2]; rfl
   ·omega
  refine jN 16 ?_
  refine WQ.ret (rs := [.tmp 4]) rfl (.tmp rfl .nil) (fun w hS => ⟨?_, hS.drop⟩)
  show Ending.returned (.bool ((r : Int) == 1)) = _
  rw [← hfin]
  have e : ((r : Int) == 1) = (r == 1) := by (rw [Bool.eq_iff_iff]; simp; omega)
  rw [e]
theorem rdO_new {w0 w : World} {C : List Chunk} {ch : Chunk} {F : List Nat} {l : List Dec} {a : Option Addr} (hS : St w0 [] C w) (hm : ch ∈ C) (hc : FpIs ch F) (h : RdDec w0 l a) : RdDecO w l a F := fun j u hu => by
 obtain ⟨b, off, e1, e2⟩ := h j u hu
 refine ⟨b, off, e1, hS.oldc e2 (by simp), fun hF => ?_⟩
 have := (hS.bnd _ hm b ((hc b).2 hF)).2 (World.block_lt_of_cell? w0 _ e2)
 simp at this
theorem fi_len {φ : BT → BT} {la l : List Dec} {out : List Int} {x : Dec} (h : FI φ la out l) (hla : la.length < 16777216) (hx : la[out.length - 2]? = some x) : l.length ≤ 16777214 := by
 have h1 := (List.getElem?_eq_some_iff.1 hx).1
 have := h.len
 omega
theorem not_join (bm : Nat) (la : List Dec) (hla : Mk la) (hll : la.length < 16777216) (out : List Int) (s : List Nat × List Dec) (x : Dec) (z1 z2 : Int) (w : World) (hx : la[out.length - 2]? = some x) (hI : FI notT la out s.2) (h1 : out[x.2.1]? = some z1) (h2 : out[x.2.2]? = some z2) (hS : St w s.1 [mkr s.1 bm s.2] w) :
  Calls Tryz.prog 97 ([pp bm] ++ [Value.int .i64 (x.1 : Int), .int .i64 z1, .int .i64 z2] ++ []).toArray w fun e w' => ∃ y : { y : (List Nat × List Dec) × Int // FI notT la (out ++ [y.2]) y.1.2 }, e = .returned (.int .i64 y.1.2) ∧ St w s.1 [mkr y.1.1.1 bm y.1.1.2] w' := by
 obtain ⟨p1, rfl, e1, f1⟩ := hI.at' _ _ h1
 obtain ⟨p2, rfl, e2, f2⟩ := hI.at' _ _ h2
 refine (mnode_c s.1 bm s.2 x.1 p1 p2 w (hla.kid _ _ hx).1 hI.ismk e1 e2 (fi_len hI hll hx) hS).mono ?_
 rintro e w' ⟨⟨⟨F', l', r⟩, hm, hl⟩, he, hS'⟩
 refine ⟨⟨((F', l'), (r : Int)), hI.step hla hx hm.ismk hm.pre hl hm.lt ?_⟩, he, hS'⟩
 rw [hm.tree, f1, f2]; rfl
abbrev wcCs (bi bmv bon bm : Nat) (i : Int) (on : Bool) (l : List Dec) (F1 : List Nat) : List Chunk := [pt bi [.int .i64 i] 3, pt bmv [pp bm] 187, pt bon [.bool on] 4, mkr F1 bm l]
def wch (F : List Nat) (bi bmv bon bm : Nat) (i : Int) (on : Bool) (l : List Dec) : Chunk := bun F (wcCs bi bmv bon bm i on l) (fun _ => True)
theorem Not_c (t : BT) (a : Option Addr) (c : Nat) (w : World) (ht : RdD w t a) : Calls Tryz.prog 72 [dval t a c].toArray w (DPost (fun c => !t.ev c) w) := by
 have hmk := canon_mk ht.1
 have hcl := canon_len ht.1
 refine enter Tryz.func72 rfl Tryz.ntmps72 rfl (St.init _) ?_
 refine jN 3 ?_
 refine WL.boxN rfl rfl (fun b1 => ?_)
 refine jN 1 ?_
 refine WL.alloc F.zero50 rfl (fun b2 => ?_)
 refine jN 5 ?_
 refine WL.call0 (β := List Nat × Nat) (res := fun x => .returned (pp x.2)) (cs := fun x => [mkr x.1 x.2 []]) (ψ := fun _ => True) F.fun96 (fun d h => by cases h; rfl) rfl (fun w hS => (newMaker_c w).mono (fun e w2 ⟨x, h1, h2⟩ => ⟨x, trivial, h1, h2⟩)) (fun ⟨F1, bm⟩ _ => ?_)
 refine WL.step ?_
 refine WL.assign rfl rfl ?_
 refine WL.nil ?_
 refine WQ.then_normal ?_
 refine WC.seq ?_
 refine WC.region ?_
 refine WL.step ?_
 refine WL.move rfl rfl ?_
 refine WL.step ?_
 refine WL.loadW F.agg50 rfl rfl (by repeat (first | exact List.Mem.head _ | apply List.Mem.tail)) rfl ?_
 refine WL.step ?_
 refine WL.move rfl rfl ?_
 refine WL.step ?_
 refine WL.makeFunc (us := [pp bm]) (vs := []) rfl rfl rfl ?_
 refine jN 1 ?_
 refine WL.callC (β := { y : List Int × (List Nat × List Dec) × Int // FI notT (canon t).1 y.1 y.2.1.2 ∧ y.1.length = (canon t).1.length + 2 ∧ y.1[(canon t).2]? = some y.2.2 }) (res := fun y => .int .i64 y.1.2.2) (cs := fun y => [mkr y.1.2.1.1 bm y.1.2.1.2]) (Cs := [mkr F1 bm []]) (C1 := [pt b2 [.slice none 0 0, .int .i64 0] 50, pt b1 [.slice a (canon t).1.length c, .int .i64 ((canon t).2 : Int)] 50]) (O' := F1) F.fun117 (fun d h => by cases h; rfl) rfl (List.Perm.refl _) bun_O1 bun_O2 (fun w hS hS2 => Fold_c (σ := List Nat × List Dec) (fun s => mkr s.1 bm s.2) (fun s => s.1) (fun s => FpIs.bun) 97 F.fun97 [pp bm] [] (canon t).1 a c (canon t).2 1 0 (fun out s => FI notT (canon t).1 out s.2) (Nat.le_of_lt hcl) (fun k x hx => ⟨(hmk.kid k x hx).2.1, (hmk.kid k x hx).2.2.1⟩) (canon_at t).1 (F1, []) (FI.nil (b0 := true) (b1 := false) rfl rfl) (not_join bm (canon t).1 hmk hcl) w (rdO_new hS jM FpIs.bun ht.2) hS2) (fun ⟨⟨out, ⟨G1, l1⟩, z⟩, hI, hol, hz⟩ => ?_)
 obtain ⟨r1, rfl, hr1, htr⟩ := hI.at' _ _ hz
 rw [(canon_at t).2] at htr
 have hI9 := hI.len
 dsimp only at hI9 hol hI
 have hl1 : l1.length ≤ 16777216 := by omega
 refine jN 1 ?_
 refine WL.callC (β := Option Addr × Nat) (res := fun z => dval (trs l1 r1) z.1 z.2) (cs := fun z => [dC z.1 z.2 (trs l1 r1)]) (Cs := [mkr G1 bm l1]) (C1 := [pt b2 [.slice none 0 0, .int .i64 0] 50, pt b1 [.slice a (canon t).1.length c, .int .i64 ((canon t).2 : Int)] 50]) (O' := G1) F.fun98 (fun d h => by cases h; rfl) rfl (List.Perm.refl _) bun_O1 bun_O2 (fun w hS hS2 => done_c G1 bm l1 r1 w hI.ismk hr1 (by rw [htr]; exact notT_ok ht.1) hl1 hS2) (fun z3 => ?_)
 refine jN 5 ?_
 refine WQ.ret (rs := [.cell 2 50]) rfl (.cellN F.agg50 rfl jM rfl .nil) (fun w hS => ⟨⟨(trs l1 r1, z3), by rw [htr]; exact notT_ok ht.1, fun c => by rw [htr]; exact notT_ev t c⟩, rfl, (jK hS)⟩)
structure CubeG where
 m : Nat
 G : List Nat
 l : List Dec
 r : Nat
theorem Cube_c (on off : Nat) (hon : on < 4294967296) (hoff : off < 4294967296) (w : World) : Calls Tryz.prog 43 [.int .u32 (on : Int), .int .u32 (off : Int)].toArray w (DPost (fun c => cubeB on off 0 c) w) := by
 have hon1 : (on &&& 16777215) < 4294967296 := Nat.lt_of_le_of_lt Nat.and_le_left hon
 have hoff1 : (off &&& 16777215) < 4294967296 := Nat.lt_of_le_of_lt Nat.and_le_left hoff
 refine enter Tryz.func43 rfl Tryz.ntmps43 rfl (St.init _) ?_
 refine jN 3 ?_
 refine WL.alloc F.zero50 rfl (fun b4 => ?_)
 refine jN 7 ?_
 refine WL.bin rfl rfl rfl (fun w => run_and (b := 16777215) hon (by decide) _ _ _ w) ?_
 refine jN 3 ?_
 refine WL.bin rfl rfl rfl (fun w => run_and (b := 16777215) hoff (by decide) _ _ _ w) ?_
 refine jN 14 ?_
 refine WL.bin rfl rfl rfl (fun w => run_and hon1 hoff1 _ _ _ w) ?_
 refine jN 4 ?_
 refine WC.cond rfl (fun h15 => ?_) (fun h15 => ?_)
 ·have hcl : (on &&& 16777215) &&& (off &&& 16777215) ≠ 0 := by (intro e; rw [e] at h15; simp at h15)
  refine jN 10 ?_
  refine WQ.ret (rs := [.cell 4 50]) rfl (.cellN F.agg50 rfl jM rfl .nil) (fun w hS => ⟨⟨(.lf false, none, 0), trivial, fun c => (cubeB_clash hcl c).symm⟩, rfl, hS.drop.rowNil _ _⟩)
 ·have hcl : (on &&& 16777215) &&& (off &&& 16777215) = 0 := by (simp at h15; omega)
  refine jN 5 ?_
  refine WL.call0 (β := List Nat × Nat) (res := fun x => .returned (pp x.2)) (cs := fun x => [mkr x.1 x.2 []]) (ψ := fun _ => True) F.fun96 (fun d h => by cases h; rfl) rfl (fun w hS => (newMaker_c w).mono (fun e w2 ⟨x, h1, h2⟩ => ⟨x, trivial, h1, h2⟩)) (fun ⟨G0, bm⟩ _ => ?_)
  refine WL.step ?_
  refine WL.assign rfl rfl ?_
  refine WL.nil ?_
  refine WQ.then_normal ?_
  refine WC.seq ?_
  refine WC.region ?_
  refine WL.step ?_
  refine WL.assign rfl rfl ?_
  refine WL.nil ?_
  refine WQ.then_normal ?_
  refine WC.seq ?_
  refine WC.seq ?_
  refine WC.region ?_
  refine WL.step ?_
  refine WL.assign rfl rfl ?_
  refine WL.nil ?_
  refine WQ.then_normal ?_
  refine WC.block ?_
  refine WC.loop (α := CubeG) (fun g => g.m ≤ 24 ∧ Mk g.l ∧ g.l.length + g.m ≤ 24 ∧ g.r < g.l.length + 2 ∧ (trs g.l g.r).ok g.m ∧ ∀ c, (trs g.l g.r).ev c = cubeB (on &&& 16777215) (off &&& 16777215) g.m c) (fun g => [(0, .int .u32 (((on &&& 16777215) : Nat) : Int)), (1, .int .u32 (((off &&& 16777215) : Nat) : Int)), (4, pp b4), (5, pp bm), (6, .int .i64 (g.r : Int)), (7, .int .i64 ((g.m : Int) - 1))]) (fun g => [mkr g.G bm g.l, pt b4 [.slice none 0 0, .int .i64 0] 50]) (fun g => g.m) (⟨24, G0, [], 1⟩) ?_ ?_ ?_ ?_
  ·exact ⟨Nat.le_refl _, Mk.nil, (by show 0 + 24 ≤ 24; decide), (by show 1 < 0 + 2; decide), trivial, fun c => (cubeB_end _ _ c).symm⟩
  ·exact ⟨rfl, rfl, rfl, rfl, rfl, rfl, trivial⟩
  ·rfl
  rintro ⟨m, G, l, r⟩ ⟨hm24, hm, hlm, hr, hok, hev⟩
  dsimp only at hm24 hm hlm hr hok hev
  show WC _ _ _ _ _ _ _ [(0, .int .u32 (((on &&& 16777215) : Nat) : Int)), (1, .int .u32 (((off &&& 16777215) : Nat) : Int)), (4, pp b4), (5, pp bm), (6, .int .i64 (r : Int)), (7, .int .i64 ((m : Int) - 1))] [mkr G bm l, pt b4 [.slice none 0 0, .int .i64 0] 50]
  refine jN 9 ?_
  refine WC.cond rfl (fun h19 => ?_) (fun h19 => ?_)
  ·obtain ⟨k, rfl⟩ : ∃ k, m = k + 1 := ⟨m - 1, by (simp at h19; omega)⟩
   have hki : (((k + 1 : Nat) : Int) - 1) = (k : Int) := by omega
   refine jN 11 ?_
   refine WA.say 24 (.int .i64 (k : Int)) (by rw [← hki]; rfl) ?_
   refine jN 1 ?_
   refine WL.bin rfl rfl rfl (fun w => run_shr (by omega) _ _ _ w) ?_
   refine jN 1 ?_
   refine WL.bin rfl rfl rfl (fun w => run_and (b := 1) (Nat.lt_of_le_of_lt (by rw [Nat.shiftRight_eq_div_pow]; exact Nat.div_le_self _ _) hon1) (by decide) _ _ _ w) ?_
   refine jN 6 ?_
   refine WC.cond rfl (fun h22 => ?_) (fun h22 => ?_)
   ·rw [Fm.testBit_shift] at h22
    have hb1 : (on &&& 16777215).testBit k = true := h22
    have hb2 : (off &&& 16777215).testBit k = false := by
     have h0 : ((on &&& 16777215) &&& (off &&& 16777215)).testBit k = false := by rw [hcl]; simp
     rw [Nat.testBit_and, hb1] at h0; simpa using h0
    refine jN 5 ?_
    refine WA.say 29 (.int .i64 (k : Int)) (by rw [← hki]; rfl) ?_
    refine jN 3 ?_
    refine WL.callC (β := { z : List Nat × List Dec × Nat // MadeN l z.2.1 z.2.2 (mkN k (trs l 0) (trs l r)) ∧ z.2.1.length ≤ l.length + 1 }) (res := fun z => .int .i64 (z.1.2.2 : Int)) (cs := fun z => [mkr z.1.1 bm z.1.2.1]) (Cs := [mkr G bm l]) (C1 := [pt b4 [.slice none 0 0, .int .i64 0] 50]) (O' := G) F.fun97 (fun d h => by cases h; rfl) rfl (List.Perm.refl _) bun_O1 bun_O2 (fun w hS hS2 => mnode_c G bm l k 0 r w (by omega) hm (by omega) hr (by omega) hS2) (fun ⟨⟨G2, l2, r2⟩, hm2, hl2⟩ => ?_)
    dsimp only at hm2 hl2
    refine jN 9 ?_
    refine WA.say 20 (.int .i64 (k : Int)) (by rw [← hki]; rfl) ?_
    refine jN 5 ?_
    refine WQ.chunks (C' := [mkr G2 bm l2, pt b4 [.slice none 0 0, .int .i64 0] 50]) (fun w hS => (jK hS)) ?_
    refine WQ.back (⟨k, G2, l2, r2⟩) ?_ ?_ ?_ ?_
    ·exact ⟨by show k ≤ 24; omega, hm2.ismk, by dsimp only; omega, hm2.lt, by show (trs l2 r2).ok k; rw [hm2.tree]; exact mkN_ok (Nat.le_refl _) (by omega) (by rw [(trs_zero l).1]; trivial) hok, fun c => by (show (trs l2 r2).ev c = cubeB _ _ k c; rw [cubeB_step (m := k) (by omega) c, hm2.tree, mkN_ev, (trs_zero l).1, hev, hb1, hb2]; cases c k <;> simp [BT.ev])⟩
    ·(show k < k + 1; omega)
    ·exact ⟨rfl, rfl, rfl, rfl, rfl, rfl, trivial⟩
    ·rfl
   ·rw [Fm.testBit_shift] at h22
    have hb1 : (on &&& 16777215).testBit k = false := h22
    refine jN 6 ?_
    refine WA.say 34 (.int .i64 (k : Int)) (by rw [← hki]; rfl) ?_
    refine jN 1 ?_
    refine WL.bin rfl rfl rfl (fun w => run_shr (by omega) _ _ _ w) ?_
    refine jN 1 ?_
    refine WL.bin rfl rfl rfl (fun w => run_and (b := 1) (Nat.lt_of_le_of_lt (by rw [Nat.shiftRight_eq_div_pow]; exact Nat.div_le_self _ _) hoff1) (by decide) _ _ _ w) ?_
    refine jN 6 ?_
    refine WC.cond rfl (fun h32 => ?_) (fun h32 => ?_)
    ·rw [Fm.testBit_shift] at h32
     have hb2 : (off &&& 16777215).testBit k = true := h32
     refine jN 5 ?_
     refine WA.say 39 (.int .i64 (k : Int)) (by rw [← hki]; rfl) ?_
     refine jN 3 ?_
     refine WL.callC (β := { z : List Nat × List Dec × Nat // MadeN l z.2.1 z.2.2 (mkN k (trs l r) (trs l 0)) ∧ z.2.1.length ≤ l.length + 1 }) (res := fun z => .int .i64 (z.1.2.2 : Int)) (cs := fun z => [mkr z.1.1 bm z.1.2.1]) (Cs := [mkr G bm l]) (C1 := [pt b4 [.slice none 0 0, .int .i64 0] 50]) (O' := G) F.fun97 (fun d h => by cases h; rfl) rfl (List.Perm.refl _) bun_O1 bun_O2 (fun w hS hS2 => mnode_c G bm l k r 0 w (by omega) hm hr (by omega) (by omega) hS2) (fun ⟨⟨G2, l2, r2⟩, hm2, hl2⟩ => ?_)
     dsimp only at hm2 hl2
     refine jN 9 ?_
     refine WA.say 20 (.int .i64 (k : Int)) (by rw [← hki]; rfl) ?_
     refine jN 5 ?_
     refine WQ.chunks (C' := [mkr G2 bm l2, pt b4 [.slice none 0 0, .int .i64 0] 50]) (fun w hS => (jK hS)) ?_
     refine WQ.back (⟨k, G2, l2, r2⟩) ?_ ?_ ?_ ?_
     ·exact ⟨by show k ≤ 24; omega, hm2.ismk, by dsimp only; omega, hm2.lt, by show (trs l2 r2).ok k; rw [hm2.tree]; exact mkN_ok (Nat.le_refl _) (by omega) hok (by rw [(trs_zero l).1]; trivial), fun c => by (show (trs l2 r2).ev c = cubeB _ _ k c; rw [cubeB_step (m := k) (by omega) c, hm2.tree, mkN_ev, (trs_zero l).1, hev, hb1, hb2]; cases c k <;> simp [BT.ev])⟩
     ·(show k < k + 1; omega)
     ·exact ⟨rfl, rfl, rfl, rfl, rfl, rfl, trivial⟩
     ·rfl
    ·rw [Fm.testBit_shift] at h32
     have hb2 : (off &&& 16777215).testBit k = false := h32
     refine jN 7 ?_
     refine WA.say 20 (.int .i64 (k : Int)) (by rw [← hki]; rfl) ?_
     refine jN 5 ?_
     refine WQ.chunks (C' := [mkr G bm l, pt b4 [.slice none 0 0, .int .i64 0] 50]) (fun w hS => (jK hS)) ?_
     refine WQ.back (⟨k, G, l, r⟩) ?_ ?_ ?_ ?_
     ·exact ⟨by show k ≤ 24; omega, hm, by dsimp only; omega, hr, BT.ok_mono (n := k + 1) hok (Nat.le_succ _), fun c => by (show (trs l r).ev c = cubeB _ _ k c; rw [cubeB_step (m := k) (by omega) c, hev, hb1, hb2]; simp)⟩
     ·(show k < k + 1; omega)
     ·exact ⟨rfl, rfl, rfl, rfl, rfl, rfl, trivial⟩
     ·rfl
  ·have hm0 : m = 0 := by (simp at h19; omega)
   subst hm0
   refine jN 12 ?_
   refine WL.callC (β := Option Addr × Nat) (res := fun z => dval (trs l r) z.1 z.2) (cs := fun z => [dC z.1 z.2 (trs l r)]) (Cs := [mkr G bm l]) (C1 := [pt b4 [.slice none 0 0, .int .i64 0] 50]) (O' := G) F.fun98 (fun d h => by cases h; rfl) rfl (List.Perm.refl _) bun_O1 bun_O2 (fun w hS hS2 => done_c G bm l r w hm hr hok (by omega) hS2) (fun z3 => ?_)
   refine jN 5 ?_
   refine WQ.ret (rs := [.cell 4 50]) rfl (.cellN F.agg50 rfl jM rfl .nil) (fun w hS => ⟨⟨(trs l r, z3), hok, fun c => by rw [hev, cubeB_mask]⟩, rfl, (jK hS)⟩)
structure SetG where
 i : Nat
 t : BT
 ad : Option Addr
 ac : Nat
theorem setF_take {l : List QB} {i : Nat} {q : QB} (h : l[i]? = some q) (c : Cf) : setF (l.take (i + 1)) c = (setF (l.take i) c || cubeB q.1 q.2 0 c) := by
 unfold setF
 rw [List.take_add_one, h]
 simp
theorem set6_c (l : List QB) (a : Option Addr) (c : Nat) (hl : l.length ≤ 1000000000000000) (w : World) (hr : RdSl qC 2 w l a) (hq : ∀ q ∈ l, qOk q) :
  Calls Tryz.prog 14 [.slice a l.length c].toArray w (DPost (setF l) w) := by
 refine enter Tryz.func14 rfl Tryz.ntmps14 rfl (St.init _) ?_
 refine jN 3 ?_
 refine WL.alloc F.zero50 rfl (fun b2 => ?_)
 refine jN 5 ?_
 refine WL.call0 (β := DRes (fun _ => false)) (res := fun z => .returned z.v) (cs := fun z => [z.ch]) (ψ := fun _ => True) F.fun56 (fun d h => by cases h; rfl) rfl (fun w hS => (False_c w).mono (fun e w2 ⟨x, h1, h2⟩ => ⟨x, trivial, h1, h2⟩)) (fun z5 _ => ?_)
 refine WL.step ?_
 refine WL.alloc F.zero50 rfl (fun b3 => ?_)
 refine jN 12 ?_
 refine WC.chunks (C' := [pt b3 [.slice z5.1.2.1 (canon z5.1.1).1.length z5.1.2.2, .int .i64 ((canon z5.1.1).2 : Int)] 50, pt b2 [.slice none 0 0, .int .i64 0] 50, z5.ch]) (fun w hS => (jK hS)) ?_
 refine WC.loop (α := SetG) (fun g => g.i ≤ l.length ∧ g.t.ok 0 ∧ ∀ cf, g.t.ev cf = setF (l.take g.i) cf) (fun g => [(0, .slice a l.length c), (2, pp b2), (3, pp b3), (4, .int .i64 (g.i : Int))]) (fun g => [pt b3 [.slice g.ad (canon g.t).1.length g.ac, .int .i64 ((canon g.t).2 : Int)] 50, pt b2 [.slice none 0 0, .int .i64 0] 50, dC g.ad g.ac g.t]) (fun g => l.length - g.i) (⟨0, z5.1.1, z5.1.2.1, z5.1.2.2⟩) ?_ ?_ ?_ ?_
 ·exact ⟨Nat.zero_le _, z5.2.1, fun cf => by rw [z5.2.2]; rfl⟩
 ·exact ⟨rfl, rfl, rfl, rfl, trivial⟩
 ·rfl
 rintro ⟨i, t, ad, ac⟩ ⟨hi, hok, hev⟩
 dsimp only at hi hok hev
 show WC _ _ _ _ _ _ _ [(0, .slice a l.length c), (2, pp b2), (3, pp b3), (4, .int .i64 (i : Int))] [pt b3 [.slice ad (canon t).1.length ac, .int .i64 ((canon t).2 : Int)] 50, pt b2 [.slice none 0 0, .int .i64 0] 50, dC ad ac t]
 refine jN 13 ?_
 refine WC.cond rfl (fun h8 => ?_) (fun h8 => ?_)
 ·have hlt : i < l.length := by simpa using h8
  obtain ⟨q, hx⟩ : ∃ z, l[i]? = some z := ⟨_, List.getElem?_eq_getElem hlt⟩
  obtain ⟨b, o, rfl, hcq⟩ := hr i q hx
  have hqq := hq q (List.mem_of_getElem? hx)
  have hq1 := hqq.1
  have hq2 := hqq.2
  refine jN 4 ?_
  refine WC.draws [([12, 13], fun w => ∀ j v, ([.slice ad (canon t).1.length ac, .int .i64 ((canon t).2 : Int)] : List Value)[j]? = some v → w.cell? ⟨b3, 0 + j, none⟩ = some v), ([11, 12, 13], fun w => w.cell? ⟨b, o + i * 2 + 0, none⟩ = some (.int .u32 (q.1 : Int))), ([11, 12, 13], fun w => w.cell? ⟨b, o + i * 2 + 1, none⟩ = some (.int .u32 (q.2 : Int)))] (by kernel_rfl) (fun w hS => facts_cons ((fun j v hv => by rw [Nat.zero_add]; exact hS.cell jM hv)) (facts_cons (hS.oldc (hcq 0 _ rfl) (by simp)) (facts_cons (hS.oldc (hcq 1 _ rfl) (by simp)) (facts_nil)))) ?_
  refine jF 0 0 rfl rfl (Yl.loadN F.agg50 rfl rfl) ?_
  refine jT 1 rfl (Yl.move rfl) ?_
  refine jT 2 rfl (Yl.move rfl) ?_
  refine jT 3 rfl (Yl.indexAddr F.sl23 rfl rfl hlt) ?_
  refine jT 4 rfl (Yl.fieldAddr F.fld128_0 rfl) ?_
  refine jF 5 1 rfl rfl (Yl.load1 F.one24 rfl) ?_
  refine jT 6 rfl (Yl.move rfl) ?_
  refine jT 7 rfl (Yl.move rfl) ?_
  refine jT 8 rfl (Yl.indexAddr F.sl23 rfl rfl hlt) ?_
  refine jT 9 rfl (Yl.fieldAddr F.fld128_1 rfl) ?_
  refine jF 10 2 rfl rfl (Yl.load1 F.one24 rfl) ?_
  refine jA 11 rfl ?_
  refine WL.call0 (β := DRes (fun cf => cubeB q.1 q.2 0 cf)) (res := fun z => .returned z.v) (cs := fun z => [z.ch]) (ψ := fun _ => True) F.fun43 (fun d h => by cases h; rfl) rfl (fun w hS => (Cube_c q.1 q.2 hq1 hq2 w).mono (fun e w2 ⟨x, h1, h2⟩ => ⟨x, trivial, h1, h2⟩)) (fun z23 _ => ?_)
  refine WD.on (closed_of (by kernel_rfl)) (fun w hS => Sx.keep ((fun j v hv => by rw [Nat.zero_add]; exact hS.cell jM hv)) (Sx.gone rfl (Sx.gone rfl (Sx.none)))) ?_
  refine jA 12 rfl ?_
  refine WL.call0 (β := DRes (fun cf => t.ev cf || z23.1.1.ev cf)) (res := fun z => .returned z.v) (cs := fun z => [z.ch]) (ψ := fun _ => True) F.fun57 (fun d h => by cases h; rfl) rfl (fun w hS => (Or_c t z23.1.1 ad z23.1.2.1 ac z23.1.2.2 w (RdD.of_row hok (hS.ok (dC ad ac t) jM)) (z23.rd hS jM)).mono (fun e w2 ⟨x, h1, h2⟩ => ⟨x, trivial, h1, h2⟩)) (fun z24 _ => ?_)
  refine jG ?_
  refine jA 13 rfl ?_
  refine WL.storeN F.agg50 rfl rfl rfl jO jU jS ?_
  refine jG ?_
  refine jD ?_
  refine jN 10 ?_
  refine WQ.chunks (C' := [pt b3 [.slice z24.1.2.1 (canon z24.1.1).1.length z24.1.2.2, .int .i64 ((canon z24.1.1).2 : Int)] 50, pt b2 [.slice none 0 0, .int .i64 0] 50, z24.ch]) (fun w hS => (jK hS)) ?_
  refine WQ.back (⟨i + 1, z24.1.1, z24.1.2.1, z24.1.2.2⟩) ?_ ?_ ?_ ?_
  ·exact ⟨by show i + 1 ≤ l.length; omega, z24.2.1, fun cf => by (show z24.1.1.ev cf = _; rw [z24.2.2]; dsimp only; rw [hev, z23.2.2, setF_take hx])⟩
  ·(show l.length - (i + 1) < l.length - i; omega)
  ·exact ⟨rfl, rfl, rfl, rfl, trivial⟩
  ·rfl
 ·have hie : i = l.length := by simp at h8; omega
  subst hie
  rw [List.take_length] at hev
  refine jN 14 ?_
  refine WQ.ret (rs := [.cell 2 50]) rfl (.cellN F.agg50 rfl jM rfl .nil) (fun w hS => ⟨⟨(t, ad, ac), hok, hev⟩, rfl, (jK hS)⟩)
structure CfG where
 i : Nat
 a : Option Addr
 c : Nat
theorem cfgsN_len (v : Nat) : ∀ k, (cfgsN v k).length ≤ 2 ^ k
 | 0 => by simp [cfgsN]
 | k + 1 => by
  have ih := cfgsN_len v k
  have hp : 2 ^ (k + 1) = 2 ^ k + 2 ^ k := by rw [Nat.pow_succ]; omega
  unfold cfgsN
  split
  ·rw [List.length_append, List.length_map]; omega
  ·omega
theorem cfgsN_32 {v k : Nat} (hk : k ≤ 32) {c : Nat} (h : c ∈ cfgsN v k) : c < 4294967296 := Nat.lt_of_lt_of_le (mem_cfgsN.1 h).1 (Nat.pow_le_pow_right (n := 2) (by decide) hk)
theorem bit_shr (v k : Nat) : v.testBit k = decide (v >>> k &&& 1 ≠ 0) := by
 rw [Nat.testBit, Nat.and_comm]
 by_cases h : v >>> k &&& 1 = 0
 ·rw [h]; rfl
 ·rw [decide_eq_true h]
  exact bne_iff_ne.2 h
theorem map_take_succ {α β : Type} (f : α → β) {l : List α} {k : Nat} {x : α} (h : l[k]? = some x) : (l.take (k + 1)).map f = (l.take k).map f ++ [f x] := by
 rw [List.take_add_one, h]; simp
theorem rConfigs_c (v : Nat) (hv : v < 4294967296) (w : World) :
  Calls Tryz.prog 59 [.int .u32 (v : Int)].toArray w fun e w' => ∃ x : Option Addr × Nat, e = .returned (.slice x.1 (cfgs v).length x.2) ∧ St w [] [rowc (.slice x.1 (cfgs v).length x.2) (cfgs v).length 24 1 ((cfgs v).flatMap nC)] w' := by
 refine enter Tryz.func59 rfl Tryz.ntmps59 rfl (St.init _) ?_
 refine jN 9 ?_
 refine WL.buildSlice F.sl53 F.ez53 rfl rfl rfl rfl jB rfl (fun b7 => ?_)
 refine jN 12 ?_
 refine WC.chunks (C' := [rowc (.slice (some ⟨b7, 0, none⟩) ([0]).length 1) ([0]).length 24 1 (([0]).flatMap nC)]) (fun w hS => (hS.rowOf rfl (by decide))) ?_
 refine WC.loop (α := CfG) (fun g => g.i ≤ 32) (fun g => [(0, .int .u32 (v : Int)), (3, .slice g.a (cfgsN v g.i).length g.c), (4, .int .i64 (g.i : Int))]) (fun g => [rowc (.slice g.a (cfgsN v g.i).length g.c) (cfgsN v g.i).length 24 1 ((cfgsN v g.i).flatMap nC)]) (fun g => 32 - g.i) (⟨0, some ⟨b7, 0, none⟩, 1⟩) ?_ ?_ ?_ ?_
 ·exact by (show 0 ≤ 32); decide
 ·exact ⟨rfl, rfl, rfl, trivial⟩
 ·rfl
 rintro ⟨i, a, c⟩ hi
 dsimp only at hi ⊢
 refine jN 9 ?_
 refine WC.cond rfl (fun h9 => ?_) (fun h9 => ?_)
 ·have hlt : i < 32 := by simp at h9; omega
  have hlen := cfgsN_len v i
  have hp31 : 2 ^ i ≤ 2147483648 := Nat.le_trans (Nat.pow_le_pow_right (by decide : 2 > 0) (show i ≤ 31 by omega)) (by decide)
  refine jN 12 ?_
  refine WL.bin (v := .int .u32 ((v >>> i : Nat) : Int)) rfl rfl rfl (fun w => run_shr (by omega) _ _ _ w) ?_
  refine jN 1 ?_
  refine WL.bin (v := .int .u32 ((v >>> i &&& 1 : Nat) : Int)) rfl rfl rfl (fun w => run_and (b := 1) (Nat.lt_of_le_of_lt (Nat.shiftRight_le v i) hv) (by decide) _ _ _ w) ?_
  refine jN 4 ?_
  refine WC.cond rfl (fun h16 => ?_) (fun h16 => ?_)
  ·have hbit : v.testBit i = false := by rw [bit_shr, decide_eq_false_iff_not]; intro hne; apply hne; have := beq_iff_eq.1 h16; omega
   refine jN 12 ?_
   have hs : cfgsN v (i + 1) = cfgsN v i := by rw [cfgsN, if_neg (by rw [hbit]; simp)]
   refine WQ.back (⟨i + 1, a, c⟩) ?_ ?_ ?_ ?_
   ·show i + 1 ≤ 32; omega
   ·show 32 - (i + 1) < 32 - i; omega
   ·simp only [hs]; exact ⟨rfl, rfl, rfl, trivial⟩
   ·simp only [hs]
  ·have hbit : v.testBit i = true := by rw [bit_shr, decide_eq_true_eq]; intro he; rw [he] at h16; simp at h16
   refine jN 19 ?_
   refine WC.chunks (C' := [rowc (.slice a ((cfgsN v i ++ ((cfgsN v i).take 0).map (fun c => c ||| 2 ^ i))).length c) ((cfgsN v i ++ ((cfgsN v i).take 0).map (fun c => c ||| 2 ^ i))).length 24 1 (((cfgsN v i ++ ((cfgsN v i).take 0).map (fun c => c ||| 2 ^ i))).flatMap nC)]) (fun w hS => (by rw [List.take_zero, List.map_nil, List.append_nil]; exact hS)) ?_
   refine WC.loop (α := CfG) (fun g => g.i ≤ (cfgsN v i).length) (fun g => [(0, .int .u32 (v : Int)), (3, .slice g.a ((cfgsN v i ++ ((cfgsN v i).take g.i).map (fun c => c ||| 2 ^ i))).length g.c), (4, .int .i64 (i : Int)), (5, .int .i64 ((cfgsN v i).length : Int)), (6, .int .i64 (g.i : Int))]) (fun g => [rowc (.slice g.a ((cfgsN v i ++ ((cfgsN v i).take g.i).map (fun c => c ||| 2 ^ i))).length g.c) ((cfgsN v i ++ ((cfgsN v i).take g.i).map (fun c => c ||| 2 ^ i))).length 24 1 (((cfgsN v i ++ ((cfgsN v i).take g.i).map (fun c => c ||| 2 ^ i))).flatMap nC)]) (fun g => (cfgsN v i).length - g.i) (⟨0, a, c⟩) ?_ ?_ ?_ ?_
   ·exact Nat.zero_le _
   ·simp only [List.take_zero, List.map_nil, List.append_nil]; exact ⟨rfl, rfl, rfl, rfl, rfl, trivial⟩
   ·simp only [List.take_zero, List.map_nil, List.append_nil]
   rintro ⟨k, a2, c2⟩ hk
   dsimp only at hk ⊢
   refine jN 11 ?_
   refine WC.cond rfl (fun h21 => ?_) (fun h21 => ?_)
   ·have hkl : k < (cfgsN v i).length := by simpa using h21
    obtain ⟨x, hx⟩ : ∃ x, (cfgsN v i)[k]? = some x := ⟨_, List.getElem?_eq_getElem hkl⟩
    have hx32 := cfgsN_32 (by omega) (List.mem_of_getElem? hx)
    have hxl : (cfgsN v i ++ ((cfgsN v i).take k).map (fun c => c ||| 2 ^ i))[k]? = some x := by rw [List.getElem?_append_left hkl]; exact hx
    have hll : ((cfgsN v i ++ ((cfgsN v i).take k).map (fun c => c ||| 2 ^ i))).length = (cfgsN v i).length + k := by rw [List.length_append, List.length_map, List.length_take, Nat.min_eq_left (by omega)]
    refine WC.know (φ := ∃ g, a2 = some ⟨g, 0, none⟩ ∧ ((cfgsN v i ++ ((cfgsN v i).take k).map (fun c => c ||| 2 ^ i))).length = ((cfgsN v i ++ ((cfgsN v i).take k).map (fun c => c ||| 2 ^ i))).length ∧ ((cfgsN v i ++ ((cfgsN v i).take k).map (fun c => c ||| 2 ^ i))).length ≤ c2) (fun w hS => rowc_addr (hS.ok (rowc (.slice a2 ((cfgsN v i ++ ((cfgsN v i).take k).map (fun c => c ||| 2 ^ i))).length c2) ((cfgsN v i ++ ((cfgsN v i).take k).map (fun c => c ||| 2 ^ i))).length 24 1 (((cfgsN v i ++ ((cfgsN v i).take k).map (fun c => c ||| 2 ^ i))).flatMap nC)) jM) (by omega)) (fun ⟨g9, hg9, _, _⟩ => ?_)
    subst hg9
    have hp2 : 2 ^ i < 4294967296 := by omega
    refine jN 4 ?_
    refine WC.draws [([8, 9], fun w => w.cell? ⟨g9, 0 + k * 1, none⟩ = some (.int .u32 (x : Int)))] (by kernel_rfl) (fun w hS => facts_cons ((by rw [Nat.zero_add]; exact rowc_cells (hS.ok (rowc (.slice (some ⟨g9, 0, none⟩) ((cfgsN v i ++ ((cfgsN v i).take k).map (fun c => c ||| 2 ^ i))).length c2) ((cfgsN v i ++ ((cfgsN v i).take k).map (fun c => c ||| 2 ^ i))).length 24 1 (((cfgsN v i ++ ((cfgsN v i).take k).map (fun c => c ||| 2 ^ i))).flatMap nC)) jM) (flat_at (cells := nC) (sz := 1) (fun _ _ => rfl) hxl 0 _ rfl))) (facts_nil)) ?_
    refine jT 0 rfl (Yl.move rfl) ?_
    refine jT 1 rfl (Yl.move rfl) ?_
    refine jT 2 rfl (Yl.move rfl) ?_
    refine jT 3 rfl (Yl.indexAddr F.sl53 rfl rfl (by omega)) ?_
    refine jF 4 0 rfl rfl (Yl.load1 F.one24 rfl) ?_
    refine jT 5 rfl (Yl.move rfl) ?_
    refine jT 6 rfl (Yl.bin (v := .int .u32 ((2 ^ i : Nat) : Int)) rfl rfl (fun w => run_shl1 hlt _ _ _ w)) ?_
    refine jT 7 rfl (Yl.bin (v := .int .u32 ((x ||| 2 ^ i : Nat) : Int)) rfl rfl (fun w => run_or hx32 hp2 _ _ _ w)) ?_
    refine jA 8 rfl ?_
    refine WL.buildSlice F.sl53 F.ez53 rfl rfl rfl rfl jB rfl (fun b32 => ?_)
    refine jG ?_
    refine jA 9 rfl ?_
    refine WL.appendE (news := [.int .u32 ((x ||| 2 ^ i : Nat) : Int)]) F.el53 rfl rfl rfl jR (fun w hS jj u hu => by rw [Nat.zero_add]; exact hS.cell (cs := [.int .u32 ((x ||| 2 ^ i : Nat) : Int)]) jM hu) rfl jO (Nat.le_trans (m := 8589934592) (by omega) (by decide)) (by omega) (fun a3 c3 => ?_)
    refine jG ?_
    refine jT 10 rfl (Yl.assign rfl) ?_
    refine jD ?_
    refine jN 10 ?_
    refine WQ.chunks (C' := [rowc (.slice a3 ((cfgsN v i ++ ((cfgsN v i).take k).map (fun c => c ||| 2 ^ i)).length + 1) c3) ((cfgsN v i ++ ((cfgsN v i).take k).map (fun c => c ||| 2 ^ i)).length + 1) 24 1 ((cfgsN v i ++ ((cfgsN v i).take k).map (fun c => c ||| 2 ^ i)).flatMap nC ++ [.int .u32 ((x ||| 2 ^ i : Nat) : Int)])]) (fun w hS => (jK hS)) ?_
    have hs : (cfgsN v i ++ ((cfgsN v i).take (k + 1)).map (fun c => c ||| 2 ^ i)) = (cfgsN v i ++ ((cfgsN v i).take k).map (fun c => c ||| 2 ^ i)) ++ [x ||| 2 ^ i] := by rw [map_take_succ _ hx, List.append_assoc]
    refine WQ.back (⟨k + 1, a3, c3⟩) ?_ ?_ ?_ ?_
    ·show k + 1 ≤ (cfgsN v i).length; omega
    ·show (cfgsN v i).length - (k + 1) < (cfgsN v i).length - k; omega
    ·simp only [hs, List.length_append, List.length_cons, List.length_nil]; exact ⟨rfl, rfl, rfl, rfl, rfl, trivial⟩
    ·simp only [hs, List.length_append, List.length_cons, List.length_nil, List.flatMap_append]; rfl
   ·have hke : k = (cfgsN v i).length := by simp at h21; omega
    subst hke
    refine jN 14 ?_
    have hs : cfgsN v (i + 1) = (cfgsN v i ++ ((cfgsN v i).take (cfgsN v i).length).map (fun c => c ||| 2 ^ i)) := by rw [cfgsN, if_pos hbit, List.take_length]
    refine WQ.back (⟨i + 1, a2, c2⟩) ?_ ?_ ?_ ?_
    ·show i + 1 ≤ 32; omega
    ·show 32 - (i + 1) < 32 - i; omega
    ·simp only [hs]; exact ⟨rfl, rfl, rfl, trivial⟩
    ·simp only [hs]
 ·have hie : i = 32 := by simp at h9; omega
  subst hie
  refine jN 14 ?_
  exact WQ.ret (rs := [.tmp 2]) rfl (.tmp rfl .nil) (fun w hS => ⟨(a, c), rfl, hS⟩)
theorem filter_take_T {α : Type} (f : α → Bool) {l : List α} {k : Nat} {x : α} (h : l[k]? = some x) (hf : f x = true) : (l.take (k + 1)).filter f = (l.take k).filter f ++ [x] := by
 rw [List.take_add_one, h, List.filter_append]; simp [hf]
theorem filter_take_F {α : Type} (f : α → Bool) {l : List α} {k : Nat} {x : α} (h : l[k]? = some x) (hf : f x = false) : (l.take (k + 1)).filter f = (l.take k).filter f := by
 rw [List.take_add_one, h, List.filter_append]; simp [hf]
theorem cfgs_len (v : Nat) : (cfgs v).length ≤ 4294967296 := cfgsN_len v 32
theorem those_c (l : List QB) (a : Option Addr) (c : Nat) (hl : l.length ≤ 1000000000000000) (v : Nat) (hv : v < 4294967296) (w : World) (hr : RdSl qC 2 w l a) (hq : ∀ q ∈ l, qOk q) :
  Calls Tryz.prog 16 [.slice a l.length c, .int .u32 (v : Int)].toArray w fun e w' => ∃ x : Option Addr × Nat, e = .returned (.slice x.1 (thoseL l v).length x.2) ∧ St w [] [rowc (.slice x.1 (thoseL l v).length x.2) (thoseL l v).length 24 1 ((thoseL l v).flatMap nC)] w' := by
 refine enter Tryz.func16 rfl Tryz.ntmps16 rfl (St.init _) ?_
 refine jN 17 ?_
 refine WL.call0 (β := Option Addr × Nat) (res := fun x => .returned (.slice x.1 (cfgs v).length x.2)) (cs := fun x => [rowc (.slice x.1 (cfgs v).length x.2) (cfgs v).length 24 1 ((cfgs v).flatMap nC)]) (ψ := fun _ => True) F.fun59 (fun d h => by cases h; rfl) rfl (fun w hS => (rConfigs_c v hv w).mono (fun e w2 ⟨x, h1, h2⟩ => ⟨x, trivial, h1, h2⟩)) (fun ⟨xa, xc⟩ _ => ?_)
 refine WL.step ?_
 refine WL.assign rfl rfl ?_
 refine WL.nil ?_
 refine WQ.then_normal ?_
 refine WC.seq ?_
 refine WC.seq ?_
 refine WC.region ?_
 refine WL.step ?_
 refine WL.assign rfl rfl ?_
 refine WL.nil ?_
 refine WQ.then_normal ?_
 refine WC.block ?_
 refine WC.chunks (C' := [rowc (.slice none 0 0) 0 24 1 [], rowc (.slice xa (cfgs v).length xc) (cfgs v).length 24 1 ((cfgs v).flatMap nC)]) (fun w hS => (jK (hS.rowNil 24 1))) ?_
 refine WC.loop (α := CfG) (fun g => g.i ≤ (cfgs v).length) (fun g => [(0, .slice a l.length c), (5, .slice g.a (((cfgs v).take g.i).filter (inN l)).length g.c), (6, .slice xa (cfgs v).length xc), (7, .int .i64 (g.i : Int))]) (fun g => [rowc (.slice g.a ((((cfgs v).take g.i).filter (inN l))).length g.c) ((((cfgs v).take g.i).filter (inN l))).length 24 1 (((((cfgs v).take g.i).filter (inN l))).flatMap nC), rowc (.slice xa (cfgs v).length xc) (cfgs v).length 24 1 ((cfgs v).flatMap nC)]) (fun g => (cfgs v).length - g.i) (⟨0, none, 0⟩) ?_ ?_ ?_ ?_
 ·exact Nat.zero_le _
 ·exact ⟨rfl, rfl, rfl, rfl, trivial⟩
 ·rfl
 rintro ⟨i, a2, c2⟩ hi
 dsimp only at hi ⊢
 refine jN 13 ?_
 refine WC.cond rfl (fun h13 => ?_) (fun h13 => ?_)
 ·have hlt : i < (cfgs v).length := by simpa using h13
  obtain ⟨x, hx⟩ : ∃ x, (cfgs v)[i]? = some x := ⟨_, List.getElem?_eq_getElem hlt⟩
  have hx32 := cfgsN_32 (Nat.le_refl 32) (List.mem_of_getElem? hx)
  have hlen := cfgs_len v
  have hpl : (((cfgs v).take i).filter (inN l)).length ≤ i := Nat.le_trans (List.length_filter_le _ _) (List.length_take_le _ _)
  refine WC.know (φ := ∃ g, xa = some ⟨g, 0, none⟩ ∧ (cfgs v).length = (cfgs v).length ∧ (cfgs v).length ≤ xc) (fun w hS => rowc_addr (hS.ok (rowc (.slice xa (cfgs v).length xc) (cfgs v).length 24 1 ((cfgs v).flatMap nC)) jM) (by omega)) (fun ⟨g9, hg9, _, _⟩ => ?_)
  subst hg9
  refine jN 13 ?_
  refine WL.indexAddr F.sl53 rfl rfl rfl hlt ?_
  refine jN 1 ?_
  refine WL.load1 F.one24 rfl rfl (v := .int .u32 (x : Int)) (fun w hS => by rw [Nat.zero_add]; exact rowc_cells (hS.ok (rowc (.slice (some ⟨g9, 0, none⟩) (cfgs v).length xc) (cfgs v).length 24 1 ((cfgs v).flatMap nC)) jM) (flat_at (cells := nC) (sz := 1) (fun _ _ => rfl) hx 0 _ rfl)) ?_
  refine jN 1 ?_
  refine WL.callV F.fun60 rfl rfl (fun w hS => in6_c l a c x hx32 hl w (hr.next hS) hq) ?_
  refine jN 2 ?_
  refine WC.cond rfl (fun h21 => ?_) (fun h21 => ?_)
  ·refine jN 8 ?_
   refine WL.indexAddr F.sl53 rfl rfl rfl hlt ?_
   refine jN 1 ?_
   refine WL.load1 F.one24 rfl rfl (v := .int .u32 (x : Int)) (fun w hS => by rw [Nat.zero_add]; exact rowc_cells (hS.ok (rowc (.slice (some ⟨g9, 0, none⟩) (cfgs v).length xc) (cfgs v).length 24 1 ((cfgs v).flatMap nC)) jM) (flat_at (cells := nC) (sz := 1) (fun _ _ => rfl) hx 0 _ rfl)) ?_
   refine jN 1 ?_
   refine WL.buildSlice F.sl53 F.ez53 rfl rfl rfl rfl jB rfl (fun b27 => ?_)
   refine jN 1 ?_
   refine WL.appendE (news := [.int .u32 (x : Int)]) F.el53 rfl rfl rfl jR (fun w hS jj u hu => by rw [Nat.zero_add]; exact hS.cell (cs := [.int .u32 (x : Int)]) jM hu) rfl jO (Nat.le_trans (m := 8589934592) (by omega) (by decide)) (by omega) (fun a3 c3 => ?_)
   refine jN 13 ?_
   refine WQ.chunks (C' := [rowc (.slice a3 ((((cfgs v).take i).filter (inN l)).length + 1) c3) ((((cfgs v).take i).filter (inN l)).length + 1) 24 1 ((((cfgs v).take i).filter (inN l)).flatMap nC ++ [.int .u32 (x : Int)]), rowc (.slice (some ⟨g9, 0, none⟩) (cfgs v).length xc) (cfgs v).length 24 1 ((cfgs v).flatMap nC)]) (fun w hS => (jK hS)) ?_
   have hs : (((cfgs v).take (i + 1)).filter (inN l)) = (((cfgs v).take i).filter (inN l)) ++ [x] := filter_take_T _ hx h21
   refine WQ.back (⟨i + 1, a3, c3⟩) ?_ ?_ ?_ ?_
   ·show i + 1 ≤ (cfgs v).length; omega
   ·show (cfgs v).length - (i + 1) < (cfgs v).length - i; omega
   ·simp only [hs, List.length_append, List.length_cons, List.length_nil]; exact ⟨rfl, rfl, rfl, rfl, trivial⟩
   ·simp only [hs, List.length_append, List.length_cons, List.length_nil, List.flatMap_append]; rfl
  ·refine jN 11 ?_
   have hs : (((cfgs v).take (i + 1)).filter (inN l)) = (((cfgs v).take i).filter (inN l)) := filter_take_F _ hx h21
   refine WQ.back (⟨i + 1, a2, c2⟩) ?_ ?_ ?_ ?_
   ·show i + 1 ≤ (cfgs v).length; omega
   ·show (cfgs v).length - (i + 1) < (cfgs v).length - i; omega
   ·simp only [hs]; exact ⟨rfl, rfl, rfl, rfl, trivial⟩
   ·simp only [hs]
 ·have hie : i = (cfgs v).length := by simp at h13; omega
  subst hie
  rw [List.take_length]
  refine jN 14 ?_
  exact WQ.ret (rs := [.tmp 4]) rfl (.tmp rfl .nil) (fun w hS => ⟨(a2, c2), rfl, (jK hS)⟩)
theorem Support_c (t : BT) (a : Option Addr) (c : Nat) (w : World) (ht : RdD w t a) : Pure Tryz.prog 71 [dval t a c] w (.int .u32 (supT (canon t).1 : Int)) := by
 have hmk := canon_mk ht.1
 have hcl := canon_len ht.1
 refine enter Tryz.func71 rfl Tryz.ntmps71 rfl (St.init _) ?_
 refine jN 3 ?_
 refine WL.boxN rfl rfl (fun b1 => ?_)
 refine jN 24 ?_
 refine WC.chunks (C' := []) (fun w hS => hS.sublist (List.nil_sublist _)) ?_
 refine WC.loop (α := Nat) (fun i => i ≤ (canon t).1.length) (fun i => [(3, .int .u32 (supT ((canon t).1.take i) : Int)), (7, .slice a (canon t).1.length c), (8, .int .i64 ((canon t).1.length : Int)), (9, .int .i64 (i : Int))]) (fun _ => []) (fun i => (canon t).1.length - i) (0) ?_ ?_ ?_ ?_
 ·exact Nat.zero_le _
 ·exact ⟨rfl, rfl, rfl, rfl, trivial⟩
 ·rfl
 rintro i hi
 show WC _ _ _ _ _ _ _ [(3, .int .u32 (supT ((canon t).1.take i) : Int)), (7, .slice a (canon t).1.length c), (8, .int .i64 ((canon t).1.length : Int)), (9, .int .i64 (i : Int))] []
 refine jN 7 ?_
 refine WC.cond rfl (fun h10 => ?_) (fun h10 => ?_)
 ·have hlt : i < (canon t).1.length := by simpa using h10
  obtain ⟨x, hx⟩ : ∃ x, (canon t).1[i]? = some x := ⟨_, List.getElem?_eq_getElem hlt⟩
  have hkb := hmk.kid i x hx
  obtain ⟨bl, off, rfl, hcx⟩ := ht.2.at hx
  have hsl : supT ((canon t).1.take i) < 2 ^ 24 := sup_fold _ _ (fun y hy => (by obtain ⟨j, hj⟩ := List.getElem?_of_mem (List.mem_of_mem_take hy); exact (hmk.kid j y hj).1)) (by decide)
  have hx32 : 2 ^ x.1 < 4294967296 := pow32 (by omega)
  refine jN 7 ?_
  refine WL.indexAddr F.sl48 rfl rfl rfl hlt ?_
  refine jN 1 ?_
  refine WL.loadN F.agg186 rfl rfl (vs := [Value.int .i64 (x.1 : Int), .int .i64 (x.2.1 : Int), .int .i64 (x.2.2 : Int)]) rfl (fun w hS j v hv => hS.oldc (hcx j v hv) (by simp)) ?_
  refine jN 1 ?_
  refine WL.alloc F.zero186 rfl (fun b5 => ?_)
  refine jN 12 ?_
  refine WL.bin rfl rfl rfl (fun w => run_shl1 (by omega) _ _ _ w) ?_
  refine jN 1 ?_
  refine WL.bin rfl rfl rfl (fun w => run_or (by omega) hx32 _ _ _ w) ?_
  refine jN 11 ?_
  refine WQ.chunks (C' := []) (fun w hS => hS.sublist (List.nil_sublist _)) ?_
  refine WQ.back (i + 1) (by show i + 1 ≤ (canon t).1.length; omega) (by show (canon t).1.length - (i + 1) < (canon t).1.length - i; omega) ?_ rfl
  simp only [supT_take hx]
  exact ⟨rfl, rfl, rfl, rfl, trivial⟩
 ·have hie : i = (canon t).1.length := by simp at h10; omega
  subst hie
  rw [List.take_length]
  refine jN 14 ?_
  exact WQ.ret (rs := [.tmp 2]) rfl (.tmp rfl .nil) (fun w hS => ⟨rfl, hS⟩)
def andN (a b : Nat) : Nat := ((BitVec.ofNat 32 a) &&& ~~~(BitVec.ofNat 32 b)).toNat
theorem andN_bit {a b j : Nat} (ha : a < 4294967296) : (andN a b).testBit j = (a.testBit j && !b.testBit j) := by
 unfold andN
 rw [BitVec.testBit_toNat, BitVec.getLsbD_and, BitVec.getLsbD_not, BitVec.getLsbD_ofNat, BitVec.getLsbD_ofNat]
 by_cases hj : j < 32
 ·simp [hj]
 ·have : a.testBit j = false := Nat.testBit_lt_two_pow (Nat.lt_of_lt_of_le ha (by have := Nat.pow_le_pow_right (n := 2) (by decide) (show 32 ≤ j by omega); simpa using this))
  simp [hj, this]
theorem run_andN {a b : Nat} (t : TypeId) (x y : Operand) (w : World) :
  (do eqGuard .andNot t x y (.int .u32 (a : Int)) (.int .u32 (b : Int)); binOp .andNot t (.int .u32 (a : Int)) (.int .u32 (b : Int)) : Sem Value).run Tryz.prog w = .ok (.int .u32 ((andN a b : Nat) : Int)) w := by
 have h1 : andN a b < 4294967296 := (_ : BitVec 32).isLt
 simp only [eqGuard, binOp, Op.intBits, IntKind.bits]
 simp
 show IntKind.u32.wrap ((andN a b : Nat) : Int) = _
 exact wrap_u32 h1
theorem und4r : Tryz.prog.underlying 4 = some .bool := by kernel_rfl
theorem run_neR {x y : Operand} (a b : Bool) (w : World) : (do eqGuard .neq 4 x y (.bool a) (.bool b); binOp .neq 4 (.bool a) (.bool b) : Sem Value).run Tryz.prog w = .ok (.bool (a != b)) w := by
 have h := run_neq_bool (P := Tryz.prog) (w := w) 4 a b und4r
 simp [eqGuard, h]
 cases a <;> cases b <;> rfl
theorem andN_sub {s v : Nat} (hs : s < 4294967296) (hv : v < 4294967296) : andN s v = s &&& (4294967295 - v) := by
 refine Nat.eq_of_testBit_eq fun j => ?_
 rw [andN_bit hs, Nat.testBit_and, show 4294967295 - v = 2 ^ 32 - (v + 1) by omega, Nat.testBit_two_pow_sub_succ (by simpa using hv)]
 by_cases hj : j < 32
 ·simp [hj]
 ·have : s.testBit j = false := Nat.testBit_lt_two_pow (Nat.lt_of_lt_of_le hs (by have := Nat.pow_le_pow_right (n := 2) (by decide) (show 32 ≤ j by omega); simpa using this))
  simp [hj, this]
theorem al_split {f : Nat → Bool} {cs ls : List Nat} {i k c : Nat} (hc : cs[i]? = some c) (hi : ls.take k = (cs.take i).filter f) (e : ls = cs.filter f) : ls.drop k = (c :: cs.drop (i + 1)).filter f := by
 obtain ⟨hlt, he⟩ := List.getElem?_eq_some_iff.1 hc
 have h1 : cs = cs.take i ++ c :: cs.drop (i + 1) := by
  rw [← he, ← List.drop_eq_getElem_cons hlt, List.take_append_drop]
 have h2 : ls.take k ++ ls.drop k = ls.take k ++ (c :: cs.drop (i + 1)).filter f := by
  rw [List.take_append_drop, hi, ← List.filter_append, ← h1]
  exact e
 exact List.append_cancel_left h2
theorem al_head {ls : List Nat} {k : Nat} : ls[k]? = (ls.drop k)[0]? := by rw [List.getElem?_drop, Nat.add_zero]
theorem al_T {f : Nat → Bool} {cs ls : List Nat} {i k c : Nat} (hc : cs[i]? = some c) (hi : ls.take k = (cs.take i).filter f) (e : ls = cs.filter f) (hf : f c = true) : ls[k]? = some c := by
 rw [al_head, al_split hc hi e, List.filter_cons_of_pos hf]; rfl
theorem al_F {f : Nat → Bool} {cs ls : List Nat} {i k c : Nat} (hn : cs.Nodup) (hc : cs[i]? = some c) (hi : ls.take k = (cs.take i).filter f) (e : ls = cs.filter f) (hf : f c = false) : ls[k]? ≠ some c := by
 intro h
 rw [al_head, al_split hc hi e, List.filter_cons_of_neg (by simp [hf])] at h
 have hm := (List.mem_filter.1 (List.mem_of_getElem? h)).1
 obtain ⟨hlt, he⟩ := List.getElem?_eq_some_iff.1 hc
 have h1 : cs.drop i = c :: cs.drop (i + 1) := by rw [← he, ← List.drop_eq_getElem_cons hlt]
 have h2 := hn.sublist (List.drop_sublist i cs)
 rw [h1, List.nodup_cons] at h2
 exact h2.1 hm
theorem take_snoc {l : List Nat} {k c : Nat} (h : l[k]? = some c) : l.take (k + 1) = l.take k ++ [c] := by rw [List.take_add_one, h]; rfl
theorem al_end {t : BT} {ls : List Nat} {v : Nat} (h : ls = thoseF v t.ev) (hs : supT (canon t).1 < 4294967296) (hv : v < 4294967296) : alikeF t ls v = (((andN (supT (canon t).1) v : Nat) : Int) == 0) := by
 unfold alikeF
 rw [decide_eq_true h, Bool.true_and, andN_sub hs hv, Bool.eq_iff_iff, decide_eq_true_eq, beq_iff_eq]
 omega
theorem alF_no {t : BT} {ls : List Nat} {v : Nat} (h : ls ≠ (cfgs v).filter (fun c => t.ev (cfg c))) : alikeF t ls v = false := by
 unfold alikeF thoseF
 rw [decide_eq_false h]; rfl
theorem alike_c (t : BT) (da : Option Addr) (dc : Nat) (ls : List Nat) (la : Option Addr) (lc : Nat) (v : Nat) (hv : v < 4294967296) (hl32 : ∀ z ∈ ls, z < 4294967296) (hll : ls.length ≤ 1000000000000000) (w : World) (hd : RdD w t da) (hr : RdN w ls la) :
  Pure Tryz.prog 23 [dval t da dc, .slice la ls.length lc, .int .u32 (v : Int)] w (.bool (alikeF t ls v)) := by
 have hcl := canon_len hd.1
 have hmk := canon_mk hd.1
 have hsl : supT (canon t).1 < 4294967296 := Nat.lt_of_lt_of_le (sup_fold (n := 24) _ _ (fun y hy => (by obtain ⟨j, hj⟩ := List.getElem?_of_mem hy; exact (hmk.kid j y hj).1)) (by decide)) (by decide)
 refine enter Tryz.func23 rfl Tryz.ntmps23 rfl (St.init _) ?_
 refine jN 3 ?_
 refine WL.boxN rfl rfl (fun b3 => ?_)
 refine jN 9 ?_
 refine WL.call0 (β := Option Addr × Nat) (res := fun x => .returned (.slice x.1 (cfgs v).length x.2)) (cs := fun x => [rowc (.slice x.1 (cfgs v).length x.2) (cfgs v).length 24 1 ((cfgs v).flatMap nC)]) (ψ := fun _ => True) F.fun59 (fun d h => by cases h; rfl) rfl (fun w hS => (rConfigs_c v hv w).mono (fun e w2 ⟨x, h1, h2⟩ => ⟨x, trivial, h1, h2⟩)) (fun ⟨xa, xc⟩ _ => ?_)
 refine WL.step ?_
 refine WL.assign rfl rfl ?_
 refine WL.nil ?_
 refine WQ.then_normal ?_
 refine WC.seq ?_
 refine WC.region ?_
 refine WL.step ?_
 refine WL.assign rfl rfl ?_
 refine WL.nil ?_
 refine WQ.then_normal ?_
 refine WC.seq ?_
 refine WC.seq ?_
 refine WC.region ?_
 refine WL.step ?_
 refine WL.assign rfl rfl ?_
 refine WL.nil ?_
 refine WQ.then_normal ?_
 refine WC.block ?_
 refine WC.chunks (C' := [pt b3 [.slice da (canon t).1.length dc, .int .i64 ((canon t).2 : Int)] 50, rowc (.slice xa (cfgs v).length xc) (cfgs v).length 24 1 ((cfgs v).flatMap nC)]) (fun w hS => (jK hS)) ?_
 refine WC.loop (α := Nat × Nat) (fun g => g.1 ≤ (cfgs v).length ∧ g.2 ≤ ls.length ∧ ls.take g.2 = ((cfgs v).take g.1).filter (fun c => t.ev (cfg c))) (fun g => [(1, .slice la ls.length lc), (2, .int .u32 (v : Int)), (3, pp b3), (7, .slice xa (cfgs v).length xc), (8, .int .i64 (g.2 : Int)), (9, .int .i64 (g.1 : Int))]) (fun _ => [pt b3 [.slice da (canon t).1.length dc, .int .i64 ((canon t).2 : Int)] 50, rowc (.slice xa (cfgs v).length xc) (cfgs v).length 24 1 ((cfgs v).flatMap nC)]) (fun g => (cfgs v).length - g.1) ((0, 0)) ?_ ?_ ?_ ?_
 ·exact ⟨Nat.zero_le _, Nat.zero_le _, rfl⟩
 ·exact ⟨rfl, rfl, rfl, rfl, rfl, rfl, trivial⟩
 ·rfl
 rintro ⟨i, k⟩ ⟨hi, hk, hki⟩
 dsimp only at hi hk hki
 show WC _ _ _ _ _ _ _ [(1, .slice la ls.length lc), (2, .int .u32 (v : Int)), (3, pp b3), (7, .slice xa (cfgs v).length xc), (8, .int .i64 (k : Int)), (9, .int .i64 (i : Int))] [pt b3 [.slice da (canon t).1.length dc, .int .i64 ((canon t).2 : Int)] 50, rowc (.slice xa (cfgs v).length xc) (cfgs v).length 24 1 ((cfgs v).flatMap nC)]
 refine jN 13 ?_
 refine WC.cond rfl (fun h16 => ?_) (fun h16 => ?_)
 ·have hlt : i < (cfgs v).length := by simpa using h16
  obtain ⟨x, hx⟩ : ∃ x, (cfgs v)[i]? = some x := ⟨_, List.getElem?_eq_getElem hlt⟩
  have hx32 := cfgsN_32 (Nat.le_refl 32) (List.mem_of_getElem? hx)
  have hlen := cfgs_len v
  refine WC.know (φ := ∃ g, xa = some ⟨g, 0, none⟩ ∧ (cfgs v).length = (cfgs v).length ∧ (cfgs v).length ≤ xc) (fun w hS => rowc_addr (hS.ok (rowc (.slice xa (cfgs v).length xc) (cfgs v).length 24 1 ((cfgs v).flatMap nC)) jM) (by omega)) (fun ⟨g9, hg9, _, _⟩ => ?_)
  subst hg9
  refine jN 5 ?_
  by_cases hkl : k < ls.length
  ·obtain ⟨z, hz⟩ : ∃ z, ls[k]? = some z := ⟨_, List.getElem?_eq_getElem hkl⟩
   have hz32 := hl32 z (List.mem_of_getElem? hz)
   obtain ⟨b1, o1, rfl, hcz⟩ := hr k z hz
   refine WC.draws [([], fun w => w.cell? ⟨b1, o1 + k * 1, none⟩ = some (.int .u32 (z : Int))), ([], fun w => w.cell? ⟨g9, 0 + i * 1, none⟩ = some (.int .u32 (x : Int)))] (by kernel_rfl) (fun w hS => facts_cons (hS.oldc (hcz 0 _ rfl) (by simp)) (facts_cons ((by rw [Nat.zero_add]; exact rowc_cells (hS.ok (rowc (.slice (some ⟨g9, 0, none⟩) (cfgs v).length xc) (cfgs v).length 24 1 ((cfgs v).flatMap nC)) jM) (flat_at (cells := nC) (sz := 1) (fun _ _ => rfl) hx 0 _ rfl))) (facts_nil))) ?_
   refine jT 0 rfl (Yl.move rfl) ?_
   refine jT 1 rfl (Yl.move rfl) ?_
   refine jT 2 rfl (Yl.lenSl F.und53 rfl) ?_
   refine jT 3 rfl (Yl.ltI rfl rfl) ?_
   refine jT 4 rfl (Yl.move rfl) ?_
   refine fun hcl => WA.splitB (i := 23) rfl (fun g22 => ?_) (fun g22 => ?_)
   ·refine (show WD _ _ _ _ _ _ _ _ _ _ _ _ from ?_) hcl
    refine WD.takeG (i := 5) rfl rfl rfl rfl rfl rfl (by kernel_rfl) (by kernel_rfl) (by kernel_rfl) (fun _ _ _ h => h) (by kernel_rfl) need_none (Yl.move rfl) ?_
    refine WD.takeG (i := 6) rfl rfl rfl rfl rfl rfl (by kernel_rfl) (by kernel_rfl) (by kernel_rfl) (fun _ _ _ h => h) (by kernel_rfl) need_none (Yl.move rfl) ?_
    refine WD.takeG (i := 7) rfl rfl rfl rfl rfl rfl (by kernel_rfl) (by kernel_rfl) (by kernel_rfl) (fun _ _ _ h => h) (by kernel_rfl) need_none (Yl.indexAddr F.sl53 rfl rfl hkl) ?_
    refine WD.takeG (i := 8) rfl rfl rfl rfl rfl rfl (by kernel_rfl) (by kernel_rfl) (by kernel_rfl) (fun _ _ _ h => h) (by kernel_rfl) (need_at 0 16 rfl (by kernel_rfl)) (Yl.load1 F.one24 rfl) ?_
    refine WD.takeG (i := 9) rfl rfl rfl rfl rfl rfl (by kernel_rfl) (by kernel_rfl) (by kernel_rfl) (fun _ _ _ h => h) (by kernel_rfl) need_none (Yl.move rfl) ?_
    refine WD.takeG (i := 10) rfl rfl rfl rfl rfl rfl (by kernel_rfl) (by kernel_rfl) (by kernel_rfl) (fun _ _ _ h => h) (by kernel_rfl) need_none (Yl.move rfl) ?_
    refine WD.takeG (i := 11) rfl rfl rfl rfl rfl rfl (by kernel_rfl) (by kernel_rfl) (by kernel_rfl) (fun _ _ _ h => h) (by kernel_rfl) need_none (Yl.indexAddr F.sl53 rfl rfl hlt) ?_
    refine WD.takeG (i := 12) rfl rfl rfl rfl rfl rfl (by kernel_rfl) (by kernel_rfl) (by kernel_rfl) (fun _ _ _ h => h) (by kernel_rfl) (need_at 1 16 rfl (by kernel_rfl)) (Yl.load1 F.one24 rfl) ?_
    refine WD.takeG (i := 13) rfl rfl rfl rfl rfl rfl (by kernel_rfl) (by kernel_rfl) (by kernel_rfl) (fun _ _ _ h => h) (by kernel_rfl) need_none (Yl.eqI rfl rfl) ?_
    refine jT 14 rfl (Yl.pickT rfl rfl) ?_
    refine jT 15 rfl (Yl.assign rfl) ?_
    refine jD ?_
    refine jN 8 ?_
    refine WC.cond rfl (fun h34 => ?_) (fun h34 => ?_)
    ·have hzx : x = z := by have := beq_iff_eq.1 h34; omega
     subst hzx
     refine jN 10 ?_
     refine WC.draws [([5], fun w => ∀ j u, ([.slice da (canon t).1.length dc, .int .i64 ((canon t).2 : Int)] : List Value)[j]? = some u → w.cell? ⟨b3, 0 + j, none⟩ = some u), ([5], fun w => w.cell? ⟨g9, 0 + i * 1, none⟩ = some (.int .u32 (x : Int)))] (by kernel_rfl) (fun w hS => facts_cons ((fun j u hu => by rw [Nat.zero_add]; exact hS.cell jM hu)) (facts_cons ((by rw [Nat.zero_add]; exact rowc_cells (hS.ok (rowc (.slice (some ⟨g9, 0, none⟩) (cfgs v).length xc) (cfgs v).length 24 1 ((cfgs v).flatMap nC)) jM) (flat_at (cells := nC) (sz := 1) (fun _ _ => rfl) hx 0 _ rfl))) (facts_nil))) ?_
     refine jF 0 0 rfl rfl (Yl.loadN F.agg50 rfl rfl) ?_
     refine jT 1 rfl (Yl.move rfl) ?_
     refine jT 2 rfl (Yl.move rfl) ?_
     refine jT 3 rfl (Yl.indexAddr F.sl53 rfl rfl hlt) ?_
     refine jF 4 1 rfl rfl (Yl.load1 F.one24 rfl) ?_
     refine jT 6 rfl (Yl.move rfl) ?_
     refine jA 5 rfl ?_
     refine WL.callV (v := .bool (t.ev (cfg x))) F.fun62 rfl rfl (fun w hS => Has_c t da dc x hx32 w (hd.next0 hS)) ?_
     refine jG ?_
     refine jT 7 rfl (Yl.bin rfl rfl (fun w => run_neR _ _ w)) ?_
     refine jD ?_
     refine jN 1 ?_
     refine WC.cond rfl (fun h44 => ?_) (fun h44 => ?_)
     ·refine jN 12 ?_
      have hf : t.ev (cfg x) = false := by revert h44; rw [h34]; cases t.ev (cfg x) <;> simp
      exact WQ.ret (rs := [.tmp 6]) rfl (.tmp rfl .nil) (fun w hS => ⟨by rw [alF_no fun e => al_F (cfgsN_nodup v 32) hx hki e hf hz]; rfl, hS.sublist (List.nil_sublist _)⟩)
     ·refine jN 11 ?_
      have hf : t.ev (cfg x) = true := by revert h44; rw [h34]; cases t.ev (cfg x) <;> simp
      have hinv : i + 1 ≤ (cfgs v).length ∧ k + 1 ≤ ls.length ∧ ls.take (k + 1) = ((cfgs v).take (i + 1)).filter (fun c => t.ev (cfg c)) := ⟨by omega, by omega, by rw [take_snoc hz, filter_take_T _ hx hf, hki]⟩
      refine WQ.chunks (C' := [pt b3 [.slice da (canon t).1.length dc, .int .i64 ((canon t).2 : Int)] 50, rowc (.slice (some ⟨g9, 0, none⟩) (cfgs v).length xc) (cfgs v).length 24 1 ((cfgs v).flatMap nC)]) (fun w hS => (jK hS)) ?_
      refine WQ.back (i + 1, k + 1) ?_ ?_ ?_ ?_
      ·exact hinv
      ·show (cfgs v).length - (i + 1) < (cfgs v).length - i; omega
      ·exact ⟨rfl, rfl, rfl, rfl, rfl, rfl, trivial⟩
      ·rfl
    ·have hzx : z ≠ x := by rintro rfl; simp at h34
     refine jN 3 ?_
     refine WC.draws [([5], fun w => ∀ j u, ([.slice da (canon t).1.length dc, .int .i64 ((canon t).2 : Int)] : List Value)[j]? = some u → w.cell? ⟨b3, 0 + j, none⟩ = some u), ([5], fun w => w.cell? ⟨g9, 0 + i * 1, none⟩ = some (.int .u32 (x : Int)))] (by kernel_rfl) (fun w hS => facts_cons ((fun j u hu => by rw [Nat.zero_add]; exact hS.cell jM hu)) (facts_cons ((by rw [Nat.zero_add]; exact rowc_cells (hS.ok (rowc (.slice (some ⟨g9, 0, none⟩) (cfgs v).length xc) (cfgs v).length 24 1 ((cfgs v).flatMap nC)) jM) (flat_at (cells := nC) (sz := 1) (fun _ _ => rfl) hx 0 _ rfl))) (facts_nil))) ?_
     refine jF 0 0 rfl rfl (Yl.loadN F.agg50 rfl rfl) ?_
     refine jT 1 rfl (Yl.move rfl) ?_
     refine jT 2 rfl (Yl.move rfl) ?_
     refine jT 3 rfl (Yl.indexAddr F.sl53 rfl rfl hlt) ?_
     refine jF 4 1 rfl rfl (Yl.load1 F.one24 rfl) ?_
     refine jT 6 rfl (Yl.move rfl) ?_
     refine jA 5 rfl ?_
     refine WL.callV (v := .bool (t.ev (cfg x))) F.fun62 rfl rfl (fun w hS => Has_c t da dc x hx32 w (hd.next0 hS)) ?_
     refine jG ?_
     refine jT 7 rfl (Yl.bin rfl rfl (fun w => run_neR _ _ w)) ?_
     refine jD ?_
     refine jN 1 ?_
     refine WC.cond rfl (fun h44 => ?_) (fun h44 => ?_)
     ·refine jN 12 ?_
      have hf : t.ev (cfg x) = true := by revert h44; rw [h34]; cases t.ev (cfg x) <;> simp
      exact WQ.ret (rs := [.tmp 6]) rfl (.tmp rfl .nil) (fun w hS => ⟨by rw [alF_no fun e => hzx (Option.some.inj (hz.symm.trans (al_T hx hki e hf)))]; rfl, hS.sublist (List.nil_sublist _)⟩)
     ·refine jN 11 ?_
      have hf : t.ev (cfg x) = false := by revert h44; rw [h34]; cases t.ev (cfg x) <;> simp
      have hinv : i + 1 ≤ (cfgs v).length ∧ k ≤ ls.length ∧ ls.take k = ((cfgs v).take (i + 1)).filter (fun c => t.ev (cfg c)) := ⟨by omega, by omega, by rw [filter_take_F _ hx hf, hki]⟩
      refine WQ.chunks (C' := [pt b3 [.slice da (canon t).1.length dc, .int .i64 ((canon t).2 : Int)] 50, rowc (.slice (some ⟨g9, 0, none⟩) (cfgs v).length xc) (cfgs v).length 24 1 ((cfgs v).flatMap nC)]) (fun w hS => (jK hS)) ?_
      refine WQ.back (i + 1, k) ?_ ?_ ?_ ?_
      ·exact hinv
      ·show (cfgs v).length - (i + 1) < (cfgs v).length - i; omega
      ·exact ⟨rfl, rfl, rfl, rfl, rfl, rfl, trivial⟩
      ·rfl
   ·refine (show WD _ _ _ _ _ _ _ _ _ _ _ _ from ?_) hcl
    exfalso; simp at g22; omega
  ·have hke : k = ls.length := by omega
   have hno : ls[k]? = none := by rw [hke]; simp
   refine WC.draws [] (by kernel_rfl) (fun w hS => facts_nil) ?_
   refine jT 0 rfl (Yl.move rfl) ?_
   refine jT 1 rfl (Yl.move rfl) ?_
   refine jT 2 rfl (Yl.lenSl F.und53 rfl) ?_
   refine jT 3 rfl (Yl.ltI rfl rfl) ?_
   refine jT 4 rfl (Yl.move rfl) ?_
   refine fun hcl => WA.splitB (i := 23) rfl (fun g22 => ?_) (fun g22 => ?_)
   ·refine (show WD _ _ _ _ _ _ _ _ _ _ _ _ from ?_) hcl
    exfalso; simp at g22; omega
   ·refine (show WD _ _ _ _ _ _ _ _ _ _ _ _ from ?_) hcl
    refine WD.skip (i := 5) rfl rfl rfl rfl rfl rfl rfl (by kernel_rfl) (by kernel_rfl) (by kernel_rfl) (fun _ _ _ h => h) (by kernel_rfl) ?_
    refine WD.skip (i := 6) rfl rfl rfl rfl rfl rfl rfl (by kernel_rfl) (by kernel_rfl) (by kernel_rfl) (fun _ _ _ h => h) (by kernel_rfl) ?_
    refine WD.skip (i := 7) rfl rfl rfl rfl rfl rfl rfl (by kernel_rfl) (by kernel_rfl) (by kernel_rfl) (fun _ _ _ h => h) (by kernel_rfl) ?_
    refine WD.skip (i := 8) rfl rfl rfl rfl rfl rfl rfl (by kernel_rfl) (by kernel_rfl) (by kernel_rfl) (fun _ _ _ h => h) (by kernel_rfl) ?_
    refine WD.skip (i := 9) rfl rfl rfl rfl rfl rfl rfl (by kernel_rfl) (by kernel_rfl) (by kernel_rfl) (fun _ _ _ h => h) (by kernel_rfl) ?_
    refine WD.skip (i := 10) rfl rfl rfl rfl rfl rfl rfl (by kernel_rfl) (by kernel_rfl) (by kernel_rfl) (fun _ _ _ h => h) (by kernel_rfl) ?_
    refine WD.skip (i := 11) rfl rfl rfl rfl rfl rfl rfl (by kernel_rfl) (by kernel_rfl) (by kernel_rfl) (fun _ _ _ h => h) (by kernel_rfl) ?_
    refine WD.skip (i := 12) rfl rfl rfl rfl rfl rfl rfl (by kernel_rfl) (by kernel_rfl) (by kernel_rfl) (fun _ _ _ h => h) (by kernel_rfl) ?_
    refine WD.skip (i := 13) rfl rfl rfl rfl rfl rfl rfl (by kernel_rfl) (by kernel_rfl) (by kernel_rfl) (fun _ _ _ h => h) (by kernel_rfl) ?_
    refine jT 14 rfl (Yl.pickF rfl rfl) ?_
    refine jT 15 rfl (Yl.assign rfl) ?_
    refine jD ?_
    refine jN 12 ?_
    refine WC.draws [([5], fun w => ∀ j u, ([.slice da (canon t).1.length dc, .int .i64 ((canon t).2 : Int)] : List Value)[j]? = some u → w.cell? ⟨b3, 0 + j, none⟩ = some u), ([5], fun w => w.cell? ⟨g9, 0 + i * 1, none⟩ = some (.int .u32 (x : Int)))] (by kernel_rfl) (fun w hS => facts_cons ((fun j u hu => by rw [Nat.zero_add]; exact hS.cell jM hu)) (facts_cons ((by rw [Nat.zero_add]; exact rowc_cells (hS.ok (rowc (.slice (some ⟨g9, 0, none⟩) (cfgs v).length xc) (cfgs v).length 24 1 ((cfgs v).flatMap nC)) jM) (flat_at (cells := nC) (sz := 1) (fun _ _ => rfl) hx 0 _ rfl))) (facts_nil))) ?_
    refine jF 0 0 rfl rfl (Yl.loadN F.agg50 rfl rfl) ?_
    refine jT 1 rfl (Yl.move rfl) ?_
    refine jT 2 rfl (Yl.move rfl) ?_
    refine jT 3 rfl (Yl.indexAddr F.sl53 rfl rfl hlt) ?_
    refine jF 4 1 rfl rfl (Yl.load1 F.one24 rfl) ?_
    refine jT 6 rfl (Yl.move rfl) ?_
    refine jA 5 rfl ?_
    refine WL.callV (v := .bool (t.ev (cfg x))) F.fun62 rfl rfl (fun w hS => Has_c t da dc x hx32 w (hd.next0 hS)) ?_
    refine jG ?_
    refine jT 7 rfl (Yl.bin rfl rfl (fun w => run_neR _ _ w)) ?_
    refine jD ?_
    refine jN 1 ?_
    refine WC.cond rfl (fun h44 => ?_) (fun h44 => ?_)
    ·refine jN 12 ?_
     have hf : t.ev (cfg x) = true := by revert h44; cases t.ev (cfg x) <;> simp
     exact WQ.ret (rs := [.tmp 6]) rfl (.tmp rfl .nil) (fun w hS => ⟨by rw [alF_no fun e => by have h := al_T hx hki e hf; rw [hno] at h; cases h]; rfl, hS.sublist (List.nil_sublist _)⟩)
    ·refine jN 11 ?_
     have hf : t.ev (cfg x) = false := by revert h44; cases t.ev (cfg x) <;> simp
     have hinv : i + 1 ≤ (cfgs v).length ∧ k ≤ ls.length ∧ ls.take k = ((cfgs v).take (i + 1)).filter (fun c => t.ev (cfg c)) := ⟨by omega, by omega, by rw [filter_take_F _ hx hf, hki]⟩
     refine WQ.chunks (C' := [pt b3 [.slice da (canon t).1.length dc, .int .i64 ((canon t).2 : Int)] 50, rowc (.slice (some ⟨g9, 0, none⟩) (cfgs v).length xc) (cfgs v).length 24 1 ((cfgs v).flatMap nC)]) (fun w hS => (jK hS)) ?_
     refine WQ.back (i + 1, k) ?_ ?_ ?_ ?_
     ·exact hinv
     ·show (cfgs v).length - (i + 1) < (cfgs v).length - i; omega
     ·exact ⟨rfl, rfl, rfl, rfl, rfl, rfl, trivial⟩
     ·rfl
 ·have hie : i = (cfgs v).length := by simp at h16; omega
  subst hie
  rw [List.take_length] at hki
  refine jN 17 ?_
  refine WA.splitB (i := 49) rfl (fun g48 => ?_) (fun g48 => ?_)
  ·have hke : k = ls.length := by simp at g48; omega
   have hls : ls = thoseF v t.ev := by rw [hke, List.take_length] at hki; exact hki
   refine jN 2 ?_
   refine WL.loadN F.agg50 rfl rfl (vs := [.slice da (canon t).1.length dc, .int .i64 ((canon t).2 : Int)]) rfl (fun w hS j u hu => by rw [Nat.zero_add]; exact hS.cell jM hu) ?_
   refine jN 2 ?_
   refine WL.callV F.fun71 rfl rfl (fun w hS => Support_c t da dc w (hd.next0 hS)) ?_
   refine jN 5 ?_
   refine WL.bin rfl rfl rfl (fun w => run_andN _ _ _ w) ?_
   refine jN 10 ?_
   exact WQ.ret (rs := [.tmp 6]) rfl (.tmp rfl .nil) (fun w hS => ⟨by rw [al_end hls hsl hv]; rfl, hS.sublist (List.nil_sublist _)⟩)
  ·have hls : ¬ ls = thoseF v t.ev := fun e => by
    have h1 : ls.take k = ls := by rw [hki]; exact e.symm
    have h2 := congrArg List.length h1
    rw [List.length_take] at h2
    have h3 : ¬ k = ls.length := by intro e2; rw [e2] at g48; simp at g48
    omega
   refine jN 17 ?_
   exact WQ.ret (rs := [.tmp 6]) rfl (.tmp rfl .nil) (fun w hS => ⟨by rw [alF_no hls]; rfl, hS.sublist (List.nil_sublist _)⟩)
structure TkG (its : List ItV) (ts : List TkV) (ds : List DV) : Prop where
 x : ts.map (·.x) = its
 d : ∀ t ∈ ts, t.d.ok 0 ∧ (∀ c, t.d.ev c = setF t.x.q c) ∧ (t.d, t.da, t.dc) ∈ ds
structure RtG (u : Nat) (its : List ItV) (rs : List RtV) (cs : List (List Nat × Option Addr)) : Prop where
 x : rs.map (·.x) = its
 d : ∀ r ∈ rs, r.c = thoseL r.x.q u ∧ (r.c, r.ca) ∈ cs
structure DgG (its : List NoV) (ts : List DgV) (ds : List DV) : Prop where
 x : ts.map (·.x) = its
 d : ∀ t ∈ ts, t.d.ok 0 ∧ (∀ c, t.d.ev c = setF t.x.q c) ∧ (t.d, t.da, t.dc) ∈ ds
structure RgG (u : Nat) (its : List NoV) (rs : List RgV) (cs : List (List Nat × Option Addr)) : Prop where
 x : rs.map (·.x) = its
 d : ∀ r ∈ rs, r.c = thoseL r.x.q u ∧ (r.c, r.ca) ∈ cs
theorem TkG.mono {its : List ItV} {ts : List TkV} {ds e : List DV} (h : TkG its ts ds) (hs : ∀ z ∈ ds, z ∈ e) : TkG its ts e := ⟨h.x, fun t ht => ⟨(h.d t ht).1, (h.d t ht).2.1, hs _ (h.d t ht).2.2⟩⟩
theorem RtG.mono {u : Nat} {its : List ItV} {ts : List RtV} {ds e : List (List Nat × Option Addr)} (h : RtG u its ts ds) (hs : ∀ z ∈ ds, z ∈ e) : RtG u its ts e := ⟨h.x, fun t ht => ⟨(h.d t ht).1, hs _ (h.d t ht).2⟩⟩
theorem TkG.snoc {l : List ItV} {i : Nat} {y : ItV} {ts : List TkV} {ds : List DV} (h : TkG (l.take i) ts ds) (hy : l[i]? = some y) (z : DRes (setF y.q)) : TkG (l.take (i + 1)) (ts ++ [⟨y, z.1.1, z.1.2.1, z.1.2.2⟩]) (ds ++ [(z.1.1, z.1.2.1, z.1.2.2)]) := by
 refine ⟨by rw [List.map_append, h.x, List.take_add_one, hy]; rfl, fun t ht => ?_⟩
 rcases List.mem_append.1 ht with ht | ht
 ·exact ⟨(h.d t ht).1, (h.d t ht).2.1, List.mem_append_left _ (h.d t ht).2.2⟩
 ·rw [List.mem_singleton.1 ht]; exact ⟨z.2.1, z.2.2, by simp⟩
theorem DgG.snoc {l : List NoV} {i : Nat} {y : NoV} {ts : List DgV} {ds : List DV} (h : DgG (l.take i) ts ds) (hy : l[i]? = some y) (z : DRes (setF y.q)) : DgG (l.take (i + 1)) (ts ++ [⟨y, z.1.1, z.1.2.1, z.1.2.2⟩]) (ds ++ [(z.1.1, z.1.2.1, z.1.2.2)]) := by
 refine ⟨by rw [List.map_append, h.x, List.take_add_one, hy]; rfl, fun t ht => ?_⟩
 rcases List.mem_append.1 ht with ht | ht
 ·exact ⟨(h.d t ht).1, (h.d t ht).2.1, List.mem_append_left _ (h.d t ht).2.2⟩
 ·rw [List.mem_singleton.1 ht]; exact ⟨z.2.1, z.2.2, by simp⟩
theorem RtG.snoc {u : Nat} {l : List ItV} {i : Nat} {y : ItV} {ts : List RtV} {ds : List (List Nat × Option Addr)} (h : RtG u (l.take i) ts ds) (hy : l[i]? = some y) (a : Option Addr) (c : Nat) : RtG u (l.take (i + 1)) (ts ++ [⟨y, thoseL y.q u, a, c⟩]) (ds ++ [(thoseL y.q u, a)]) := by
 refine ⟨by rw [List.map_append, h.x, List.take_add_one, hy]; rfl, fun t ht => ?_⟩
 rcases List.mem_append.1 ht with ht | ht
 ·exact ⟨(h.d t ht).1, List.mem_append_left _ (h.d t ht).2⟩
 ·rw [List.mem_singleton.1 ht]; exact ⟨rfl, by simp⟩
theorem RgG.snoc {u : Nat} {l : List NoV} {i : Nat} {y : NoV} {ts : List RgV} {ds : List (List Nat × Option Addr)} (h : RgG u (l.take i) ts ds) (hy : l[i]? = some y) (a : Option Addr) (c : Nat) : RgG u (l.take (i + 1)) (ts ++ [⟨y, thoseL y.q u, a, c⟩]) (ds ++ [(thoseL y.q u, a)]) := by
 refine ⟨by rw [List.map_append, h.x, List.take_add_one, hy]; rfl, fun t ht => ?_⟩
 rcases List.mem_append.1 ht with ht | ht
 ·exact ⟨(h.d t ht).1, List.mem_append_left _ (h.d t ht).2⟩
 ·rw [List.mem_singleton.1 ht]; exact ⟨rfl, by simp⟩
theorem map_take_len {α β : Type} {f : α → β} {ts : List α} {l : List β} {i : Nat} (h : ts.map f = l.take i) (hi : i ≤ l.length) : ts.length = i := by
 have := congrArg List.length h
 rw [List.length_map, List.length_take] at this
 omega
structure MdV where
 ts : List TkV
 ta : Option Addr
 tc : Nat
 rs : List RtV
 ra : Option Addr
 rc : Nat
 gs : List DgV
 ga : Option Addr
 gc : Nat
 hs : List RgV
 ha : Option Addr
 hc : Nat
 F : List Nat
 ds : List DV
 G : List Nat
 cs : List (List Nat × Option Addr)
structure MdG (u : Nat) (x : RwV) (i k : Nat) (m : MdV) : Prop where
 t : TkG (x.i.take i) m.ts m.ds
 r : RtG u (x.i.take i) m.rs m.cs
 g : DgG (x.n.take k) m.gs m.ds
 h : RgG u (x.n.take k) m.hs m.cs
abbrev mdT (m : MdV) : Chunk := rowc (.slice m.ta m.ts.length m.tc) m.ts.length 105 7 (m.ts.flatMap tkC)
abbrev mdR (m : MdV) : Chunk := rowc (.slice m.ra m.rs.length m.rc) m.rs.length 73 6 (m.rs.flatMap rtC)
abbrev mdD (m : MdV) : Chunk := rowc (.slice m.ga m.gs.length m.gc) m.gs.length 109 6 (m.gs.flatMap dgC)
abbrev mdH (m : MdV) : Chunk := rowc (.slice m.ha m.hs.length m.hc) m.hs.length 111 5 (m.hs.flatMap rgC)
abbrev mdC (m : MdV) : List Chunk := [mdT m, mdR m, mdD m, mdH m, dsC m.F m.ds, insC m.G m.cs]
abbrev mdA (m : MdV) : List Value := [.slice m.ta m.ts.length m.tc, .slice m.ga m.gs.length m.gc]
abbrev mdB (m : MdV) : List Value := [.slice m.ra m.rs.length m.rc, .slice m.ha m.hs.length m.hc]
set_option maxRecDepth 100000 in
theorem made_c (x : RwV) (u : Nat) (hu : u < 4294967296) (hi3 : x.i.length < 300) (hn3 : x.n.length < 300) (w : World) (hr : RwR w x) :
  Calls Tryz.prog 9 [.agg (rwC x).toArray, .int .u32 (u : Int)].toArray w fun e w' => ∃ m : MdV, MdG u x x.i.length x.n.length m ∧ e = .returned (.tuple #[.agg (mdA m).toArray, .agg (mdB m).toArray]) ∧ St w [] (mdC m) w' := by
 obtain ⟨its, ia, ic, nts, na, nc⟩ := x
 dsimp only at hi3 hn3
 refine enter Tryz.func9 rfl Tryz.ntmps9 rfl (St.init _) ?_
 refine jN 3 ?_
 refine WL.boxN rfl rfl (fun b2 => ?_)
 refine jN 1 ?_
 refine WL.alloc F.zero33 rfl (fun b4 => ?_)
 refine jN 1 ?_
 refine WL.alloc F.zero37 rfl (fun b5 => ?_)
 refine jN 5 ?_
 refine WL.alloc F.zero33 rfl (fun b6 => ?_)
 refine jN 5 ?_
 refine WL.alloc F.zero37 rfl (fun b7 => ?_)
 refine jN 10 ?_
 refine WC.chunks (C' := [pt b2 [.slice ia its.length ic, .slice na nts.length nc] 43, pt b4 [.slice none 0 0, .slice none 0 0] 33, pt b5 [.slice none 0 0, .slice none 0 0] 37, pt b6 [.slice none 0 0, .slice none 0 0] 33, pt b7 [.slice none 0 0, .slice none 0 0] 37, rowc (.slice none 0 0) 0 105 7 [], rowc (.slice none 0 0) 0 73 6 [], rowc (.slice none 0 0) 0 109 6 [], rowc (.slice none 0 0) 0 111 5 [], dsC [] [], insC [] []]) (fun w hS => (jK (St.rowNil (St.rowNil (St.rowNil (St.rowNil (St.dsNil (St.insNil hS)) 111 5) 109 6) 73 6) 105 7))) ?_
 refine WC.loop (α := Nat × MdV) (fun g => g.1 ≤ its.length ∧ MdG u (⟨its, ia, ic, nts, na, nc⟩ : RwV) g.1 0 g.2) (fun g => [(1, .int .u32 (u : Int)), (2, pp b2), (4, pp b4), (5, pp b5), (6, pp b6), (7, pp b7), (8, .int .i64 (g.1 : Int))]) (fun g => [pt b2 [.slice ia its.length ic, .slice na nts.length nc] 43, pt b4 [.slice none 0 0, .slice none 0 0] 33, pt b5 [.slice none 0 0, .slice none 0 0] 37, pt b6 (mdA g.2) 33, pt b7 (mdB g.2) 37, mdT g.2, mdR g.2, mdD g.2, mdH g.2, dsC g.2.F g.2.ds, insC g.2.G g.2.cs]) (fun g => its.length - g.1) ((0, (⟨[], none, 0, [], none, 0, [], none, 0, [], none, 0, [], [], [], []⟩ : MdV))) ?_ ?_ ?_ ?_
 ·exact ⟨Nat.zero_le _, ⟨rfl, by simp⟩, ⟨rfl, by simp⟩, ⟨rfl, by simp⟩, ⟨rfl, by simp⟩⟩
 ·exact ⟨rfl, rfl, rfl, rfl, rfl, rfl, rfl, trivial⟩
 ·rfl
 rintro ⟨i, m⟩ ⟨hi, hm⟩
 dsimp only at hi hm
 show WC _ _ _ _ _ _ _ [(1, .int .u32 (u : Int)), (2, pp b2), (4, pp b4), (5, pp b5), (6, pp b6), (7, pp b7), (8, .int .i64 (i : Int))] [pt b2 [.slice ia its.length ic, .slice na nts.length nc] 43, pt b4 [.slice none 0 0, .slice none 0 0] 33, pt b5 [.slice none 0 0, .slice none 0 0] 37, pt b6 (mdA m) 33, pt b7 (mdB m) 37, mdT m, mdR m, mdD m, mdH m, dsC m.F m.ds, insC m.G m.cs]
 refine jN 15 ?_
 refine WC.cond rfl (fun h16 => ?_) (fun h16 => ?_)
 ·have hlt : i < its.length := by simpa using h16
  obtain ⟨y, hy⟩ : ∃ y, its[i]? = some y := ⟨_, List.getElem?_eq_getElem hlt⟩
  obtain ⟨b, o, hia, hcy⟩ := hr.i i y hy
  dsimp only at hia
  subst hia
  have hyr := hr.io y (List.mem_of_getElem? hy)
  have htl := map_take_len hm.t.x hi
  have hrl := map_take_len hm.r.x hi
  refine jN 13 ?_
  refine WL.indexAddr F.sl40 rfl rfl rfl hlt ?_
  refine jN 1 ?_
  refine WL.loadN F.agg92 rfl rfl (vs := itC y) rfl (fun w hS j v hv => hS.oldc (hcy j v hv) (by simp)) ?_
  refine jN 1 ?_
  refine WL.alloc F.zero92 rfl (fun b9 => ?_)
  refine jN 5 ?_
  refine WC.drawsL (by kernel_rfl) (FactsOk.cons (ds := [17, 19]) (LoadOk.one (t := 6) (off := 0) rfl jM rfl) (FactsOk.cons (ds := [16, 17, 19]) (LoadOk.one (t := 9) (off := 0) rfl jM rfl) (FactsOk.cons (ds := [16, 17, 19]) (LoadOk.one (t := 9) (off := 1) rfl jM rfl) (FactsOk.cons (ds := [16, 17, 19]) (LoadOk.one (t := 9) (off := 2) rfl jM rfl) (FactsOk.cons (ds := [16, 17, 19]) (LoadOk.one (t := 9) (off := 3) rfl jM rfl) (FactsOk.cons (ds := [16, 17, 19]) (LoadOk.one (t := 9) (off := 4) rfl jM rfl) (FactsOk.cons (ds := [14, 16, 17, 19]) (LoadOk.one (t := 9) (off := 5) rfl jM rfl) (FactsOk.nil)))))))) ?_
  refine jT 0 rfl (Yl.fieldAddr0 F.fld33_0 rfl) ?_
  refine jF 1 0 rfl rfl (Yl.load1 F.one30 rfl) ?_
  refine jT 2 rfl (Yl.fieldAddr0 F.fld92_0 rfl) ?_
  refine jF 3 1 rfl rfl (Yl.load1 F.one5 rfl) ?_
  refine jT 4 rfl (Yl.fieldAddr0 F.fld92_1 rfl) ?_
  refine jF 5 2 rfl rfl (Yl.load1 F.one9 rfl) ?_
  refine jT 6 rfl (Yl.fieldAddr0 F.fld92_2 rfl) ?_
  refine jF 7 3 rfl rfl (Yl.load1 F.one70 rfl) ?_
  refine jT 8 rfl (Yl.fieldAddr0 F.fld92_3 rfl) ?_
  refine jF 9 4 rfl rfl (Yl.load1 F.one3 rfl) ?_
  refine jT 10 rfl (Yl.fieldAddr0 F.fld92_4 rfl) ?_
  refine jF 11 5 rfl rfl (Yl.load1 F.one3 rfl) ?_
  refine jT 12 rfl (Yl.fieldAddr0 F.fld92_5 rfl) ?_
  refine jF 13 6 rfl rfl (Yl.load1 F.one23 rfl) ?_
  refine jA 14 rfl ?_
  refine WL.call0 (β := DRes (setF y.q)) (res := fun z => .returned z.v) (cs := fun z => [z.ch]) (ψ := fun _ => True) F.fun14 (fun d h => by cases h; rfl) rfl (fun w hS => (set6_c y.q y.qa y.qc (Nat.le_trans hyr.ql (by decide)) w (hyr.q.next hS) hyr.qo).mono (fun e w2 ⟨x, h1, h2⟩ => ⟨x, trivial, h1, h2⟩)) (fun z38 _ => ?_)
  refine WD.on (closed_of (by kernel_rfl)) (fun w hS => Sx.keep (hS.cell jM rfl) (Sx.keep (hS.cell jM rfl) (Sx.keep (hS.cell jM rfl) (Sx.keep (hS.cell jM rfl) (Sx.keep (hS.cell jM rfl) (Sx.keep (hS.cell jM rfl) (Sx.gone rfl (Sx.none)))))))) ?_
  refine jT 15 rfl (Yl.build F.stT105 rfl jB) ?_
  refine jA 16 rfl ?_
  refine WL.buildSlice F.sl30 F.ez30 rfl rfl rfl rfl jB rfl (fun b40 => ?_)
  refine WD.on (closed_of (by kernel_rfl)) (fun w hS => Sx.keep (hS.cell jM rfl) (Sx.gone rfl (Sx.gone rfl (Sx.gone rfl (Sx.gone rfl (Sx.gone rfl (Sx.gone rfl (Sx.none)))))))) ?_
  refine jA 17 rfl ?_
  refine WL.appendE (news := [.int .u8 (y.k : Int), .string (str y.t), .slice y.pa y.p.length y.pc, .int .i64 y.f, .int .i64 y.l, .slice z38.1.2.1 (canon z38.1.1).1.length z38.1.2.2, .int .i64 ((canon z38.1.1).2 : Int)]) F.el30 rfl rfl rfl jR (fun w hS jj u9 hu9 => by rw [Nat.zero_add]; exact hS.cell (cs := [.int .u8 (y.k : Int), .string (str y.t), .slice y.pa y.p.length y.pc, .int .i64 y.f, .int .i64 y.l, .slice z38.1.2.1 (canon z38.1.1).1.length z38.1.2.2, .int .i64 ((canon z38.1.1).2 : Int)]) jM hu9) rfl jO (Nat.le_trans (m := 300) (by omega) (by decide)) (by omega) (fun ta tc => ?_)
  refine jG ?_
  refine jT 18 rfl (Yl.fieldAddr0 F.fld33_0 rfl) ?_
  refine jA 19 rfl ?_
  refine WL.store1 F.one30 rfl rfl rfl jU jS ?_
  refine jG ?_
  refine jD ?_
  refine jN 1 ?_
  refine WC.drawsL (by kernel_rfl) (FactsOk.cons (ds := [18, 20]) (LoadOk.one (t := 7) (off := 0) rfl jM rfl) (FactsOk.cons (ds := [17, 18, 20]) (LoadOk.one (t := 9) (off := 0) rfl jM rfl) (FactsOk.cons (ds := [17, 18, 20]) (LoadOk.one (t := 9) (off := 1) rfl jM rfl) (FactsOk.cons (ds := [17, 18, 20]) (LoadOk.one (t := 9) (off := 2) rfl jM rfl) (FactsOk.cons (ds := [17, 18, 20]) (LoadOk.one (t := 9) (off := 3) rfl jM rfl) (FactsOk.cons (ds := [17, 18, 20]) (LoadOk.one (t := 9) (off := 4) rfl jM rfl) (FactsOk.cons (ds := [15, 17, 18, 20]) (LoadOk.one (t := 9) (off := 5) rfl jM rfl) (FactsOk.nil)))))))) ?_
  refine jT 0 rfl (Yl.fieldAddr0 F.fld37_0 rfl) ?_
  refine jF 1 0 rfl rfl (Yl.load1 F.one34 rfl) ?_
  refine jT 2 rfl (Yl.fieldAddr0 F.fld92_0 rfl) ?_
  refine jF 3 1 rfl rfl (Yl.load1 F.one5 rfl) ?_
  refine jT 4 rfl (Yl.fieldAddr0 F.fld92_1 rfl) ?_
  refine jF 5 2 rfl rfl (Yl.load1 F.one9 rfl) ?_
  refine jT 6 rfl (Yl.fieldAddr0 F.fld92_2 rfl) ?_
  refine jF 7 3 rfl rfl (Yl.load1 F.one70 rfl) ?_
  refine jT 8 rfl (Yl.fieldAddr0 F.fld92_3 rfl) ?_
  refine jF 9 4 rfl rfl (Yl.load1 F.one3 rfl) ?_
  refine jT 10 rfl (Yl.fieldAddr0 F.fld92_4 rfl) ?_
  refine jF 11 5 rfl rfl (Yl.load1 F.one3 rfl) ?_
  refine jT 12 rfl (Yl.fieldAddr0 F.fld92_5 rfl) ?_
  refine jF 13 6 rfl rfl (Yl.load1 F.one23 rfl) ?_
  refine jT 14 rfl (Yl.move rfl) ?_
  refine jA 15 rfl ?_
  refine WL.call0 (β := Option Addr × Nat) (res := fun x => .returned (.slice x.1 (thoseL y.q u).length x.2)) (cs := fun x => [rowc (.slice x.1 (thoseL y.q u).length x.2) (thoseL y.q u).length 24 1 ((thoseL y.q u).flatMap nC)]) (ψ := fun _ => True) F.fun16 (fun d h => by cases h; rfl) rfl (fun w hS => (those_c y.q y.qa y.qc (Nat.le_trans hyr.ql (by decide)) u hu w (hyr.q.next hS) hyr.qo).mono (fun e w2 ⟨x, h1, h2⟩ => ⟨x, trivial, h1, h2⟩)) (fun ⟨xa, xc⟩ _ => ?_)
  refine WD.on (closed_of (by kernel_rfl)) (fun w hS => Sx.keep (hS.cell jM rfl) (Sx.keep (hS.cell jM rfl) (Sx.keep (hS.cell jM rfl) (Sx.keep (hS.cell jM rfl) (Sx.keep (hS.cell jM rfl) (Sx.keep (hS.cell jM rfl) (Sx.gone rfl (Sx.none)))))))) ?_
  refine jT 16 rfl (Yl.build F.stT73 rfl jB) ?_
  refine jA 17 rfl ?_
  refine WL.buildSlice F.sl34 F.ez34 rfl rfl rfl rfl jB rfl (fun b60 => ?_)
  refine WD.on (closed_of (by kernel_rfl)) (fun w hS => Sx.keep (hS.cell jM rfl) (Sx.gone rfl (Sx.gone rfl (Sx.gone rfl (Sx.gone rfl (Sx.gone rfl (Sx.gone rfl (Sx.none)))))))) ?_
  refine jA 18 rfl ?_
  refine WL.appendE (news := [.int .u8 (y.k : Int), .string (str y.t), .slice y.pa y.p.length y.pc, .int .i64 y.f, .int .i64 y.l, .slice xa (thoseL y.q u).length xc]) F.el34 rfl rfl rfl jR (fun w hS jj u9 hu9 => by rw [Nat.zero_add]; exact hS.cell (cs := [.int .u8 (y.k : Int), .string (str y.t), .slice y.pa y.p.length y.pc, .int .i64 y.f, .int .i64 y.l, .slice xa (thoseL y.q u).length xc]) jM hu9) rfl jO (Nat.le_trans (m := 300) (by omega) (by decide)) (by omega) (fun ra rc => ?_)
  refine jG ?_
  refine jT 19 rfl (Yl.fieldAddr0 F.fld37_0 rfl) ?_
  refine jA 20 rfl ?_
  refine WL.store1 F.one34 rfl rfl rfl jU jS ?_
  refine jG ?_
  refine jD ?_
  refine jN 10 ?_
  refine WQ.chunksE (C' := fun F9 => [pt b2 [.slice (some ⟨b, o, none⟩) its.length ic, .slice na nts.length nc] 43, pt b4 [.slice none 0 0, .slice none 0 0] 33, pt b5 [.slice none 0 0, .slice none 0 0] 37, pt b6 [.slice ta (m.ts.length + 1) tc, .slice m.ga m.gs.length m.gc] 33, pt b7 [.slice ra (m.rs.length + 1) rc, .slice m.ha m.hs.length m.hc] 37, rowc (.slice ta (m.ts.length + 1) tc) (m.ts.length + 1) 105 7 (m.ts.flatMap tkC ++ [.int .u8 (y.k : Int), .string (str y.t), .slice y.pa y.p.length y.pc, .int .i64 y.f, .int .i64 y.l, .slice z38.1.2.1 (canon z38.1.1).1.length z38.1.2.2, .int .i64 ((canon z38.1.1).2 : Int)]), rowc (.slice ra (m.rs.length + 1) rc) (m.rs.length + 1) 73 6 (m.rs.flatMap rtC ++ [.int .u8 (y.k : Int), .string (str y.t), .slice y.pa y.p.length y.pc, .int .i64 y.f, .int .i64 y.l, .slice xa (thoseL y.q u).length xc]), mdD m, mdH m, dsC F9 (m.ds ++ [(z38.1.1, z38.1.2.1, z38.1.2.2)]), insC m.G m.cs, rowc (.slice xa (thoseL y.q u).length xc) (thoseL y.q u).length 24 1 ((thoseL y.q u).flatMap nC)]) (fun w hS => ?_) (fun F9 => ?_)
  ·obtain ⟨F9, hF9⟩ := St.dsSnoc z38.2.1 ((St.pick (St.pick hS (c := z38.ch) jR) (c := dsC m.F m.ds) jR))
   exact ⟨F9, (jK hF9)⟩
  refine WQ.chunksE (C' := fun G9 => [pt b2 [.slice (some ⟨b, o, none⟩) its.length ic, .slice na nts.length nc] 43, pt b4 [.slice none 0 0, .slice none 0 0] 33, pt b5 [.slice none 0 0, .slice none 0 0] 37, pt b6 [.slice ta (m.ts.length + 1) tc, .slice m.ga m.gs.length m.gc] 33, pt b7 [.slice ra (m.rs.length + 1) rc, .slice m.ha m.hs.length m.hc] 37, rowc (.slice ta (m.ts.length + 1) tc) (m.ts.length + 1) 105 7 (m.ts.flatMap tkC ++ [.int .u8 (y.k : Int), .string (str y.t), .slice y.pa y.p.length y.pc, .int .i64 y.f, .int .i64 y.l, .slice z38.1.2.1 (canon z38.1.1).1.length z38.1.2.2, .int .i64 ((canon z38.1.1).2 : Int)]), rowc (.slice ra (m.rs.length + 1) rc) (m.rs.length + 1) 73 6 (m.rs.flatMap rtC ++ [.int .u8 (y.k : Int), .string (str y.t), .slice y.pa y.p.length y.pc, .int .i64 y.f, .int .i64 y.l, .slice xa (thoseL y.q u).length xc]), mdD m, mdH m, dsC F9 (m.ds ++ [(z38.1.1, z38.1.2.1, z38.1.2.2)]), insC G9 (m.cs ++ [(thoseL y.q u, xa)])]) (fun w hS => ?_) (fun G9 => ?_)
  ·obtain ⟨G9, hG9⟩ := St.insSnoc ((St.pick (St.pick hS (c := rowc (.slice xa (thoseL y.q u).length xc) (thoseL y.q u).length 24 1 ((thoseL y.q u).flatMap nC)) jR) (c := insC m.G m.cs) jR))
   exact ⟨G9, (jK hG9)⟩
  refine WQ.back (i + 1, (⟨m.ts ++ [⟨y, z38.1.1, z38.1.2.1, z38.1.2.2⟩], ta, tc, m.rs ++ [⟨y, thoseL y.q u, xa, xc⟩], ra, rc, m.gs, m.ga, m.gc, m.hs, m.ha, m.hc, F9, m.ds ++ [(z38.1.1, z38.1.2.1, z38.1.2.2)], G9, m.cs ++ [(thoseL y.q u, xa)]⟩ : MdV)) ?_ ?_ ?_ ?_
  ·exact ⟨by show i + 1 ≤ its.length; omega, hm.t.snoc hy z38, hm.r.snoc hy xa xc, ⟨hm.g.x, fun t ht => absurd ht (by have := hm.g.x; simp at this; rw [show (⟨m.ts ++ [⟨y, z38.1.1, z38.1.2.1, z38.1.2.2⟩], ta, tc, m.rs ++ [⟨y, thoseL y.q u, xa, xc⟩], ra, rc, m.gs, m.ga, m.gc, m.hs, m.ha, m.hc, F9, m.ds ++ [(z38.1.1, z38.1.2.1, z38.1.2.2)], G9, m.cs ++ [(thoseL y.q u, xa)]⟩ : MdV).gs = m.gs from rfl, this]; simp)⟩, ⟨hm.h.x, fun t ht => absurd ht (by have := hm.h.x; simp at this; rw [show (⟨m.ts ++ [⟨y, z38.1.1, z38.1.2.1, z38.1.2.2⟩], ta, tc, m.rs ++ [⟨y, thoseL y.q u, xa, xc⟩], ra, rc, m.gs, m.ga, m.gc, m.hs, m.ha, m.hc, F9, m.ds ++ [(z38.1.1, z38.1.2.1, z38.1.2.2)], G9, m.cs ++ [(thoseL y.q u, xa)]⟩ : MdV).hs = m.hs from rfl, this]; simp)⟩⟩
  ·show its.length - (i + 1) < its.length - i; omega
  ·exact ⟨rfl, rfl, rfl, rfl, rfl, rfl, rfl, trivial⟩
  ·simp only [mdT, mdR, mdD, mdH, mdA, mdB, List.length_append, List.length_cons, List.length_nil, List.flatMap_append]
   rfl
 ·have hie : i = its.length := by simp at h16; omega
  subst hie
  refine jN 13 ?_
  refine WC.loop (α := Nat × MdV) (fun g => g.1 ≤ nts.length ∧ MdG u (⟨its, ia, ic, nts, na, nc⟩ : RwV) its.length g.1 g.2) (fun g => [(1, .int .u32 (u : Int)), (2, pp b2), (4, pp b4), (5, pp b5), (6, pp b6), (7, pp b7), (10, .int .i64 (g.1 : Int))]) (fun g => [pt b2 [.slice ia its.length ic, .slice na nts.length nc] 43, pt b4 [.slice none 0 0, .slice none 0 0] 33, pt b5 [.slice none 0 0, .slice none 0 0] 37, pt b6 (mdA g.2) 33, pt b7 (mdB g.2) 37, mdT g.2, mdR g.2, mdD g.2, mdH g.2, dsC g.2.F g.2.ds, insC g.2.G g.2.cs]) (fun g => nts.length - g.1) ((0, m)) ?_ ?_ ?_ ?_
  ·exact ⟨Nat.zero_le _, hm⟩
  ·exact ⟨rfl, rfl, rfl, rfl, rfl, rfl, rfl, trivial⟩
  ·rfl
  rintro ⟨k, m⟩ ⟨hk, hm⟩
  dsimp only at hk hm
  show WC _ _ _ _ _ _ _ [(1, .int .u32 (u : Int)), (2, pp b2), (4, pp b4), (5, pp b5), (6, pp b6), (7, pp b7), (10, .int .i64 (k : Int))] [pt b2 [.slice ia its.length ic, .slice na nts.length nc] 43, pt b4 [.slice none 0 0, .slice none 0 0] 33, pt b5 [.slice none 0 0, .slice none 0 0] 37, pt b6 (mdA m) 33, pt b7 (mdB m) 37, mdT m, mdR m, mdD m, mdH m, dsC m.F m.ds, insC m.G m.cs]
  refine jN 15 ?_
  refine WC.cond rfl (fun h67 => ?_) (fun h67 => ?_)
  ·have hlt : k < nts.length := by simpa using h67
   obtain ⟨y, hy⟩ : ∃ y, nts[k]? = some y := ⟨_, List.getElem?_eq_getElem hlt⟩
   obtain ⟨b, o, hna, hcy⟩ := hr.n k y hy
   dsimp only at hna
   subst hna
   have hyr := hr.no y (List.mem_of_getElem? hy)
   have htl := map_take_len hm.g.x hk
   have hrl := map_take_len hm.h.x hk
   refine jN 13 ?_
   refine WL.indexAddr F.sl41 rfl rfl rfl hlt ?_
   refine jN 1 ?_
   refine WL.loadN F.agg95 rfl rfl (vs := noC y) rfl (fun w hS j v hv => hS.oldc (hcy j v hv) (by simp)) ?_
   refine jN 1 ?_
   refine WL.alloc F.zero95 rfl (fun b11 => ?_)
   refine jN 5 ?_
   refine WC.drawsL (by kernel_rfl) (FactsOk.cons (ds := [15, 17]) (LoadOk.one (t := 6) (off := 1) rfl jM rfl) (FactsOk.cons (ds := [14, 15, 17]) (LoadOk.one (t := 11) (off := 0) rfl jM rfl) (FactsOk.cons (ds := [14, 15, 17]) (LoadOk.one (t := 11) (off := 1) rfl jM rfl) (FactsOk.cons (ds := [14, 15, 17]) (LoadOk.one (t := 11) (off := 2) rfl jM rfl) (FactsOk.cons (ds := [14, 15, 17]) (LoadOk.one (t := 11) (off := 3) rfl jM rfl) (FactsOk.cons (ds := [12, 14, 15, 17]) (LoadOk.one (t := 11) (off := 4) rfl jM rfl) (FactsOk.nil))))))) ?_
   refine jT 0 rfl (Yl.fieldAddr0 F.fld33_1 rfl) ?_
   refine jF 1 0 rfl rfl (Yl.load1 F.one31 rfl) ?_
   refine jT 2 rfl (Yl.fieldAddr0 F.fld95_0 rfl) ?_
   refine jF 3 1 rfl rfl (Yl.load1 F.one93 rfl) ?_
   refine jT 4 rfl (Yl.fieldAddr0 F.fld95_1 rfl) ?_
   refine jF 5 2 rfl rfl (Yl.load1 F.one70 rfl) ?_
   refine jT 6 rfl (Yl.fieldAddr0 F.fld95_2 rfl) ?_
   refine jF 7 3 rfl rfl (Yl.load1 F.one3 rfl) ?_
   refine jT 8 rfl (Yl.fieldAddr0 F.fld95_3 rfl) ?_
   refine jF 9 4 rfl rfl (Yl.load1 F.one3 rfl) ?_
   refine jT 10 rfl (Yl.fieldAddr0 F.fld95_4 rfl) ?_
   refine jF 11 5 rfl rfl (Yl.load1 F.one23 rfl) ?_
   refine jA 12 rfl ?_
   refine WL.call0 (β := DRes (setF y.q)) (res := fun z => .returned z.v) (cs := fun z => [z.ch]) (ψ := fun _ => True) F.fun14 (fun d h => by cases h; rfl) rfl (fun w hS => (set6_c y.q y.qa y.qc (Nat.le_trans hyr.ql (by decide)) w (hyr.q.next hS) hyr.qo).mono (fun e w2 ⟨x, h1, h2⟩ => ⟨x, trivial, h1, h2⟩)) (fun z87 _ => ?_)
   refine WD.on (closed_of (by kernel_rfl)) (fun w hS => Sx.keep (hS.cell jM rfl) (Sx.keep (hS.cell jM rfl) (Sx.keep (hS.cell jM rfl) (Sx.keep (hS.cell jM rfl) (Sx.keep (hS.cell jM rfl) (Sx.gone rfl (Sx.none))))))) ?_
   refine jT 13 rfl (Yl.build F.stT109 rfl jB) ?_
   refine jA 14 rfl ?_
   refine WL.buildSlice F.sl31 F.ez31 rfl rfl rfl rfl jB rfl (fun b89 => ?_)
   refine WD.on (closed_of (by kernel_rfl)) (fun w hS => Sx.keep (hS.cell jM rfl) (Sx.gone rfl (Sx.gone rfl (Sx.gone rfl (Sx.gone rfl (Sx.gone rfl (Sx.none))))))) ?_
   refine jA 15 rfl ?_
   refine WL.appendE (news := [.int .u8 (y.k : Int), .slice y.pa y.p.length y.pc, .int .i64 y.f, .int .i64 y.l, .slice z87.1.2.1 (canon z87.1.1).1.length z87.1.2.2, .int .i64 ((canon z87.1.1).2 : Int)]) F.el31 rfl rfl rfl jR (fun w hS jj u9 hu9 => by rw [Nat.zero_add]; exact hS.cell (cs := [.int .u8 (y.k : Int), .slice y.pa y.p.length y.pc, .int .i64 y.f, .int .i64 y.l, .slice z87.1.2.1 (canon z87.1.1).1.length z87.1.2.2, .int .i64 ((canon z87.1.1).2 : Int)]) jM hu9) rfl jO (Nat.le_trans (m := 300) (by omega) (by decide)) (by omega) (fun ta tc => ?_)
   refine jG ?_
   refine jT 16 rfl (Yl.fieldAddr0 F.fld33_1 rfl) ?_
   refine jA 17 rfl ?_
   refine WL.store1 F.one31 rfl rfl rfl jU jS ?_
   refine jG ?_
   refine jD ?_
   refine jN 1 ?_
   refine WC.drawsL (by kernel_rfl) (FactsOk.cons (ds := [16, 18]) (LoadOk.one (t := 7) (off := 1) rfl jM rfl) (FactsOk.cons (ds := [15, 16, 18]) (LoadOk.one (t := 11) (off := 0) rfl jM rfl) (FactsOk.cons (ds := [15, 16, 18]) (LoadOk.one (t := 11) (off := 1) rfl jM rfl) (FactsOk.cons (ds := [15, 16, 18]) (LoadOk.one (t := 11) (off := 2) rfl jM rfl) (FactsOk.cons (ds := [15, 16, 18]) (LoadOk.one (t := 11) (off := 3) rfl jM rfl) (FactsOk.cons (ds := [13, 15, 16, 18]) (LoadOk.one (t := 11) (off := 4) rfl jM rfl) (FactsOk.nil))))))) ?_
   refine jT 0 rfl (Yl.fieldAddr0 F.fld37_1 rfl) ?_
   refine jF 1 0 rfl rfl (Yl.load1 F.one35 rfl) ?_
   refine jT 2 rfl (Yl.fieldAddr0 F.fld95_0 rfl) ?_
   refine jF 3 1 rfl rfl (Yl.load1 F.one93 rfl) ?_
   refine jT 4 rfl (Yl.fieldAddr0 F.fld95_1 rfl) ?_
   refine jF 5 2 rfl rfl (Yl.load1 F.one70 rfl) ?_
   refine jT 6 rfl (Yl.fieldAddr0 F.fld95_2 rfl) ?_
   refine jF 7 3 rfl rfl (Yl.load1 F.one3 rfl) ?_
   refine jT 8 rfl (Yl.fieldAddr0 F.fld95_3 rfl) ?_
   refine jF 9 4 rfl rfl (Yl.load1 F.one3 rfl) ?_
   refine jT 10 rfl (Yl.fieldAddr0 F.fld95_4 rfl) ?_
   refine jF 11 5 rfl rfl (Yl.load1 F.one23 rfl) ?_
   refine jT 12 rfl (Yl.move rfl) ?_
   refine jA 13 rfl ?_
   refine WL.call0 (β := Option Addr × Nat) (res := fun x => .returned (.slice x.1 (thoseL y.q u).length x.2)) (cs := fun x => [rowc (.slice x.1 (thoseL y.q u).length x.2) (thoseL y.q u).length 24 1 ((thoseL y.q u).flatMap nC)]) (ψ := fun _ => True) F.fun16 (fun d h => by cases h; rfl) rfl (fun w hS => (those_c y.q y.qa y.qc (Nat.le_trans hyr.ql (by decide)) u hu w (hyr.q.next hS) hyr.qo).mono (fun e w2 ⟨x, h1, h2⟩ => ⟨x, trivial, h1, h2⟩)) (fun ⟨xa, xc⟩ _ => ?_)
   refine WD.on (closed_of (by kernel_rfl)) (fun w hS => Sx.keep (hS.cell jM rfl) (Sx.keep (hS.cell jM rfl) (Sx.keep (hS.cell jM rfl) (Sx.keep (hS.cell jM rfl) (Sx.keep (hS.cell jM rfl) (Sx.gone rfl (Sx.none))))))) ?_
   refine jT 14 rfl (Yl.build F.stT111 rfl jB) ?_
   refine jA 15 rfl ?_
   refine WL.buildSlice F.sl35 F.ez35 rfl rfl rfl rfl jB rfl (fun b107 => ?_)
   refine WD.on (closed_of (by kernel_rfl)) (fun w hS => Sx.keep (hS.cell jM rfl) (Sx.gone rfl (Sx.gone rfl (Sx.gone rfl (Sx.gone rfl (Sx.gone rfl (Sx.none))))))) ?_
   refine jA 16 rfl ?_
   refine WL.appendE (news := [.int .u8 (y.k : Int), .slice y.pa y.p.length y.pc, .int .i64 y.f, .int .i64 y.l, .slice xa (thoseL y.q u).length xc]) F.el35 rfl rfl rfl jR (fun w hS jj u9 hu9 => by rw [Nat.zero_add]; exact hS.cell (cs := [.int .u8 (y.k : Int), .slice y.pa y.p.length y.pc, .int .i64 y.f, .int .i64 y.l, .slice xa (thoseL y.q u).length xc]) jM hu9) rfl jO (Nat.le_trans (m := 300) (by omega) (by decide)) (by omega) (fun ra rc => ?_)
   refine jG ?_
   refine jT 17 rfl (Yl.fieldAddr0 F.fld37_1 rfl) ?_
   refine jA 18 rfl ?_
   refine WL.store1 F.one35 rfl rfl rfl jU jS ?_
   refine jG ?_
   refine jD ?_
   refine jN 10 ?_
   refine WQ.chunksE (C' := fun F9 => [pt b2 [.slice ia its.length ic, .slice (some ⟨b, o, none⟩) nts.length nc] 43, pt b4 [.slice none 0 0, .slice none 0 0] 33, pt b5 [.slice none 0 0, .slice none 0 0] 37, pt b6 [.slice m.ta m.ts.length m.tc, .slice ta (m.gs.length + 1) tc] 33, pt b7 [.slice m.ra m.rs.length m.rc, .slice ra (m.hs.length + 1) rc] 37, mdT m, mdR m, rowc (.slice ta (m.gs.length + 1) tc) (m.gs.length + 1) 109 6 (m.gs.flatMap dgC ++ [.int .u8 (y.k : Int), .slice y.pa y.p.length y.pc, .int .i64 y.f, .int .i64 y.l, .slice z87.1.2.1 (canon z87.1.1).1.length z87.1.2.2, .int .i64 ((canon z87.1.1).2 : Int)]), rowc (.slice ra (m.hs.length + 1) rc) (m.hs.length + 1) 111 5 (m.hs.flatMap rgC ++ [.int .u8 (y.k : Int), .slice y.pa y.p.length y.pc, .int .i64 y.f, .int .i64 y.l, .slice xa (thoseL y.q u).length xc]), dsC F9 (m.ds ++ [(z87.1.1, z87.1.2.1, z87.1.2.2)]), insC m.G m.cs, rowc (.slice xa (thoseL y.q u).length xc) (thoseL y.q u).length 24 1 ((thoseL y.q u).flatMap nC)]) (fun w hS => ?_) (fun F9 => ?_)
   ·obtain ⟨F9, hF9⟩ := St.dsSnoc z87.2.1 ((St.pick (St.pick hS (c := z87.ch) jR) (c := dsC m.F m.ds) jR))
    exact ⟨F9, (jK hF9)⟩
   refine WQ.chunksE (C' := fun G9 => [pt b2 [.slice ia its.length ic, .slice (some ⟨b, o, none⟩) nts.length nc] 43, pt b4 [.slice none 0 0, .slice none 0 0] 33, pt b5 [.slice none 0 0, .slice none 0 0] 37, pt b6 [.slice m.ta m.ts.length m.tc, .slice ta (m.gs.length + 1) tc] 33, pt b7 [.slice m.ra m.rs.length m.rc, .slice ra (m.hs.length + 1) rc] 37, mdT m, mdR m, rowc (.slice ta (m.gs.length + 1) tc) (m.gs.length + 1) 109 6 (m.gs.flatMap dgC ++ [.int .u8 (y.k : Int), .slice y.pa y.p.length y.pc, .int .i64 y.f, .int .i64 y.l, .slice z87.1.2.1 (canon z87.1.1).1.length z87.1.2.2, .int .i64 ((canon z87.1.1).2 : Int)]), rowc (.slice ra (m.hs.length + 1) rc) (m.hs.length + 1) 111 5 (m.hs.flatMap rgC ++ [.int .u8 (y.k : Int), .slice y.pa y.p.length y.pc, .int .i64 y.f, .int .i64 y.l, .slice xa (thoseL y.q u).length xc]), dsC F9 (m.ds ++ [(z87.1.1, z87.1.2.1, z87.1.2.2)]), insC G9 (m.cs ++ [(thoseL y.q u, xa)])]) (fun w hS => ?_) (fun G9 => ?_)
   ·obtain ⟨G9, hG9⟩ := St.insSnoc ((St.pick (St.pick hS (c := rowc (.slice xa (thoseL y.q u).length xc) (thoseL y.q u).length 24 1 ((thoseL y.q u).flatMap nC)) jR) (c := insC m.G m.cs) jR))
    exact ⟨G9, (jK hG9)⟩
   refine WQ.back (k + 1, (⟨m.ts, m.ta, m.tc, m.rs, m.ra, m.rc, m.gs ++ [⟨y, z87.1.1, z87.1.2.1, z87.1.2.2⟩], ta, tc, m.hs ++ [⟨y, thoseL y.q u, xa, xc⟩], ra, rc, F9, m.ds ++ [(z87.1.1, z87.1.2.1, z87.1.2.2)], G9, m.cs ++ [(thoseL y.q u, xa)]⟩ : MdV)) ?_ ?_ ?_ ?_
   ·exact ⟨by show k + 1 ≤ nts.length; omega, hm.t.mono (fun z hz => List.mem_append_left _ hz), hm.r.mono (fun z hz => List.mem_append_left _ hz), hm.g.snoc hy z87, hm.h.snoc hy xa xc⟩
   ·show nts.length - (k + 1) < nts.length - k; omega
   ·exact ⟨rfl, rfl, rfl, rfl, rfl, rfl, rfl, trivial⟩
   ·simp only [mdT, mdR, mdD, mdH, mdA, mdB, List.length_append, List.length_cons, List.length_nil, List.flatMap_append]
    rfl
  ·have hke : k = nts.length := by simp at h67; omega
   subst hke
   refine jN 6 ?_
   refine WC.drawsL (by kernel_rfl) (FactsOk.cons (ds := [2, 3]) (LoadOk.whole (t := 6) rfl jM) (FactsOk.cons (ds := [3]) (LoadOk.whole (t := 7) rfl jM) (FactsOk.nil))) ?_
   refine jF 0 0 rfl rfl (Yl.loadN F.agg33 rfl rfl) ?_
   refine jF 1 1 rfl rfl (Yl.loadN F.agg37 rfl rfl) ?_
   refine jA 2 rfl ?_
   refine WL.storeN F.agg33 rfl rfl rfl jO jU jS ?_
   refine WD.on (closed_of (by kernel_rfl)) (fun w hS => Sx.gone rfl (Sx.keep ((fun j v hv => by rw [Nat.zero_add]; exact hS.cell jM hv)) (Sx.none))) ?_
   refine jA 3 rfl ?_
   refine WL.storeN F.agg37 rfl rfl rfl jO jU jS ?_
   refine jG ?_
   refine jD ?_
   refine jN 2 ?_
   exact WQ.ret (rs := [.cell 4 33, .cell 5 37]) rfl (.cellN F.agg33 rfl jM rfl (.cellN F.agg37 rfl jM rfl .nil)) (fun w hS => ⟨m, hm, rfl, (jK hS)⟩)
abbrev subN (a u : Nat) : Prop := a ||| u = u
theorem subN.or {a u v : Nat} (h : subN a u) : subN a (u ||| v) := by unfold subN at *; rw [← Nat.or_assoc, h]
theorem subN.self {a u : Nat} : subN a (u ||| a) := by unfold subN; rw [Nat.or_comm u a, ← Nat.or_assoc, Nat.or_self]
theorem subN.inU {q : List QB} {u : Nat} (h : subN (bitsQ q) u) : inU q u := fun i _ hi => by
 rw [← h, Nat.testBit_or, hi]; rfl
structure RbI (u n : Nat) (y : ItV) : Prop where
 b : subN (bitsQ y.q) u
 nn : y.q.length + y.p.length / 8 + y.t.length / 100 ≤ n
structure RbN (u n : Nat) (y : NoV) : Prop where
 b : subN (bitsQ y.q) u
 nn : y.q.length + y.p.length / 8 ≤ n
structure RbR (u n : Nat) (x : RwV) : Prop where
 nn : x.i.length + x.n.length ≤ n
 i : ∀ y ∈ x.i, RbI u n y
 o : ∀ y ∈ x.n, RbN u n y
theorem RbI.up {u n v m : Nat} {y : ItV} (h : RbI u n y) (hm : n ≤ m) : RbI (u ||| v) m y := ⟨h.b.or, Nat.le_trans h.nn hm⟩
theorem RbN.up {u n v m : Nat} {y : NoV} (h : RbN u n y) (hm : n ≤ m) : RbN (u ||| v) m y := ⟨h.b.or, Nat.le_trans h.nn hm⟩
theorem RbR.up {u n v m : Nat} {x : RwV} (h : RbR u n x) (hm : n ≤ m) : RbR (u ||| v) m x := ⟨Nat.le_trans h.nn hm, fun y hy => (h.i y hy).up hm, fun y hy => (h.o y hy).up hm⟩
theorem RbR.upN {u n m : Nat} {x : RwV} (h : RbR u n x) (hm : n ≤ m) : RbR u m x := by have := h.up (v := 0) hm; rwa [Nat.or_zero] at this
structure RbB (l : List RwV) (d : List QB) (i u n : Nat) : Prop where
 uu : u < 16777216
 nn : n ≤ 1000000000000000
 b : subN (bitsQ d) u
 d : d.length ≤ n
 r : n < 1000 → ∀ x ∈ l.take i, RbR u n x
theorem or_lt24 {a b : Nat} (ha : a < 16777216) (hb : b < 16777216) : a ||| b < 16777216 := Nat.or_lt_two_pow (n := 24) ha hb
theorem RbB.up {l : List RwV} {d : List QB} {i u n v m : Nat} (h : RbB l d i u n) (hv : v < 16777216) (hm : n ≤ m) (hx : m ≤ 1000000000000000) : RbB l d i (u ||| v) m :=
 ⟨or_lt24 h.uu hv, hx, h.b.or, Nat.le_trans h.d hm, fun h1 x hx => (h.r (by omega) x hx).up hm⟩
theorem RbB.upN {l : List RwV} {d : List QB} {i u n m : Nat} (h : RbB l d i u n) (hm : n ≤ m) (hx : m ≤ 1000000000000000) : RbB l d i u m := by
 have := h.up (v := 0) (by decide) hm hx; rwa [Nat.or_zero] at this
theorem RbB.next {l : List RwV} {d : List QB} {i u n : Nat} {x : RwV} (h : RbB l d i u n) (hx : l[i]? = some x) (hr : n < 1000 → RbR u n x) : RbB l d (i + 1) u n :=
 ⟨h.uu, h.nn, h.b, h.d, fun h1 y hy => by
  rw [List.take_add_one, hx] at hy
  rcases List.mem_append.1 hy with hy | hy
  ·exact h.r h1 y hy
  ·simp at hy; subst hy; exact hr h1⟩
theorem all_next {α : Type} {l : List α} {k : Nat} {x : α} {P : α → Prop} (hx : l[k]? = some x) (h : ∀ y ∈ l.take k, P y) (hp : P x) : ∀ y ∈ l.take (k + 1), P y := fun y hy => by
 rw [List.take_add_one, hx] at hy
 rcases List.mem_append.1 hy with hy | hy
 ·exact h y hy
 ·simp at hy; subst hy; exact hp
theorem run_quoK8 {n : Nat} (hn : n < 9223372036854775808) (t : TypeId) (x y : Operand) (w : World) : (do eqGuard .quo t x y (.int .i64 (n : Int)) (.int .i64 8); binOp .quo t (.int .i64 (n : Int)) (.int .i64 8) : Sem Value).run Tryz.prog w = .ok (.int .i64 ((n / 8 : Nat) : Int)) w := by
 have h1 : (n : Int).tdiv 8 = (n : Int) / 8 := Int.tdiv_eq_ediv_of_nonneg (Int.natCast_nonneg _)
 have h2 : IntKind.i64.wrap ((n : Int) / 8) = (n : Int) / 8 := by
  unfold IntKind.wrap
  simp [IntKind.signed, IntKind.bits]
  omega
 simp [eqGuard, binOp, Op.intDiv, h1, h2]
theorem run_quoK100 {n : Nat} (hn : n < 9223372036854775808) (t : TypeId) (x y : Operand) (w : World) : (do eqGuard .quo t x y (.int .i64 (n : Int)) (.int .i64 100); binOp .quo t (.int .i64 (n : Int)) (.int .i64 100) : Sem Value).run Tryz.prog w = .ok (.int .i64 ((n / 100 : Nat) : Int)) w := by
 have h1 : (n : Int).tdiv 100 = (n : Int) / 100 := Int.tdiv_eq_ediv_of_nonneg (Int.natCast_nonneg _)
 have h2 : IntKind.i64.wrap ((n : Int) / 100) = (n : Int) / 100 := by
  unfold IntKind.wrap
  simp [IntKind.signed, IntKind.bits]
  omega
 simp [eqGuard, binOp, Op.intDiv, h1, h2]
structure RbX where
 i : Nat
 u : Nat
 n : Nat
set_option maxRecDepth 100000 in
theorem rowBits_c (l : List RwV) (la : Option Addr) (lc : Nat) (d : List QB) (da : Option Addr) (dc : Nat) (m : Int) (w : World) (hl : l.length ≤ LM) (hr : RdSl rwC 2 w l la) (hro : ∀ x ∈ l, RwR w x) (hdl : d.length ≤ LM) (hd : RdSl qC 2 w d da) (hdo : ∀ q ∈ d, qOk q) :
  Calls Tryz.prog 7 [.slice la l.length lc, .slice da d.length dc, .int .i64 m].toArray w fun e w' => ∃ (u n : Nat) (b : Bool), u < 16777216 ∧ (b = true → n < 300 ∧ l.length < 20 ∧ d.length ≤ n ∧ subN (bitsQ d) u ∧ ∀ x ∈ l, RbR u n x) ∧ e = .returned (.tuple #[.int .u32 (u : Int), .bool b]) ∧ St w [] [] w' := by
 have hl9 : l.length ≤ 140737488351232 := hl
 have hd9 : d.length ≤ 140737488351232 := hdl
 refine enter Tryz.func7 rfl Tryz.ntmps7 rfl (St.init _) ?_
 refine jN 13 ?_
 refine WL.callV F.fun35 rfl rfl (fun w hS => bits_c d da dc (Nat.le_trans hdl (by decide)) w (hd.next hS) hdo) ?_
 refine jN 22 ?_
 refine WC.loop (α := RbX) (fun g => g.i ≤ l.length ∧ RbB l d g.i g.u g.n) (fun g => [(0, .slice la l.length lc), (2, .int .i64 m), (8, .int .u32 (g.u : Int)), (9, .int .i64 (g.n : Int)), (10, .int .i64 (g.i : Int))]) (fun _ => []) (fun g => l.length - g.i) (⟨0, bitsQ d, d.length⟩) ?_ ?_ ?_ ?_
 ·exact ⟨Nat.zero_le _, ⟨bitsQ_lt d, Nat.le_trans hdl (by decide), Nat.or_self _, Nat.le_refl _, fun _ y hy => by simp at hy⟩⟩
 ·exact ⟨rfl, rfl, rfl, rfl, rfl, trivial⟩
 ·rfl
 rintro ⟨i, u, n⟩ ⟨hi, hb⟩
 dsimp only at hi hb
 have hnn := hb.nn
 show WC _ _ _ _ _ _ _ [(0, .slice la l.length lc), (2, .int .i64 m), (8, .int .u32 (u : Int)), (9, .int .i64 (n : Int)), (10, .int .i64 (i : Int))] []
 refine jN 13 ?_
 refine WA.splitB (i := 22) rfl (fun g22 => ?_) (fun g22 => ?_)
 ·have hlt : i < l.length := by simpa using g22
  refine jN 10 ?_
  refine WC.cond rfl (fun h25 => ?_) (fun h25 => ?_)
  ·have hn1 : n < 1000 := by simp at h25; omega
   obtain ⟨⟨its, ia, ic, nts, na, nc⟩, hx⟩ : ∃ x, l[i]? = some x := ⟨_, List.getElem?_eq_getElem hlt⟩
   obtain ⟨bl, ol, rfl, hcx⟩ := hr i _ hx
   have hxr := hro _ (List.mem_of_getElem? hx)
   have hil : its.length ≤ 140737488351232 := hxr.il
   have hnl : nts.length ≤ 140737488351232 := hxr.nl
   refine jN 5 ?_
   refine WC.draws [([], fun w => w.cell? ⟨bl, ol + i * 2 + 0, none⟩ = some (.slice ia its.length ic)), ([], fun w => w.cell? ⟨bl, ol + i * 2 + 1, none⟩ = some (.slice na nts.length nc))] (by kernel_rfl) (fun w hS => facts_cons (hS.oldc (hcx 0 _ rfl) (by simp)) (facts_cons (hS.oldc (hcx 1 _ rfl) (by simp)) (facts_nil))) ?_
   refine jT 0 rfl (Yl.move rfl) ?_
   refine jT 1 rfl (Yl.move rfl) ?_
   refine jT 2 rfl (Yl.move rfl) ?_
   refine jT 3 rfl (Yl.indexAddr F.sl22 rfl rfl hlt) ?_
   refine jT 4 rfl (Yl.fieldAddr F.fld43_0 rfl) ?_
   refine jF 5 0 rfl rfl (Yl.load1 F.one40 rfl) ?_
   refine jT 6 rfl (Yl.lenSl F.und40 rfl) ?_
   refine jT 7 rfl (Yl.bin (v := .int .i64 ((n + its.length : Nat) : Int)) rfl rfl (fun w => run_addN6 (by omega) (by omega) _ _ _ w)) ?_
   refine jT 8 rfl (Yl.move rfl) ?_
   refine jT 9 rfl (Yl.move rfl) ?_
   refine jT 10 rfl (Yl.indexAddr F.sl22 rfl rfl hlt) ?_
   refine jT 11 rfl (Yl.fieldAddr F.fld43_1 rfl) ?_
   refine jF 12 1 rfl rfl (Yl.load1 F.one41 rfl) ?_
   refine jT 13 rfl (Yl.lenSl F.und41 rfl) ?_
   refine jT 14 rfl (Yl.bin (v := .int .i64 ((n + its.length + nts.length : Nat) : Int)) rfl rfl (fun w => run_addN6 (by omega) (by omega) _ _ _ w)) ?_
   refine jT 15 rfl (Yl.assign rfl) ?_
   refine jD ?_
   refine jN 9 ?_
   refine WC.chunks (C' := []) (fun w hS => hS.sublist (List.nil_sublist _)) ?_
   refine WC.loop (α := RbX) (fun g => g.i ≤ its.length ∧ RbB l d i g.u g.n ∧ its.length + nts.length ≤ g.n ∧ (g.n < 1000 → ∀ y ∈ its.take g.i, RbI g.u g.n y)) (fun g => [(0, .slice (some ⟨bl, ol, none⟩) l.length lc), (2, .int .i64 m), (8, .int .u32 (g.u : Int)), (9, .int .i64 (g.n : Int)), (10, .int .i64 (i : Int)), (11, .int .i64 (g.i : Int))]) (fun _ => []) (fun g => its.length - g.i) (⟨0, u, n + its.length + nts.length⟩) ?_ ?_ ?_ ?_
   ·exact ⟨Nat.zero_le _, hb.upN (m := n + its.length + nts.length) (by omega) (by omega), by show _ ≤ n + its.length + nts.length; omega, fun _ y hy => by simp at hy⟩
   ·exact ⟨rfl, rfl, rfl, rfl, rfl, rfl, trivial⟩
   ·rfl
   rintro ⟨k, u, n⟩ ⟨hk, hb, hn0, hI⟩
   dsimp only at hk hb hn0 hI
   have hnn := hb.nn
   show WC _ _ _ _ _ _ _ [(0, .slice (some ⟨bl, ol, none⟩) l.length lc), (2, .int .i64 m), (8, .int .u32 (u : Int)), (9, .int .i64 (n : Int)), (10, .int .i64 (i : Int)), (11, .int .i64 (k : Int))] []
   refine jN 10 ?_
   refine WL.indexAddr F.sl22 rfl rfl rfl hlt ?_
   refine jN 1 ?_
   refine WL.fieldAddr F.fld43_0 rfl rfl ?_
   refine jN 1 ?_
   refine WL.load1 F.one40 rfl rfl (v := .slice ia its.length ic) (fun w hS => hS.oldc (hcx 0 _ rfl) (by simp)) ?_
   refine jN 6 ?_
   refine WA.splitB (i := 51) rfl (fun g51 => ?_) (fun g51 => ?_)
   ·have hki : k < its.length := by simpa using g51
    refine jN 10 ?_
    refine WC.cond rfl (fun h54 => ?_) (fun h54 => ?_)
    ·have hn2 : n < 1000 := by simp at h54; omega
     obtain ⟨y, hy⟩ : ∃ y, its[k]? = some y := ⟨_, List.getElem?_eq_getElem hki⟩
     obtain ⟨b, o, hia, hcy⟩ := hxr.i k y hy
     dsimp only at hia
     subst hia
     have hyr := hxr.io y (List.mem_of_getElem? hy)
     have hql : y.q.length ≤ 140737488351232 := hyr.ql
     have hpl : y.p.length ≤ 140737488351232 := hyr.pl
     have htl : y.t.length ≤ 140737488351232 := hyr.t
     have hbq := bitsQ_lt y.q
     have hu32 := hb.uu
     refine jN 11 ?_
     refine WL.indexAddr F.sl22 rfl rfl rfl hlt ?_
     refine jN 1 ?_
     refine WL.fieldAddr F.fld43_0 rfl rfl ?_
     refine jN 1 ?_
     refine WL.load1 F.one40 rfl rfl (v := .slice (some ⟨b, o, none⟩) its.length ic) (fun w hS => hS.oldc (hcx 0 _ rfl) (by simp)) ?_
     refine jN 3 ?_
     refine WL.indexAddr F.sl40 rfl rfl rfl hki ?_
     refine jN 1 ?_
     refine WL.loadN F.agg92 rfl rfl (vs := itC y) rfl (fun w hS j v hv => hS.oldc (hcy j v hv) (by simp)) ?_
     refine jN 1 ?_
     refine WL.alloc F.zero92 rfl (fun b12 => ?_)
     refine jN 13 ?_
     refine WL.callV F.fun35 rfl rfl (fun w hS => bits_c y.q y.qa y.qc (Nat.le_trans hyr.ql (by decide)) w (hyr.q.next hS) hyr.qo) ?_
     refine jN 1 ?_
     refine WL.bin (v := .int .u32 ((u ||| bitsQ y.q : Nat) : Int)) rfl rfl rfl (fun w => run_or (by omega) (by omega) _ _ _ w) ?_
     refine jN 14 ?_
     refine WL.bin (v := .int .i64 ((n + y.q.length : Nat) : Int)) rfl rfl rfl (fun w => run_addN6 (by omega) (by omega) _ _ _ w) ?_
     refine jN 7 ?_
     refine WL.bin (v := .int .i64 ((y.p.length / 8 : Nat) : Int)) rfl rfl rfl (fun w => run_quoK8 (by omega) _ _ _ w) ?_
     refine jN 1 ?_
     refine WL.bin (v := .int .i64 ((n + y.q.length + y.p.length / 8 : Nat) : Int)) rfl rfl rfl (fun w => run_addN6 (by omega) (by omega) _ _ _ w) ?_
     refine jN 7 ?_
     refine WL.bin (v := .int .i64 ((y.t.length / 100 : Nat) : Int)) rfl rfl rfl (fun w => run_quoK100 (by omega) _ _ _ w) ?_
     refine jN 1 ?_
     refine WL.bin (v := .int .i64 ((n + y.q.length + y.p.length / 8 + y.t.length / 100 : Nat) : Int)) rfl rfl rfl (fun w => run_addN6 (by omega) (by omega) _ _ _ w) ?_
     refine jN 13 ?_
     have hu24 := hb.uu
     have q1 : n ≤ n + y.q.length + y.p.length / 8 + y.t.length / 100 := by omega
     have q2 : n + y.q.length + y.p.length / 8 + y.t.length / 100 ≤ 1000000000000000 := by omega
     have q3 : n + y.q.length + y.p.length / 8 + y.t.length / 100 < 1000 → n < 1000 := by omega
     have q4 : y.q.length + y.p.length / 8 + y.t.length / 100 ≤ n + y.q.length + y.p.length / 8 + y.t.length / 100 := by omega
     have q5 : its.length + nts.length ≤ n + y.q.length + y.p.length / 8 + y.t.length / 100 := by omega
     refine WQ.chunks (C' := []) (fun w hS => hS.sublist (List.nil_sublist _)) ?_
     refine WQ.back (⟨k + 1, u ||| bitsQ y.q, n + y.q.length + y.p.length / 8 + y.t.length / 100⟩ : RbX) ?_ ?_ ?_ ?_
     ·exact ⟨by show k + 1 ≤ its.length; omega, hb.up hbq q1 q2, q5, fun h1 => all_next hy (fun z hz => (hI (q3 h1) z hz).up q1) ⟨subN.self, q4⟩⟩
     ·show its.length - (k + 1) < its.length - k; omega
     ·exact ⟨rfl, rfl, rfl, rfl, rfl, rfl, trivial⟩
     ·rfl
    ·have hI2 : n < 1000 → ∀ y ∈ its, RbI u n y := fun h1 => by exfalso; simp at h54; omega
     refine jN 12 ?_
     refine WC.chunks (C' := []) (fun w hS => hS.sublist (List.nil_sublist _)) ?_
     refine WC.loop (α := RbX) (fun g => g.i ≤ nts.length ∧ RbB l d i g.u g.n ∧ its.length + nts.length ≤ g.n ∧ (g.n < 1000 → ∀ y ∈ its, RbI g.u g.n y) ∧ (g.n < 1000 → ∀ y ∈ nts.take g.i, RbN g.u g.n y)) (fun g => [(0, .slice (some ⟨bl, ol, none⟩) l.length lc), (2, .int .i64 m), (8, .int .u32 (g.u : Int)), (9, .int .i64 (g.n : Int)), (10, .int .i64 (i : Int)), (13, .int .i64 (g.i : Int))]) (fun _ => []) (fun g => nts.length - g.i) (⟨0, u, n⟩) ?_ ?_ ?_ ?_
     ·exact ⟨Nat.zero_le _, hb, hn0, hI2, fun _ y hy => by simp at hy⟩
     ·exact ⟨rfl, rfl, rfl, rfl, rfl, rfl, trivial⟩
     ·rfl
     rintro ⟨k, u, n⟩ ⟨hk, hb, hn0, hI, hN⟩
     dsimp only at hk hb hn0 hI hN
     have hnn := hb.nn
     show WC _ _ _ _ _ _ _ [(0, .slice (some ⟨bl, ol, none⟩) l.length lc), (2, .int .i64 m), (8, .int .u32 (u : Int)), (9, .int .i64 (n : Int)), (10, .int .i64 (i : Int)), (13, .int .i64 (k : Int))] []
     refine jN 10 ?_
     refine WL.indexAddr F.sl22 rfl rfl rfl hlt ?_
     refine jN 1 ?_
     refine WL.fieldAddr F.fld43_1 rfl rfl ?_
     refine jN 1 ?_
     refine WL.load1 F.one41 rfl rfl (v := .slice na nts.length nc) (fun w hS => hS.oldc (hcx 1 _ rfl) (by simp)) ?_
     refine jN 6 ?_
     refine WA.splitB (i := 93) rfl (fun g93 => ?_) (fun g93 => ?_)
     ·have hkn : k < nts.length := by simpa using g93
      refine jN 10 ?_
      refine WC.cond rfl (fun h96 => ?_) (fun h96 => ?_)
      ·have hn2 : n < 1000 := by simp at h96; omega
       obtain ⟨y, hy⟩ : ∃ y, nts[k]? = some y := ⟨_, List.getElem?_eq_getElem hkn⟩
       obtain ⟨b, o, hna, hcy⟩ := hxr.n k y hy
       dsimp only at hna
       subst hna
       have hyr := hxr.no y (List.mem_of_getElem? hy)
       have hql : y.q.length ≤ 140737488351232 := hyr.ql
       have hpl : y.p.length ≤ 140737488351232 := hyr.pl
       have hbq := bitsQ_lt y.q
       have hu32 := hb.uu
       refine jN 13 ?_
       refine WL.indexAddr F.sl22 rfl rfl rfl hlt ?_
       refine jN 1 ?_
       refine WL.fieldAddr F.fld43_1 rfl rfl ?_
       refine jN 1 ?_
       refine WL.load1 F.one41 rfl rfl (v := .slice (some ⟨b, o, none⟩) nts.length nc) (fun w hS => hS.oldc (hcx 1 _ rfl) (by simp)) ?_
       refine jN 3 ?_
       refine WL.indexAddr F.sl41 rfl rfl rfl hkn ?_
       refine jN 1 ?_
       refine WL.fieldAddr F.fld95_4 rfl rfl ?_
       refine jN 1 ?_
       refine WL.load1 F.one23 rfl rfl (v := .slice y.qa y.q.length y.qc) (fun w hS => hS.oldc (hcy 4 _ rfl) (by simp)) ?_
       refine jN 1 ?_
       refine WL.callV F.fun35 rfl rfl (fun w hS => bits_c y.q y.qa y.qc (Nat.le_trans hyr.ql (by decide)) w (hyr.q.next hS) hyr.qo) ?_
       refine jN 1 ?_
       refine WL.bin (v := .int .u32 ((u ||| bitsQ y.q : Nat) : Int)) rfl rfl rfl (fun w => run_or (by omega) (by omega) _ _ _ w) ?_
       refine jN 4 ?_
       refine WC.draws [([], fun w => w.cell? ⟨bl, ol + i * 2 + 1, none⟩ = some (.slice (some ⟨b, o, none⟩) nts.length nc)), ([], fun w => w.cell? ⟨b, o + k * 5 + 4, none⟩ = some (.slice y.qa y.q.length y.qc)), ([], fun w => w.cell? ⟨bl, ol + i * 2 + 1, none⟩ = some (.slice (some ⟨b, o, none⟩) nts.length nc)), ([], fun w => w.cell? ⟨b, o + k * 5 + 1, none⟩ = some (.slice y.pa y.p.length y.pc))] (by kernel_rfl) (fun w hS => facts_cons (hS.oldc (hcx 1 _ rfl) (by simp)) (facts_cons (hS.oldc (hcy 4 _ rfl) (by simp)) (facts_cons (hS.oldc (hcx 1 _ rfl) (by simp)) (facts_cons (hS.oldc (hcy 1 _ rfl) (by simp)) (facts_nil))))) ?_
       refine jT 0 rfl (Yl.move rfl) ?_
       refine jT 1 rfl (Yl.move rfl) ?_
       refine jT 2 rfl (Yl.move rfl) ?_
       refine jT 3 rfl (Yl.indexAddr F.sl22 rfl rfl hlt) ?_
       refine jT 4 rfl (Yl.fieldAddr F.fld43_1 rfl) ?_
       refine jF 5 0 rfl rfl (Yl.load1 F.one41 rfl) ?_
       refine jT 6 rfl (Yl.move rfl) ?_
       refine jT 7 rfl (Yl.indexAddr F.sl41 rfl rfl hkn) ?_
       refine jT 8 rfl (Yl.fieldAddr F.fld95_4 rfl) ?_
       refine jF 9 1 rfl rfl (Yl.load1 F.one23 rfl) ?_
       refine jT 10 rfl (Yl.lenSl F.und23 rfl) ?_
       refine jT 11 rfl (Yl.bin (v := .int .i64 ((n + y.q.length : Nat) : Int)) rfl rfl (fun w => run_addN6 (by omega) (by omega) _ _ _ w)) ?_
       refine jT 12 rfl (Yl.move rfl) ?_
       refine jT 13 rfl (Yl.move rfl) ?_
       refine jT 14 rfl (Yl.indexAddr F.sl22 rfl rfl hlt) ?_
       refine jT 15 rfl (Yl.fieldAddr F.fld43_1 rfl) ?_
       refine jF 16 2 rfl rfl (Yl.load1 F.one41 rfl) ?_
       refine jT 17 rfl (Yl.move rfl) ?_
       refine jT 18 rfl (Yl.indexAddr F.sl41 rfl rfl hkn) ?_
       refine jT 19 rfl (Yl.fieldAddr F.fld95_1 rfl) ?_
       refine jF 20 3 rfl rfl (Yl.load1 F.one70 rfl) ?_
       refine jT 21 rfl (Yl.lenSl F.und70 rfl) ?_
       refine jT 22 rfl (Yl.bin (v := .int .i64 ((y.p.length / 8 : Nat) : Int)) rfl rfl (fun w => run_quoK8 (by omega) _ _ _ w)) ?_
       refine jT 23 rfl (Yl.bin (v := .int .i64 ((n + y.q.length + y.p.length / 8 : Nat) : Int)) rfl rfl (fun w => run_addN6 (by omega) (by omega) _ _ _ w)) ?_
       refine jT 24 rfl (Yl.assign rfl) ?_
       refine jD ?_
       refine jN 10 ?_
       have hu24 := hb.uu
       have q1 : n ≤ n + y.q.length + y.p.length / 8 := by omega
       have q2 : n + y.q.length + y.p.length / 8 ≤ 1000000000000000 := by omega
       have q3 : n + y.q.length + y.p.length / 8 < 1000 → n < 1000 := by omega
       have q4 : y.q.length + y.p.length / 8 ≤ n + y.q.length + y.p.length / 8 := by omega
       have q5 : its.length + nts.length ≤ n + y.q.length + y.p.length / 8 := by omega
       refine WQ.chunks (C' := []) (fun w hS => hS.sublist (List.nil_sublist _)) ?_
       refine WQ.back (⟨k + 1, u ||| bitsQ y.q, n + y.q.length + y.p.length / 8⟩ : RbX) ?_ ?_ ?_ ?_
       ·exact ⟨by show k + 1 ≤ nts.length; omega, hb.up hbq q1 q2, q5, fun h1 z hz => (hI (q3 h1) z hz).up q1, fun h1 => all_next hy (fun z hz => (hN (q3 h1) z hz).up q1) ⟨subN.self, q4⟩⟩
       ·show nts.length - (k + 1) < nts.length - k; omega
       ·exact ⟨rfl, rfl, rfl, rfl, rfl, rfl, trivial⟩
       ·rfl
      ·have hN2 : n < 1000 → ∀ y ∈ nts, RbN u n y := fun h1 => by exfalso; simp at h96; omega
       refine jN 14 ?_
       refine WQ.chunks (C' := []) (fun w hS => hS.sublist (List.nil_sublist _)) ?_
       refine WQ.back (⟨i + 1, u, n⟩ : RbX) ?_ ?_ ?_ ?_
       ·exact ⟨by show i + 1 ≤ l.length; omega, hb.next hx (fun h1 => ⟨hn0, hI h1, hN2 h1⟩)⟩
       ·show l.length - (i + 1) < l.length - i; omega
       ·exact ⟨rfl, rfl, rfl, rfl, rfl, trivial⟩
       ·rfl
     ·have hke2 : k = nts.length := by simp at g93; omega
      have hN2 : n < 1000 → ∀ y ∈ nts, RbN u n y := by rw [hke2, List.take_length] at hN; exact hN
      refine jN 23 ?_
      refine WQ.chunks (C' := []) (fun w hS => hS.sublist (List.nil_sublist _)) ?_
      refine WQ.back (⟨i + 1, u, n⟩ : RbX) ?_ ?_ ?_ ?_
      ·exact ⟨by show i + 1 ≤ l.length; omega, hb.next hx (fun h1 => ⟨hn0, hI h1, hN2 h1⟩)⟩
      ·show l.length - (i + 1) < l.length - i; omega
      ·exact ⟨rfl, rfl, rfl, rfl, rfl, trivial⟩
      ·rfl
   ·have hke : k = its.length := by simp at g51; omega
    have hI2 : n < 1000 → ∀ y ∈ its, RbI u n y := by rw [hke, List.take_length] at hI; exact hI
    refine jN 21 ?_
    refine WC.chunks (C' := []) (fun w hS => hS.sublist (List.nil_sublist _)) ?_
    refine WC.loop (α := RbX) (fun g => g.i ≤ nts.length ∧ RbB l d i g.u g.n ∧ its.length + nts.length ≤ g.n ∧ (g.n < 1000 → ∀ y ∈ its, RbI g.u g.n y) ∧ (g.n < 1000 → ∀ y ∈ nts.take g.i, RbN g.u g.n y)) (fun g => [(0, .slice (some ⟨bl, ol, none⟩) l.length lc), (2, .int .i64 m), (8, .int .u32 (g.u : Int)), (9, .int .i64 (g.n : Int)), (10, .int .i64 (i : Int)), (13, .int .i64 (g.i : Int))]) (fun _ => []) (fun g => nts.length - g.i) (⟨0, u, n⟩) ?_ ?_ ?_ ?_
    ·exact ⟨Nat.zero_le _, hb, hn0, hI2, fun _ y hy => by simp at hy⟩
    ·exact ⟨rfl, rfl, rfl, rfl, rfl, rfl, trivial⟩
    ·rfl
    rintro ⟨k, u, n⟩ ⟨hk, hb, hn0, hI, hN⟩
    dsimp only at hk hb hn0 hI hN
    have hnn := hb.nn
    show WC _ _ _ _ _ _ _ [(0, .slice (some ⟨bl, ol, none⟩) l.length lc), (2, .int .i64 m), (8, .int .u32 (u : Int)), (9, .int .i64 (n : Int)), (10, .int .i64 (i : Int)), (13, .int .i64 (k : Int))] []
    refine jN 10 ?_
    refine WL.indexAddr F.sl22 rfl rfl rfl hlt ?_
    refine jN 1 ?_
    refine WL.fieldAddr F.fld43_1 rfl rfl ?_
    refine jN 1 ?_
    refine WL.load1 F.one41 rfl rfl (v := .slice na nts.length nc) (fun w hS => hS.oldc (hcx 1 _ rfl) (by simp)) ?_
    refine jN 6 ?_
    refine WA.splitB (i := 93) rfl (fun g93 => ?_) (fun g93 => ?_)
    ·have hkn : k < nts.length := by simpa using g93
     refine jN 10 ?_
     refine WC.cond rfl (fun h96 => ?_) (fun h96 => ?_)
     ·have hn2 : n < 1000 := by simp at h96; omega
      obtain ⟨y, hy⟩ : ∃ y, nts[k]? = some y := ⟨_, List.getElem?_eq_getElem hkn⟩
      obtain ⟨b, o, hna, hcy⟩ := hxr.n k y hy
      dsimp only at hna
      subst hna
      have hyr := hxr.no y (List.mem_of_getElem? hy)
      have hql : y.q.length ≤ 140737488351232 := hyr.ql
      have hpl : y.p.length ≤ 140737488351232 := hyr.pl
      have hbq := bitsQ_lt y.q
      have hu32 := hb.uu
      refine jN 13 ?_
      refine WL.indexAddr F.sl22 rfl rfl rfl hlt ?_
      refine jN 1 ?_
      refine WL.fieldAddr F.fld43_1 rfl rfl ?_
      refine jN 1 ?_
      refine WL.load1 F.one41 rfl rfl (v := .slice (some ⟨b, o, none⟩) nts.length nc) (fun w hS => hS.oldc (hcx 1 _ rfl) (by simp)) ?_
      refine jN 3 ?_
      refine WL.indexAddr F.sl41 rfl rfl rfl hkn ?_
      refine jN 1 ?_
      refine WL.fieldAddr F.fld95_4 rfl rfl ?_
      refine jN 1 ?_
      refine WL.load1 F.one23 rfl rfl (v := .slice y.qa y.q.length y.qc) (fun w hS => hS.oldc (hcy 4 _ rfl) (by simp)) ?_
      refine jN 1 ?_
      refine WL.callV F.fun35 rfl rfl (fun w hS => bits_c y.q y.qa y.qc (Nat.le_trans hyr.ql (by decide)) w (hyr.q.next hS) hyr.qo) ?_
      refine jN 1 ?_
      refine WL.bin (v := .int .u32 ((u ||| bitsQ y.q : Nat) : Int)) rfl rfl rfl (fun w => run_or (by omega) (by omega) _ _ _ w) ?_
      refine jN 4 ?_
      refine WC.draws [([], fun w => w.cell? ⟨bl, ol + i * 2 + 1, none⟩ = some (.slice (some ⟨b, o, none⟩) nts.length nc)), ([], fun w => w.cell? ⟨b, o + k * 5 + 4, none⟩ = some (.slice y.qa y.q.length y.qc)), ([], fun w => w.cell? ⟨bl, ol + i * 2 + 1, none⟩ = some (.slice (some ⟨b, o, none⟩) nts.length nc)), ([], fun w => w.cell? ⟨b, o + k * 5 + 1, none⟩ = some (.slice y.pa y.p.length y.pc))] (by kernel_rfl) (fun w hS => facts_cons (hS.oldc (hcx 1 _ rfl) (by simp)) (facts_cons (hS.oldc (hcy 4 _ rfl) (by simp)) (facts_cons (hS.oldc (hcx 1 _ rfl) (by simp)) (facts_cons (hS.oldc (hcy 1 _ rfl) (by simp)) (facts_nil))))) ?_
      refine jT 0 rfl (Yl.move rfl) ?_
      refine jT 1 rfl (Yl.move rfl) ?_
      refine jT 2 rfl (Yl.move rfl) ?_
      refine jT 3 rfl (Yl.indexAddr F.sl22 rfl rfl hlt) ?_
      refine jT 4 rfl (Yl.fieldAddr F.fld43_1 rfl) ?_
      refine jF 5 0 rfl rfl (Yl.load1 F.one41 rfl) ?_
      refine jT 6 rfl (Yl.move rfl) ?_
      refine jT 7 rfl (Yl.indexAddr F.sl41 rfl rfl hkn) ?_
      refine jT 8 rfl (Yl.fieldAddr F.fld95_4 rfl) ?_
      refine jF 9 1 rfl rfl (Yl.load1 F.one23 rfl) ?_
      refine jT 10 rfl (Yl.lenSl F.und23 rfl) ?_
      refine jT 11 rfl (Yl.bin (v := .int .i64 ((n + y.q.length : Nat) : Int)) rfl rfl (fun w => run_addN6 (by omega) (by omega) _ _ _ w)) ?_
      refine jT 12 rfl (Yl.move rfl) ?_
      refine jT 13 rfl (Yl.move rfl) ?_
      refine jT 14 rfl (Yl.indexAddr F.sl22 rfl rfl hlt) ?_
      refine jT 15 rfl (Yl.fieldAddr F.fld43_1 rfl) ?_
      refine jF 16 2 rfl rfl (Yl.load1 F.one41 rfl) ?_
      refine jT 17 rfl (Yl.move rfl) ?_
      refine jT 18 rfl (Yl.indexAddr F.sl41 rfl rfl hkn) ?_
      refine jT 19 rfl (Yl.fieldAddr F.fld95_1 rfl) ?_
      refine jF 20 3 rfl rfl (Yl.load1 F.one70 rfl) ?_
      refine jT 21 rfl (Yl.lenSl F.und70 rfl) ?_
      refine jT 22 rfl (Yl.bin (v := .int .i64 ((y.p.length / 8 : Nat) : Int)) rfl rfl (fun w => run_quoK8 (by omega) _ _ _ w)) ?_
      refine jT 23 rfl (Yl.bin (v := .int .i64 ((n + y.q.length + y.p.length / 8 : Nat) : Int)) rfl rfl (fun w => run_addN6 (by omega) (by omega) _ _ _ w)) ?_
      refine jT 24 rfl (Yl.assign rfl) ?_
      refine jD ?_
      refine jN 10 ?_
      have hu24 := hb.uu
      have q1 : n ≤ n + y.q.length + y.p.length / 8 := by omega
      have q2 : n + y.q.length + y.p.length / 8 ≤ 1000000000000000 := by omega
      have q3 : n + y.q.length + y.p.length / 8 < 1000 → n < 1000 := by omega
      have q4 : y.q.length + y.p.length / 8 ≤ n + y.q.length + y.p.length / 8 := by omega
      have q5 : its.length + nts.length ≤ n + y.q.length + y.p.length / 8 := by omega
      refine WQ.chunks (C' := []) (fun w hS => hS.sublist (List.nil_sublist _)) ?_
      refine WQ.back (⟨k + 1, u ||| bitsQ y.q, n + y.q.length + y.p.length / 8⟩ : RbX) ?_ ?_ ?_ ?_
      ·exact ⟨by show k + 1 ≤ nts.length; omega, hb.up hbq q1 q2, q5, fun h1 z hz => (hI (q3 h1) z hz).up q1, fun h1 => all_next hy (fun z hz => (hN (q3 h1) z hz).up q1) ⟨subN.self, q4⟩⟩
      ·show nts.length - (k + 1) < nts.length - k; omega
      ·exact ⟨rfl, rfl, rfl, rfl, rfl, rfl, trivial⟩
      ·rfl
     ·have hN2 : n < 1000 → ∀ y ∈ nts, RbN u n y := fun h1 => by exfalso; simp at h96; omega
      refine jN 14 ?_
      refine WQ.chunks (C' := []) (fun w hS => hS.sublist (List.nil_sublist _)) ?_
      refine WQ.back (⟨i + 1, u, n⟩ : RbX) ?_ ?_ ?_ ?_
      ·exact ⟨by show i + 1 ≤ l.length; omega, hb.next hx (fun h1 => ⟨hn0, hI h1, hN2 h1⟩)⟩
      ·show l.length - (i + 1) < l.length - i; omega
      ·exact ⟨rfl, rfl, rfl, rfl, rfl, trivial⟩
      ·rfl
    ·have hke2 : k = nts.length := by simp at g93; omega
     have hN2 : n < 1000 → ∀ y ∈ nts, RbN u n y := by rw [hke2, List.take_length] at hN; exact hN
     refine jN 23 ?_
     refine WQ.chunks (C' := []) (fun w hS => hS.sublist (List.nil_sublist _)) ?_
     refine WQ.back (⟨i + 1, u, n⟩ : RbX) ?_ ?_ ?_ ?_
     ·exact ⟨by show i + 1 ≤ l.length; omega, hb.next hx (fun h1 => ⟨hn0, hI h1, hN2 h1⟩)⟩
     ·show l.length - (i + 1) < l.length - i; omega
     ·exact ⟨rfl, rfl, rfl, rfl, rfl, trivial⟩
     ·rfl
  ·have hfin : n < 1000 → ∀ x ∈ l, RbR u n x := fun h1 => by exfalso; simp at h25; omega
   refine jN 15 ?_
   refine WA.splitB (i := 138) rfl (fun g138 => ?_) (fun g138 => ?_)
   ·have hn3 : n < 300 := by simp at g138; omega
    refine jN 13 ?_
    refine WA.splitB (i := 143) rfl (fun g143 => ?_) (fun g143 => ?_)
    ·have hl20 : l.length < 20 := by simp at g143; omega
     refine jN 8 ?_
     refine WL.call0 (β := Bool) (res := fun x => .returned (.bool x)) (cs := fun _ => []) (ψ := fun _ => True) F.fun36 (fun d h => by cases h; rfl) rfl (fun w hS => (few6_c u (Nat.lt_of_lt_of_le hb.uu (by decide)) m w).mono (fun e w2 ⟨x, h1, h2⟩ => ⟨x, trivial, h1, h2⟩)) (fun bb _ => ?_)
     refine WL.step ?_
     refine WL.pickT rfl rfl rfl ?_
     refine WL.step ?_
     refine WL.assign rfl rfl ?_
     refine WL.step ?_
     refine WL.assign rfl rfl ?_
     refine WL.nil ?_
     refine WQ.then_normal ?_
     refine WC.ret ?_
     exact WQ.ret (rs := [.tmp 6, .tmp 7]) rfl (.tmp rfl (.tmp rfl .nil)) (fun w hS => ⟨u, n, bb, hb.uu, fun _ => ⟨hn3, hl20, hb.d, hb.b, hfin (by omega)⟩, rfl, hS⟩)
    ·refine jN 15 ?_
     exact WQ.ret (rs := [.tmp 6, .tmp 7]) rfl (.tmp rfl (.tmp rfl .nil)) (fun w hS => ⟨u, n, false, hb.uu, fun h => (by cases h), rfl, hS⟩)
   ·refine jN 25 ?_
    exact WQ.ret (rs := [.tmp 6, .tmp 7]) rfl (.tmp rfl (.tmp rfl .nil)) (fun w hS => ⟨u, n, false, hb.uu, fun h => (by cases h), rfl, hS⟩)
 ·have hie : i = l.length := by simp at g22; omega
  have hfin : n < 1000 → ∀ x ∈ l, RbR u n x := by have h9 := hb.r; rw [hie, List.take_length] at h9; exact h9
  refine jN 24 ?_
  refine WA.splitB (i := 138) rfl (fun g138 => ?_) (fun g138 => ?_)
  ·have hn3 : n < 300 := by simp at g138; omega
   refine jN 13 ?_
   refine WA.splitB (i := 143) rfl (fun g143 => ?_) (fun g143 => ?_)
   ·have hl20 : l.length < 20 := by simp at g143; omega
    refine jN 8 ?_
    refine WL.call0 (β := Bool) (res := fun x => .returned (.bool x)) (cs := fun _ => []) (ψ := fun _ => True) F.fun36 (fun d h => by cases h; rfl) rfl (fun w hS => (few6_c u (Nat.lt_of_lt_of_le hb.uu (by decide)) m w).mono (fun e w2 ⟨x, h1, h2⟩ => ⟨x, trivial, h1, h2⟩)) (fun bb _ => ?_)
    refine WL.step ?_
    refine WL.pickT rfl rfl rfl ?_
    refine WL.step ?_
    refine WL.assign rfl rfl ?_
    refine WL.step ?_
    refine WL.assign rfl rfl ?_
    refine WL.nil ?_
    refine WQ.then_normal ?_
    refine WC.ret ?_
    exact WQ.ret (rs := [.tmp 6, .tmp 7]) rfl (.tmp rfl (.tmp rfl .nil)) (fun w hS => ⟨u, n, bb, hb.uu, fun _ => ⟨hn3, hl20, hb.d, hb.b, hfin (by omega)⟩, rfl, hS⟩)
   ·refine jN 15 ?_
    exact WQ.ret (rs := [.tmp 6, .tmp 7]) rfl (.tmp rfl (.tmp rfl .nil)) (fun w hS => ⟨u, n, false, hb.uu, fun h => (by cases h), rfl, hS⟩)
  ·refine jN 25 ?_
   exact WQ.ret (rs := [.tmp 6, .tmp 7]) rfl (.tmp rfl (.tmp rfl .nil)) (fun w hS => ⟨u, n, false, hb.uu, fun h => (by cases h), rfl, hS⟩)
end Go.Proofs.YtndpdhamadiopaaGreatDoor
namespace Go.Eng
open Go Go.RowKit
section
variable {P : Program} {kt : TypeId}
end
end Go.Eng
namespace Go.Proofs.YtndpdhamadiopaaGreatDoor
open Go Go.Eng Go.Proofs Dg
def sameB (t s : BT) : Bool := decide (canon t = canon s)
def onLn (f l : Int) (y : ItV) : Bool := decide (y.f = f) && decide (y.l = l)
def findK (its : List ItV) (f l : Int) : Nat → List Int
 | 0 => []
 | k + 1 => if (its[k]?).any (onLn f l) then findK its f l k ++ [(k : Int)] else findK its f l k
structure FiG where
 i : Nat
 a : Option Addr
 c : Nat
def cmpP : List Int → List Int → Int
 | a :: r, b :: s => if a = b then cmpP r s else if a < b then -1 else 1
 | l, m => (l.length : Int) - m.length
theorem run_subL {m n : Nat} (hm : m ≤ 1000000000) (hn : n ≤ 1000000000) (t : TypeId) (x y : Operand) (w : World) :
  (do eqGuard .sub t x y (.int .i64 (m : Int)) (.int .i64 (n : Int)); binOp .sub t (.int .i64 (m : Int)) (.int .i64 (n : Int)) : Sem Value).run Tryz.prog w = .ok (.int .i64 ((m : Int) - n)) w := by
 have h2 : IntKind.i64.wrap ((m : Int) - (n : Int)) = (m : Int) - (n : Int) := by
  unfold IntKind.wrap
  simp [IntKind.signed, IntKind.bits]
  omega
 simp [eqGuard, binOp, Op.intArith, h2]
def cmpI (x y : Int) : Int := if x < y then -1 else if y < x then 1 else 0
def cmpS (s t : List UInt8) : Int := if Op.bytesLess s t then -1 else if s = t then 0 else 1
def cmpL : List Int → List Int → Int
 | [], [] => 0
 | [], _ :: _ => -1
 | _ :: _, [] => 1
 | x :: l, y :: m => if x = y then cmpL l m else cmpI x y
def orI : List Int → Int
 | [] => 0
 | x :: l => if x = 0 then orI l else x
def cmpT (x y : ItV) : Int := orI [cmpL x.p y.p, cmpI (x.k : Int) (y.k : Int), cmpS x.t y.t]
def cmpD (x y : NoV) : Int := orI [cmpL x.p y.p, cmpI (x.k : Int) (y.k : Int)]
theorem RdC.of_pt {w : World} {l : List Int} {b : Nat} {e : TypeId} (h : (pt b (l.map (Value.int .i64)) e).ok w) : RdC w l (some ⟨b, 0, none⟩) := fun i x hx => by
 refine ⟨b, 0, rfl, ?_⟩
 rw [Nat.zero_add]
 exact cell_of_heap h (by rw [List.getElem?_map, hx]; rfl)
def eqBy {α : Type} (f : α → α → Bool) : List α → List α → Bool
 | [], [] => true
 | x :: l, y :: m => f x y && eqBy f l m
 | _, _ => false
theorem eqBy_len {α : Type} {f : α → α → Bool} : ∀ {l m : List α}, eqBy f l m = true → l.length = m.length
 | [], [], _ => rfl
 | x :: l, y :: m, h => by
  unfold eqBy at h
  rw [Bool.and_eq_true] at h
  rw [List.length_cons, List.length_cons, eqBy_len h.2]
 | [], _ :: _, h => by cases h
 | _ :: _, [], h => by cases h
theorem eqBy_at {α : Type} {f : α → α → Bool} {l m : List α} {i : Nat} {x y : α} (hx : l[i]? = some x) (hy : m[i]? = some y) (h : eqBy f l m = eqBy f (l.drop i) (m.drop i)) : eqBy f l m = (f x y && eqBy f (l.drop (i + 1)) (m.drop (i + 1))) := by
 have e : ∀ {l : List α} {x : α}, l[i]? = some x → l.drop i = x :: l.drop (i + 1) := fun {l x} h => by
  rw [List.drop_eq_getElem_cons (List.getElem?_eq_some_iff.1 h).1]
  congr 1
  exact (List.getElem?_eq_some_iff.1 h).2
 rw [h, e hx, e hy, eqBy]
def sameTB (x y : TkV) : Bool := decide (cmpT x.x y.x = 0) && decide (x.x.f = y.x.f) && decide (x.x.l = y.x.l) && sameB x.d y.d
def sameDB (x y : DgV) : Bool := decide (cmpD x.x y.x = 0) && decide (x.x.f = y.x.f) && decide (x.x.l = y.x.l) && sameB x.d y.d
structure TsR (w : World) (ts : List TkV) (a : Option Addr) : Prop where
 r : RdSl tkC 7 w ts a
 p : ∀ t ∈ ts, RdC w t.x.p t.x.pa ∧ t.x.p.length ≤ 1000000000
 d : ∀ t ∈ ts, RdD w t.d t.da
structure DsR (w : World) (ts : List DgV) (a : Option Addr) : Prop where
 r : RdSl dgC 6 w ts a
 p : ∀ t ∈ ts, RdC w t.x.p t.x.pa ∧ t.x.p.length ≤ 1000000000
 d : ∀ t ∈ ts, RdD w t.d t.da
theorem TsR.next {w0 w : World} {C : List Chunk} {ts : List TkV} {a : Option Addr} (h : TsR w0 ts a) (hS : St w0 [] C w) : TsR w ts a := ⟨h.r.next hS, fun t ht => ⟨(h.p t ht).1.next hS, (h.p t ht).2⟩, fun t ht => (h.d t ht).next0 hS⟩
theorem DsR.next {w0 w : World} {C : List Chunk} {ts : List DgV} {a : Option Addr} (h : DsR w0 ts a) (hS : St w0 [] C w) : DsR w ts a := ⟨h.r.next hS, fun t ht => ⟨(h.p t ht).1.next hS, (h.p t ht).2⟩, fun t ht => (h.d t ht).next0 hS⟩
def sameRt (x y : RtV) : Bool := decide (x.x.k = y.x.k) && decide (x.x.t = y.x.t) && (cmpP x.x.p y.x.p == 0) && decide (x.x.f = y.x.f) && decide (x.x.l = y.x.l) && decide (x.c = y.c)
def sameRg (x y : RgV) : Bool := decide (x.x.k = y.x.k) && (cmpP x.x.p y.x.p == 0) && decide (x.x.f = y.x.f) && decide (x.x.l = y.x.l) && decide (x.c = y.c)
structure RsR (w : World) (ts : List RtV) (a : Option Addr) : Prop where
 r : RdSl rtC 6 w ts a
 p : ∀ t ∈ ts, RdC w t.x.p t.x.pa ∧ t.x.p.length ≤ 1000000000
 d : ∀ t ∈ ts, RdN w t.c t.ca ∧ t.c.length ≤ 1000000000000000
structure HsR (w : World) (ts : List RgV) (a : Option Addr) : Prop where
 r : RdSl rgC 5 w ts a
 p : ∀ t ∈ ts, RdC w t.x.p t.x.pa ∧ t.x.p.length ≤ 1000000000
 d : ∀ t ∈ ts, RdN w t.c t.ca ∧ t.c.length ≤ 1000000000000000
theorem RsR.next {w0 w : World} {C : List Chunk} {ts : List RtV} {a : Option Addr} (h : RsR w0 ts a) (hS : St w0 [] C w) : RsR w ts a := ⟨h.r.next hS, fun t ht => ⟨(h.p t ht).1.next hS, (h.p t ht).2⟩, fun t ht => ⟨(h.d t ht).1.next hS, (h.d t ht).2⟩⟩
theorem HsR.next {w0 w : World} {C : List Chunk} {ts : List RgV} {a : Option Addr} (h : HsR w0 ts a) (hS : St w0 [] C w) : HsR w ts a := ⟨h.r.next hS, fun t ht => ⟨(h.p t ht).1.next hS, (h.p t ht).2⟩, fun t ht => ⟨(h.d t ht).1.next hS, (h.d t ht).2⟩⟩
theorem eqBy_ne {α : Type} {f : α → α → Bool} {l m : List α} (h : l.length ≠ m.length) : eqBy f l m = false := by
 cases he : eqBy f l m with
 | false => rfl
 | true => exact absurd (eqBy_len he) h
def brkB (its : List ItV) (k : Nat) (y : ItV) (n : Nat) : Bool := decide (k + 1 = its.length) || (its[k + 1]?).any (fun z => decide (z.f ≠ y.f)) || (its[k + 1]?).any (fun z => decide (z.l ≠ y.l)) || decide (n = 256)
def txK (its : List ItV) : Nat → List UInt8 × Nat
 | 0 => ([], 0)
 | k + 1 => match its[k]? with
  | none => txK its k
  | some y => if brkB its k y ((txK its k).2 + 1) then ((txK its k).1 ++ y.t ++ [10], 0) else ((txK its k).1 ++ y.t ++ [32], (txK its k).2 + 1)
end Go.Proofs.YtndpdhamadiopaaGreatDoor
namespace Go.Eng
open Go Go.RowKit Go.Lib
section
variable {P : Program} {w0 : World} {O : List Nat} {ops : Array Oper} {Q : Exit → Act → World → Prop} {N : Nat} {D : List Deferred} {L : FL} {C : List Chunk} {K : Act → World → Prop}
variable {d : Nat} {ty : TypeId} {pos : String} {af : Array Edge}
end
end Go.Eng
namespace Go.Proofs.YtndpdhamadiopaaGreatDoor
open Go Go.Eng Go.Proofs Dg
def qB (b i : Nat) : Value := if i = 0 then .pointer none else pp b
structure TeG where
 i : Nat
 a : Option Addr
 c : Nat
structure RdDL (w : World) (ds : List DV) (a : Option Addr) : Prop where
 hd : ∀ (j : Nat) (u : Value), (dcs ds)[j]? = some u → ∃ b off, a = some ⟨b, off, none⟩ ∧ w.cell? ⟨b, off + j, none⟩ = some u
 rd : ∀ x ∈ ds, RdD w x.1 x.2.1
theorem RdDL.next {w0 w : World} {C : List Chunk} {ds : List DV} {a : Option Addr} (h : RdDL w0 ds a) (hS : St w0 [] C w) : RdDL w ds a :=
 ⟨fun j u hu => by
  obtain ⟨b, off, h1, h2⟩ := h.hd j u hu
  exact ⟨b, off, h1, hS.oldc h2 (by simp)⟩, fun x hx => (h.rd x hx).next0 hS⟩
theorem RdDL.of_row {w : World} {ds : List DV} {a : Option Addr} {n cap : Nat} {e : TypeId} {F : List Nat} (hn : n = ds.length) (h : (rowc (.slice a n cap) n e 2 (dcs ds)).ok w) (h2 : (dsC F ds).ok w) : RdDL w ds a :=
 ⟨fun j u hu => by
  have hlt := (List.getElem?_eq_some_iff.1 hu).1
  rw [dcs_len] at hlt
  obtain ⟨g, hg, _, _⟩ := rowc_addr h (by omega)
  subst hg
  exact ⟨g, 0, rfl, by rw [Nat.zero_add]; exact rowc_cells h hu⟩, fun x hx => dsC_rd h2 hx⟩
theorem RdDL.at {w : World} {ds : List DV} {a : Option Addr} (h : RdDL w ds a) {i : Nat} {x : DV} (hx : ds[i]? = some x) : ∃ b off, a = some ⟨b, off, none⟩ ∧ (∀ j v, [Value.slice x.2.1 (canon x.1).1.length x.2.2, .int .i64 ((canon x.1).2 : Int)][j]? = some v → w.cell? ⟨b, off + i * 2 + j, none⟩ = some v) ∧ RdD w x.1 x.2.1 := by
 obtain ⟨b, off, h1, _⟩ := h.hd (i * 2 + 0) _ (dcs_at hx 0 _ rfl)
 refine ⟨b, off, h1, fun j v hv => ?_, h.rd x (List.mem_of_getElem? hx)⟩
 obtain ⟨b', off', h3, h4⟩ := h.hd (i * 2 + j) v (dcs_at hx j v hv)
 rw [h1] at h3
 injection h3 with h3
 injection h3 with h5 h6
 subst h5; subst h6
 rw [Nat.add_assoc]; exact h4
def cnK (ts : List TkV) : Nat → List DV
 | 0 => []
 | k + 1 => match ts[k]? with
  | none => cnK ts k
  | some y => if (cnK ts k).any (fun z => sameB y.d z.1) then cnK ts k else cnK ts k ++ [(y.d, y.da, y.dc)]
structure CnG where
 i : Nat
 a : Option Addr
 c : Nat
end Go.Proofs.YtndpdhamadiopaaGreatDoor
namespace Go.Eng
open Go Go.RowKit
theorem kfind_not {κ : Type} [DecidableEq κ] : ∀ {kvs : List (κ × Value)} {k : κ}, k ∉ kvs.map Prod.fst → kfind kvs k = none
 | [], _, _ => rfl
 | p :: r, k, h => by
  simp only [List.map_cons, List.mem_cons, not_or] at h
  rw [kfind, if_neg (fun e => h.1 e.symm)]
  exact kfind_not h.2
theorem kfind_erase {κ : Type} [DecidableEq κ] : ∀ {kvs : List (κ × Value)} {k : κ} {i j : Nat} {v : Value}, kidx kvs k i = some (j, v) → (kvs.map Prod.fst).Nodup → ∀ k', kfind (kvs.eraseIdx (j - i)) k' = if k' = k then none else kfind kvs k'
 | [], _, _, _, _, h, _ => by simp [kidx] at h
 | p :: r, k, i, j, v, h, hn => by
  intro k'
  rw [List.map_cons, List.nodup_cons] at hn
  unfold kidx at h
  by_cases hp : p.1 = k
  ·rw [if_pos hp] at h
   simp only [Option.some.injEq, Prod.mk.injEq] at h
   obtain ⟨rfl, rfl⟩ := h
   subst hp
   rw [Nat.sub_self, List.eraseIdx_zero, List.tail_cons, kfind]
   by_cases hk : k' = p.1
   ·rw [if_pos hk, hk]; exact kfind_not hn.1
   ·rw [if_neg hk, if_neg (Ne.symm hk)]
  ·rw [if_neg hp] at h
   have h1 := (kidx_some h).1
   have e : j - i = (j - (i + 1)) + 1 := by omega
   rw [e, List.eraseIdx_cons_succ, kfind, kfind, kfind_erase h hn.2 k']
   by_cases hk : p.1 = k'
   ·rw [if_pos hk, if_pos hk, if_neg (fun e => hp (hk.trans e))]
   ·rw [if_neg hk, if_neg hk]
theorem map_eraseIdx' {α β : Type} (f : α → β) : ∀ (l : List α) (j : Nat), (l.eraseIdx j).map f = (l.map f).eraseIdx j
 | [], j => by simp
 | x :: r, 0 => by simp
 | x :: r, j + 1 => by simp [map_eraseIdx' f r j]
theorem MapInv.erase {κ : Type} {es : List MapEntry} {clock : Nat} {kvs : List (κ × Value)} (h : MapInv es clock (kvs.map Prod.fst)) (j : Nat) : MapInv (es.eraseIdx j) clock ((kvs.eraseIdx j).map Prod.fst) :=
 ⟨h.born.sublist ((List.eraseIdx_sublist _ _).map _), fun e he => h.past e (List.mem_of_mem_eraseIdx he), h.keys.sublist ((List.eraseIdx_sublist _ _).map _)⟩
section
variable {P : Program} {w0 : World} {O : List Nat} {ops : Array Oper} {Q : Exit → Act → World → Prop} {N : Nat} {D : List Deferred} {L : FL} {C : List Chunk} {K : Act → World → Prop}
variable {d : Nat} {ty : TypeId} {pos : String} {af : Array Edge}
variable {κ : Type} [DecidableEq κ] {enc : κ → Value} {kt : TypeId}
theorem WL.deleteG {t et : TypeId} {x y : Operand} {b : Nat} {f : κ → Option Value} {vy : Value} {C' : List Chunk} (k : κ) (hm : P.underlying t = some (.map kt et)) (hk : KeyT P kt enc)
  (hx : ev L x = some (.map (some b))) (hy : ev L y = some vy) (hvy : vy = enc k) (hu : Upd (mpg enc b f) (mpg enc b (fun q => if q = k then none else f q)) C C') (h : WA w0 O K N D L C') :
  WK P w0 O ops Q ⟨none, .call { callee := .builtin .delete, args := #[x, y], argTypes := #[t, kt] }, ty, pos, af, none⟩ K N D L C := fun a w hF hS => by
 subst hvy
 obtain ⟨es, clock, kvs, h1, h2, h3, hI⟩ := hS.ok _ hu.mem
 have hb : b < w.heap.size := ((hS.bnd _ hu.mem) b rfl).1
 have hf := hk.find w k es.toList kvs h2
 cases hh : kidx kvs k 0 with
 | none =>
  rw [hh] at hf
  refine wpo_val (w' := { w with heap := w.heap.setIfInBounds b (.map es clock) }) (v := .tuple #[]) rfl ?_ (h _ _ hF (hS.setObj hu (fun k => Iff.rfl) (fun k => Iff.rfl) ⟨es, clock, kvs, ?_, h2, ?_, hI⟩))
  ·simp [execOp, resolve, invoke, builtin, hF.ev hx, hF.ev hy, Builtin.delete_, run_underlying hm, MapKept.run_getObj_map h1, hk.check, hf, MapKept.run_setObj_map _ h1, Result.andThen]
  ·show (w.heap.setIfInBounds b _)[b]? = _
   rw [Array.getElem?_setIfInBounds_self_of_lt hb]
  ·intro q
   show (if q = k then none else f q) = kfind kvs q
   by_cases hq : q = k
   ·rw [if_pos hq, hq, kidx_none.1 hh]
   ·rw [if_neg hq, h3]
 | some p =>
  obtain ⟨j, u⟩ := p
  rw [hh] at hf
  refine wpo_val (w' := { w with heap := w.heap.setIfInBounds b (.map (es.eraseIdxIfInBounds j) clock) }) (v := .tuple #[]) rfl ?_ (h _ _ hF (hS.setObj hu (fun k => Iff.rfl) (fun k => Iff.rfl) ⟨es.eraseIdxIfInBounds j, clock, kvs.eraseIdx j, ?_, ?_, ?_, ?_⟩))
  ·simp [execOp, resolve, invoke, builtin, hF.ev hx, hF.ev hy, Builtin.delete_, run_underlying hm, MapKept.run_getObj_map h1, hk.check, hf, MapKept.run_setObj_map _ h1, Result.andThen]
  ·show (w.heap.setIfInBounds b _)[b]? = _
   rw [Array.getElem?_setIfInBounds_self_of_lt hb]
  ·rw [Array.toList_eraseIdxIfInBounds, map_eraseIdx', h2, map_eraseIdx']
  ·intro q
   have h9 := kfind_erase hh hI.keys q
   rw [Nat.sub_zero] at h9
   show (if q = k then none else f q) = kfind (kvs.eraseIdx j) q
   rw [h9, h3]
  ·rw [Array.toList_eraseIdxIfInBounds]
   exact hI.erase j
end
end Go.Eng
namespace Go.Proofs.YtndpdhamadiopaaGreatDoor
open Go Go.Eng Go.Proofs Dg
abbrev dvv (v : DV) : Value := dval v.1 v.2.1 v.2.2
abbrev rchM (b : Nat) (R : Nat × Nat → Option DV) : Chunk := mpg enc2 b (fun p => (R p).map dvv)
def rchE (R : Nat × Nat → Option DV) (p : Nat × Nat) (c : Cf) : Bool := match R p with
 | none => false
 | some v => v.1.ev c
def rchU (R : Nat × Nat → Option DV) (q : Nat × Nat) (v : DV) : Nat × Nat → Option DV := fun p => if p = q then some v else R p
def rchD (R : Nat × Nat → Option DV) (q : Nat × Nat) : Nat × Nat → Option DV := fun p => if p = q then none else R p
theorem rchU_map (R : Nat × Nat → Option DV) (q : Nat × Nat) (v : DV) : (fun p => if p = q then some (dvv v) else (R p).map dvv) = fun p => (rchU R q v p).map dvv := by
 funext p
 unfold rchU
 split <;> rfl
theorem rchD_map (R : Nat × Nat → Option DV) (q : Nat × Nat) : (fun p => if p = q then none else (R p).map dvv) = fun p => (rchD R q p).map dvv := by
 funext p
 unfold rchD
 split <;> rfl
def dv0 : DV := (BT.lf false, none, 0)
theorem undRM : Tryz.prog.underlying 140 = some (.map 139 50) := by kernel_rfl
theorem zeroD (w : World) : (zeroValue 50).run Tryz.prog w = .ok (dvv dv0) w := by kernel_rfl
theorem dv0_rd (w : World) : RdD w dv0.1 dv0.2.1 := ⟨trivial, fun j u hu => by
 have e : (canon dv0.1).1 = [] := rfl
 rw [e] at hu
 simp [decs] at hu⟩
theorem RdD.nextM {w0 w : World} {C C2 : List Chunk} {t : BT} {a : Option Addr} {bm : Nat} {κ : Type} [DecidableEq κ] {enc : κ → Value} {f : κ → Option Value} (h : RdD w0 t a) (hm : (mpg enc bm f).ok w0) (hS : St w0 [bm] C w) : RdD w t a :=
 ⟨h.1, fun j u hu => by
  obtain ⟨b, off, e, hc⟩ := h.2 j u hu
  refine ⟨b, off, e, hS.oldc hc ?_⟩
  obtain ⟨es, cl, _, h1, _⟩ := hm
  intro hb
  have hb : b = bm := by simpa using hb
  subst hb
  simp [World.cell?, h1] at hc⟩
section
variable {w0 : World} {O : List Nat} {C : List Chunk}
theorem _root_.Go.Eng.St.dsApp {w : World} {F G : List Nat} {l m : List DV} (h : St w0 O (dsC F l :: dsC G m :: C) w) : St w0 O (dsC (F ++ G) (l ++ m) :: C) w := by
 refine h.join (fun k hk => ?_) (fun hc hd _ => ?_)
 ·have hk' : k ∈ F ++ G := hk
  exact List.mem_append.1 hk'
 ·intro x hx
  rcases List.mem_append.1 hx with hx | hx
  ·obtain ⟨h1, h2⟩ := hc x hx
   exact ⟨h1, fun j u hu => by
    obtain ⟨b, off, e1, e2, e3⟩ := h2 j u hu
    exact ⟨b, off, e1, e2, List.mem_append_left _ e3⟩⟩
  ·obtain ⟨h1, h2⟩ := hd x hx
   exact ⟨h1, fun j u hu => by
    obtain ⟨b, off, e1, e2, e3⟩ := h2 j u hu
    exact ⟨b, off, e1, e2, List.mem_append_right _ e3⟩⟩
end
open Go Go.Eng Go.Proofs Dg
section
variable {w0 : World} {O : List Nat} {Q : Exit → Act → World → Prop} {K : Act → World → Prop} {N : Nat} {D : List Deferred} {L : FL} {C : List Chunk}
theorem After_ret {d : Nat} {v : Value} (h : WA w0 O K N D ((d, v) :: L) C) : After w0 O Q K N D L (some d) C (.returned v) := h
end
theorem rchU_or (R : Nat × Nat → Option DV) (q : Nat × Nat) (v : DV) (p : Nat × Nat) (u : DV) (h : rchU R q v p = some u) : R p = some u ∨ u ∈ [v] := by
 unfold rchU at h
 split at h
 ·exact .inr (by rw [Option.some.inj h]; simp)
 ·exact .inl h
theorem rchU_ev (R : Nat × Nat → Option DV) (q : Nat × Nat) (v : DV) (t : BT) (hv : ∀ cf, v.1.ev cf = (rchE R q cf || t.ev cf)) (p : Nat × Nat) (cf : Cf) : rchE (rchU R q v) p cf = (rchE R p cf || (decide (p = q) && t.ev cf)) := by
 by_cases h : p = q
 ·subst h
  have e : rchE (rchU R p v) p cf = v.1.ev cf := by unfold rchE rchU; rw [if_pos rfl]
  rw [e, hv, decide_eq_true rfl, Bool.true_and]
 ·have e : rchE (rchU R q v) p cf = rchE R p cf := by unfold rchE rchU; rw [if_neg h]
  rw [e, decide_eq_false h, Bool.false_and, Bool.or_false]
set_option maxRecDepth 100000 in
theorem Differ1_c (i k : Nat) (t : BT) (a : Option Addr) (c b10 bm : Nat) (R : Nat × Nat → Option DV) (w : World) (h10 : w.cell? ⟨b10, 0, none⟩ = some (.map (some bm))) (h10' : b10 ∉ [bm]) (ht : RdD w t a) (hR : ∀ p v, R p = some v → RdD w v.1 v.2.1) (hS0 : St w [bm] [rchM bm R] w) :
  Calls Tryz.prog 74 [.int .i64 (i : Int), .int .i64 (k : Int), dval t a c, pp b10].toArray w fun e w' => ∃ x : (Nat × Nat → Option DV) × List Nat × List DV,
   (∀ p v, x.1 p = some v → R p = some v ∨ v ∈ x.2.2) ∧ (∀ v ∈ x.2.2, v.1.ok 0) ∧ (∀ p cf, rchE x.1 p cf = (rchE R p cf || (decide (p = (i, k)) && t.ev cf))) ∧ e = .returned (.tuple #[]) ∧ St w [bm] [rchM bm x.1, dsC x.2.1 x.2.2] w' := by
 have hold : RdD w ((R (i, k)).getD dv0).1 ((R (i, k)).getD dv0).2.1 := by
  cases hk : R (i, k) with
  | none => exact dv0_rd w
  | some v => exact hR _ _ hk
 refine enter Tryz.func74 rfl Tryz.ntmps74 rfl (C := [rchM bm R]) hS0 ?_
 refine jN 3 ?_
 refine WL.boxN rfl rfl (fun b6 => ?_)
 refine jN 7 ?_
 refine WL.callV F.fun73 rfl rfl (fun w hS => Empty_c t a c w) ?_
 refine jN 4 ?_
 refine WC.cond rfl (fun h9 => ?_) (fun h9 => ?_)
 ·refine WC.draws [([11], fun w => w.cell? ⟨b10, 0, none⟩ = some (.map (some bm))), ([10, 11], fun w => w.cell? ⟨b10, 0, none⟩ = some (.map (some bm))), ([10, 11], fun w => (rchM bm R).ok w), ([10, 11], fun w => ∀ j v, ([.slice a (canon t).1.length c, .int .i64 ((canon t).2 : Int)] : List Value)[j]? = some v → w.cell? ⟨b6, 0 + j, none⟩ = some v)] (by kernel_rfl) (fun w hS => facts_cons (hS.oldc h10 h10') (facts_cons (hS.oldc h10 h10') (facts_cons (hS.ok _ jM) (facts_cons ((fun j v hv => by rw [Nat.zero_add]; exact hS.cell jM hv)) (facts_nil))))) ?_
  refine jF 0 0 rfl rfl (Yl.load1 F.one140 rfl) ?_
  refine jT 1 rfl (Yl.move rfl) ?_
  refine jT 2 rfl (Yl.move rfl) ?_
  refine jT 3 rfl (Yl.buildA F.arT139 rfl jB) ?_
  refine jF 4 1 rfl rfl (Yl.load1 F.one140 rfl) ?_
  refine jT 5 rfl (Yl.move rfl) ?_
  refine jT 6 rfl (Yl.move rfl) ?_
  refine jT 7 rfl (Yl.buildA F.arT139 rfl jB) ?_
  refine jF 8 2 rfl rfl (Yl.lookupG (f := fun p => (R p).map dvv) (v := dvv ((R (i, k)).getD dv0)) (i, k) undRM keyPair zeroD rfl rfl rfl (by show dvv _ = ((R (i, k)).map dvv).getD (dvv dv0); cases R (i, k) <;> rfl)) ?_
  refine jF 9 3 rfl rfl (Yl.loadN F.agg50 rfl rfl) ?_
  refine jA 10 rfl ?_
  refine WL.call0 (β := DRes (fun cf => ((R (i, k)).getD dv0).1.ev cf || t.ev cf)) (res := fun z => .returned z.v) (cs := fun z => [z.ch]) (ψ := fun _ => True) F.fun57 (fun d h => by cases h; rfl) rfl (fun w hS => (Or_c ((R (i, k)).getD dv0).1 t ((R (i, k)).getD dv0).2.1 a ((R (i, k)).getD dv0).2.2 c w (hold.nextM (C2 := []) (hS0.ok (rchM bm R) (List.mem_singleton.2 rfl)) hS) (ht.nextM (C2 := []) (hS0.ok (rchM bm R) (List.mem_singleton.2 rfl)) hS)).mono (fun e w2 ⟨x, h1, h2⟩ => ⟨x, trivial, h1, h2⟩)) (fun z _ => After_ret ?_)
  refine WD.on (closed_of (by kernel_rfl)) (fun w hS => Sx.keep (hS.oldc h10 h10') (Sx.gone rfl (Sx.gone rfl (Sx.gone rfl (Sx.none))))) ?_
  refine jA 11 rfl ?_
  refine WL.mapPutG (f := fun p => (R p).map dvv) (i, k) undRM keyPair rfl rfl rfl rfl jU ?_
  refine jG ?_
  refine jD ?_
  refine WQ.fin (rs := []) rfl .nil (fun w hS => ?_)
  obtain ⟨F9, hF9⟩ := St.dsSnoc z.2.1 ((St.pick (St.pick (St.dsNil hS) (c := z.ch) jR) (c := dsC [] []) jR))
  rw [rchU_map R (i, k) z.1] at hF9
  exact ⟨(rchU R (i, k) z.1, F9, [z.1]), rchU_or R (i, k) z.1, (fun v hv => by rw [List.mem_singleton.1 hv]; exact z.2.1), rchU_ev R (i, k) z.1 t (fun cf => by rw [z.2.2]; unfold rchE dv0; cases R (i, k) <;> rfl), rfl, (jK hF9)⟩
 ·have hem : ∀ cf, t.ev cf = false := (emptyT ht.1).1 (by simpa using h9)
  refine jN 1 ?_
  refine WQ.fin (rs := []) rfl .nil (fun w hS => ?_)
  exact ⟨(R, [], []), fun p v h => .inl h, by simp, fun p cf => by rw [hem cf, Bool.and_false, Bool.or_false], rfl, (jK (St.dsNil hS))⟩
open Go Go.Eng Go.Proofs Dg
def rdT (c : Cf) (l : List TkV) : List (Nat × List UInt8) := (l.filter fun t => t.d.ev c).map fun t => (t.x.k, t.x.t)
theorem rdT_at {c : Cf} {l : List TkV} {i : Nat} {x : TkV} (h : l[i]? = some x) : rdT c (l.drop i) = if x.d.ev c then (x.x.k, x.x.t) :: rdT c (l.drop (i + 1)) else rdT c (l.drop (i + 1)) := by
 have e : l.drop i = x :: l.drop (i + 1) := by
  obtain ⟨hlt, he⟩ := List.getElem?_eq_some_iff.1 h
  rw [← he, ← List.drop_eq_getElem_cons hlt]
 rw [e]
 unfold rdT
 cases hx : x.d.ev c with
 | true => rw [List.filter_cons_of_pos (p := fun t : TkV => t.d.ev c) hx, List.map_cons, if_pos rfl]
 | false => rw [List.filter_cons_of_neg (p := fun t : TkV => t.d.ev c) (by simp [hx]), if_neg (by simp)]
theorem rdT_end {c : Cf} {l : List TkV} : rdT c (l.drop l.length) = [] := by rw [List.drop_length]; rfl
def dfF (A B : List TkV) (c : Cf) (p : Nat × Nat) : Bool := decide (rdT c (A.drop p.1) ≠ rdT c (B.drop p.2))
structure DfI (A B : List TkV) (wi : Cf → Bool) (s i : Nat) (R : Nat × Nat → Option DV) (o : BT) : Prop where
 v : ∀ c, (o.ev c = true ∨ ∃ p, rchE R p c = true ∧ dfF A B c p = true) ↔ (wi c = true ∧ dfF A B c (0, 0) = true)
 b : ∀ p c, rchE R p c = true → p.1 ≤ A.length ∧ p.2 ≤ B.length ∧ (s < p.1 + p.2 ∨ (s = p.1 + p.2 ∧ i ≤ p.1))
theorem rchD_ev {R : Nat × Nat → Option DV} {q p : Nat × Nat} {c : Cf} : rchE (rchD R q) p c = (rchE R p c && !decide (p = q)) := by
 by_cases h : p = q
 ·have e : rchE (rchD R q) p c = false := by unfold rchE rchD; rw [if_pos h]
  rw [e, decide_eq_true h, Bool.not_true, Bool.and_false]
 ·have e : rchE (rchD R q) p c = rchE R p c := by unfold rchE rchD; rw [if_neg h]
  rw [e, decide_eq_false h, Bool.not_false, Bool.and_true]
section
variable {A B : List TkV} {wi : Cf → Bool} {s i k : Nat} {R R2 : Nat × Nat → Option DV} {o o2 : BT}
theorem DfI.step (h : DfI A B wi s i R o) (hk : i + k = s) {add : Nat × Nat → Cf → Bool} {oadd d : Cf → Bool} (hd : ∀ c, d c = (rchE R (i, k) c && !o.ev c))
  (hE : ∀ p c, rchE R2 p c = (rchE (rchD R (i, k)) p c || add p c)) (ho : ∀ c, o2.ev c = (o.ev c || oadd c))
  (ha : ∀ p c, add p c = true → d c = true ∧ p.1 ≤ A.length ∧ p.2 ≤ B.length ∧ s < p.1 + p.2) (hoa : ∀ c, oadd c = true → d c = true)
  (hF : ∀ c, d c = true → (dfF A B c (i, k) = true ↔ (oadd c = true ∨ ∃ p, add p c = true ∧ dfF A B c p = true))) : DfI A B wi s (i + 1) R2 o2 := by
 refine ⟨fun c => ?_, fun p c hp => ?_⟩
 ·rw [← h.v c, ho, Bool.or_eq_true]
  cases hoc : o.ev c with
  | true => simp
  | false =>
   have hdc := hd c
   rw [hoc, Bool.not_false, Bool.and_true] at hdc
   simp only [Bool.false_eq_true, false_or]
   constructor
   ·rintro (h1 | ⟨p, h1, h2⟩)
    ·exact ⟨(i, k), by rw [← hdc]; exact hoa c h1, (hF c (hoa c h1)).2 (.inl h1)⟩
    ·rw [hE, Bool.or_eq_true] at h1
     rcases h1 with h1 | h1
     ·rw [rchD_ev, Bool.and_eq_true] at h1
      exact ⟨p, h1.1, h2⟩
     ·exact ⟨(i, k), by rw [← hdc]; exact (ha p c h1).1, (hF c (ha p c h1).1).2 (.inr ⟨p, h1, h2⟩)⟩
   ·rintro ⟨p, h1, h2⟩
    by_cases hp : p = (i, k)
    ·subst hp
     rw [← hdc] at h1
     rcases (hF c h1).1 h2 with h3 | ⟨q, h3, h4⟩
     ·exact .inl h3
     ·exact .inr ⟨q, by rw [hE, h3, Bool.or_true], h4⟩
    ·exact .inr ⟨p, by rw [hE, rchD_ev, h1, decide_eq_false hp]; rfl, h2⟩
 ·rw [hE, Bool.or_eq_true] at hp
  rcases hp with hp | hp
  ·rw [rchD_ev, Bool.and_eq_true] at hp
   obtain ⟨h1, h2, h3⟩ := h.b p c hp.1
   refine ⟨h1, h2, ?_⟩
   rcases h3 with h3 | ⟨h3, h4⟩
   ·exact .inl h3
   ·by_cases hpi : p.1 = i
    ·exfalso
     have e : p = (i, k) := Prod.ext hpi (by omega)
     rw [e] at hp
     simp at hp
    ·exact .inr ⟨h3, by omega⟩
  ·obtain ⟨_, h1, h2, h3⟩ := ha p c hp
   exact ⟨h1, h2, .inl h3⟩
theorem DfI.none (h : DfI A B wi s i R o) (hk : i + k = s) (hd : ∀ c, (rchE R (i, k) c && !o.ev c) = false) : DfI A B wi s (i + 1) (rchD R (i, k)) o :=
 h.step hk (add := fun _ _ => false) (oadd := fun _ => false) (d := fun _ => false) (fun c => (hd c).symm) (fun p c => by simp) (fun c => by simp) (by simp) (by simp) (by simp)
theorem DfI.begin (h : DfI A B wi s 0 R o) : DfI A B wi s (s - B.length) R o := ⟨h.v, fun p c hp => by
 obtain ⟨h1, h2, h3⟩ := h.b p c hp
 exact ⟨h1, h2, by omega⟩⟩
theorem DfI.done (h : DfI A B wi s i R o) (hi : min s A.length < i) : DfI A B wi (s + 1) 0 R o := ⟨h.v, fun p c hp => by
 obtain ⟨h1, h2, h3⟩ := h.b p c hp
 exact ⟨h1, h2, by omega⟩⟩
theorem DfI.last (h : DfI A B wi s 0 R o) (hs : A.length + B.length < s) (c : Cf) : o.ev c = (wi c && dfF A B c (0, 0)) := by
 have h1 := h.v c
 have h2 : ¬ ∃ p, rchE R p c = true ∧ dfF A B c p = true := fun ⟨p, hp, _⟩ => by
  have := h.b p c hp
  omega
 rw [Bool.eq_iff_iff, Bool.and_eq_true, ← h1]
 simp [h2]
theorem dfF_aF {x : TkV} (hx : A[i]? = some x) {c : Cf} (h : x.d.ev c = false) : dfF A B c (i, k) = dfF A B c (i + 1, k) := by
 unfold dfF
 rw [rdT_at hx, h]; rfl
theorem dfF_bF {y : TkV} (hy : B[k]? = some y) {c : Cf} (h : y.d.ev c = false) : dfF A B c (i, k) = dfF A B c (i, k + 1) := by
 unfold dfF
 rw [rdT_at hy, h]; rfl
theorem dfF_aE {x : TkV} (hx : A[i]? = some x) {c : Cf} (h : x.d.ev c = true) (hk : k = B.length) : dfF A B c (i, k) = true := by
 unfold dfF
 rw [rdT_at hx, h, if_pos rfl, hk, rdT_end]
 simp
theorem dfF_bE {y : TkV} (hy : B[k]? = some y) {c : Cf} (h : y.d.ev c = true) (hi : i = A.length) : dfF A B c (i, k) = true := by
 unfold dfF
 rw [rdT_at hy, h, if_pos rfl, hi, rdT_end]
 simp
theorem dfF_EE {c : Cf} (hi : i = A.length) (hk : k = B.length) : dfF A B c (i, k) = false := by
 unfold dfF
 rw [hi, hk, rdT_end, rdT_end]
 simp
theorem dfF_eq {x y : TkV} (hx : A[i]? = some x) (hy : B[k]? = some y) {c : Cf} (h1 : x.d.ev c = true) (h2 : y.d.ev c = true) (h3 : x.x.k = y.x.k) (h4 : x.x.t = y.x.t) : dfF A B c (i, k) = dfF A B c (i + 1, k + 1) := by
 unfold dfF
 rw [rdT_at hx, rdT_at hy, h1, h2, if_pos rfl, if_pos rfl, h3, h4]
 simp
theorem dfF_ne {x y : TkV} (hx : A[i]? = some x) (hy : B[k]? = some y) {c : Cf} (h1 : x.d.ev c = true) (h2 : y.d.ev c = true) (h3 : ¬ (x.x.k = y.x.k ∧ x.x.t = y.x.t)) : dfF A B c (i, k) = true := by
 unfold dfF
 rw [rdT_at hx, rdT_at hy, h1, h2, if_pos rfl, if_pos rfl, decide_eq_true_eq]
 intro e
 injection e with e1 e2
 injection e1 with e3 e4
 exact h3 ⟨e3, e4⟩
theorem DfI.caseEE (h : DfI A B wi s i R o) (hk : i + k = s) (hi : i = A.length) (hkl : k = B.length) (ho : ∀ c, o2.ev c = (o.ev c || false)) : DfI A B wi s (i + 1) (rchD R (i, k)) o2 :=
 h.step hk (add := fun _ _ => false) (oadd := fun _ => false) (fun c => rfl) (fun p c => by simp) ho (by simp) (by simp) (fun c _ => by rw [dfF_EE hi hkl]; simp)
theorem DfI.caseAE (h : DfI A B wi s i R o) (hk : i + k = s) {x : TkV} (hx : A[i]? = some x) (hkl : k = B.length) {d : Cf → Bool} (hd : ∀ c, d c = (rchE R (i, k) c && !o.ev c))
  (hE : ∀ p c, rchE R2 p c = (rchE (rchD R (i, k)) p c || (decide (p = (i + 1, k)) && (d c && !x.d.ev c)))) (ho : ∀ c, o2.ev c = (o.ev c || (d c && x.d.ev c))) : DfI A B wi s (i + 1) R2 o2 := by
 have hil := (List.getElem?_eq_some_iff.1 hx).1
 refine h.step hk hd hE ho (fun p c hp => ?_) (fun c hc => by simp only [Bool.and_eq_true] at hc; exact hc.1) (fun c hc => ?_)
 ·simp only [Bool.and_eq_true, decide_eq_true_eq] at hp
  obtain ⟨rfl, hp⟩ := hp
  exact ⟨hp.1, by show i + 1 ≤ _; omega, by show k ≤ _; omega, by show s < i + 1 + k; omega⟩
 ·cases hx9 : x.d.ev c with
  | true => simp [hc, hx9, dfF_aE hx hx9 hkl]
  | false => rw [dfF_aF hx hx9]; simp [hc, hx9]
theorem DfI.caseEB (h : DfI A B wi s i R o) (hk : i + k = s) {y : TkV} (hi : i = A.length) (hy : B[k]? = some y) {d : Cf → Bool} (hd : ∀ c, d c = (rchE R (i, k) c && !o.ev c))
  (hE : ∀ p c, rchE R2 p c = (rchE (rchD R (i, k)) p c || (decide (p = (i, k + 1)) && (d c && !y.d.ev c)))) (ho : ∀ c, o2.ev c = (o.ev c || (d c && y.d.ev c))) : DfI A B wi s (i + 1) R2 o2 := by
 have hkl := (List.getElem?_eq_some_iff.1 hy).1
 refine h.step hk hd hE ho (fun p c hp => ?_) (fun c hc => by simp only [Bool.and_eq_true] at hc; exact hc.1) (fun c hc => ?_)
 ·simp only [Bool.and_eq_true, decide_eq_true_eq] at hp
  obtain ⟨rfl, hp⟩ := hp
  exact ⟨hp.1, by show i ≤ _; omega, by show k + 1 ≤ _; omega, by show s < i + (k + 1); omega⟩
 ·cases hy9 : y.d.ev c with
  | true => simp [hc, hy9, dfF_bE hy hy9 hi]
  | false => rw [dfF_bF hy hy9]; simp [hc, hy9]
theorem DfI.caseEq (h : DfI A B wi s i R o) (hk : i + k = s) {x y : TkV} (hx : A[i]? = some x) (hy : B[k]? = some y) (hkk : x.x.k = y.x.k) (htt : x.x.t = y.x.t) {d : Cf → Bool} (hd : ∀ c, d c = (rchE R (i, k) c && !o.ev c))
  (hE : ∀ p c, rchE R2 p c = (rchE (rchD R (i, k)) p c || ((decide (p = (i + 1, k)) && (d c && !x.d.ev c)) || (decide (p = (i, k + 1)) && (d c && x.d.ev c && !y.d.ev c)) || (decide (p = (i + 1, k + 1)) && (d c && x.d.ev c && y.d.ev c))))) (ho : ∀ c, o2.ev c = o.ev c) : DfI A B wi s (i + 1) R2 o2 := by
 have hil := (List.getElem?_eq_some_iff.1 hx).1
 have hkl := (List.getElem?_eq_some_iff.1 hy).1
 refine h.step hk (oadd := fun _ => false) hd hE (fun c => by rw [ho, Bool.or_false]) (fun p c hp => ?_) (by simp) (fun c hc => ?_)
 ·simp only [Bool.and_eq_true, Bool.or_eq_true, decide_eq_true_eq] at hp
  rcases hp with (⟨rfl, hp⟩ | ⟨rfl, hp⟩) | ⟨rfl, hp⟩
  ·exact ⟨hp.1, by show i + 1 ≤ _; omega, by show k ≤ _; omega, by show s < i + 1 + k; omega⟩
  ·exact ⟨hp.1.1, by show i ≤ _; omega, by show k + 1 ≤ _; omega, by show s < i + (k + 1); omega⟩
  ·exact ⟨hp.1.1, by show i + 1 ≤ _; omega, by show k + 1 ≤ _; omega, by show s < i + 1 + (k + 1); omega⟩
 ·cases hx9 : x.d.ev c with
  | false => rw [dfF_aF hx hx9]; simp [hc, hx9]
  | true => cases hy9 : y.d.ev c with
   | false => rw [dfF_bF hy hy9]; simp [hc, hx9, hy9]
   | true => rw [dfF_eq hx hy hx9 hy9 hkk htt]; simp [hc, hx9, hy9]
theorem DfI.caseNe (h : DfI A B wi s i R o) (hk : i + k = s) {x y : TkV} (hx : A[i]? = some x) (hy : B[k]? = some y) (hne : ¬ (x.x.k = y.x.k ∧ x.x.t = y.x.t)) {d : Cf → Bool} (hd : ∀ c, d c = (rchE R (i, k) c && !o.ev c))
  (hE : ∀ p c, rchE R2 p c = (rchE (rchD R (i, k)) p c || ((decide (p = (i + 1, k)) && (d c && !x.d.ev c)) || (decide (p = (i, k + 1)) && (d c && x.d.ev c && !y.d.ev c))))) (ho : ∀ c, o2.ev c = (o.ev c || (d c && x.d.ev c && y.d.ev c))) : DfI A B wi s (i + 1) R2 o2 := by
 have hil := (List.getElem?_eq_some_iff.1 hx).1
 have hkl := (List.getElem?_eq_some_iff.1 hy).1
 refine h.step hk hd hE ho (fun p c hp => ?_) (fun c hc => by simp only [Bool.and_eq_true] at hc; exact hc.1.1) (fun c hc => ?_)
 ·simp only [Bool.and_eq_true, Bool.or_eq_true, decide_eq_true_eq] at hp
  rcases hp with ⟨rfl, hp⟩ | ⟨rfl, hp⟩
  ·exact ⟨hp.1, by show i + 1 ≤ _; omega, by show k ≤ _; omega, by show s < i + 1 + k; omega⟩
  ·exact ⟨hp.1.1, by show i ≤ _; omega, by show k + 1 ≤ _; omega, by show s < i + (k + 1); omega⟩
 ·cases hx9 : x.d.ev c with
  | false => rw [dfF_aF hx hx9]; simp [hc, hx9]
  | true => cases hy9 : y.d.ev c with
   | false => rw [dfF_bF hy hy9]; simp [hc, hx9, hy9]
   | true => simp [hc, hx9, hy9, dfF_ne hx hy hx9 hy9 hne]
end
end Go.Proofs.YtndpdhamadiopaaGreatDoor
