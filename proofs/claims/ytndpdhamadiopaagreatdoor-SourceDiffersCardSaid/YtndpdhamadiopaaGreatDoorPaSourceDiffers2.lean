/- Parts of the walk, put together by a program. By an AI agent. -/
import Derived.Test.YtndpdhamadiopaaGreatDoorPaSourceDiffers1
import Derived.SliceStrings
import Derived.MapKept
import Derived.WideMake
import Derived.ChangeKeysEq
import Derived.WideKeyRuns
import Derived.RangeFuncOwn
import Derived.RangeFuncLeaves
import Derived.RangeFuncSeq
import Derived.OrdersIn
import Derived.TacticsIn
set_option linter.unusedSimpArgs false
set_option linter.unusedVariables false
namespace Go.Eng
open Go Go.RowKit
section
variable {P : Program} {w0 : World} {O : List Nat} {ops : Array Oper} {Q : Exit → Act → World → Prop} {N : Nat} {D : List Deferred} {L : FL} {C : List Chunk} {K : Act → World → Prop}
variable {d : Nat} {ty : TypeId} {pos : String} {af : Array Edge}
theorem run_append_zero {t e : TypeId} {sz : Nat} (ht : P.underlying t = some (.slice e)) (hs : sizeB P e = some sz) {a0 a1 : Option Addr} {n cap c : Nat} (hn : n ≤ cap) (w : World) :
  (Builtin.append_ #[t, t] ty #[.slice a1 n cap, .slice a0 0 c]).run P w = .ok (.slice a1 n cap) w := by
 have hf : ∀ a : Option Addr, (Builtin.firstCells sz 0 (.slice a 0 c)).run P w = .ok #[] w := fun a => by
  cases a with
  | none => simp [Builtin.firstCells]
  | some a => simp [Builtin.firstCells, loadCells, loadCellsFrom]
 cases a1 with
 | none => simp [Builtin.append_, run_underlying ht, run_sizeOf hs, Builtin.lenOf, hn, hf]
 | some a1 => simp [Builtin.append_, run_underlying ht, run_sizeOf hs, Builtin.lenOf, hn, hf, storeCells]
end
end Go.Eng
namespace Go.Proofs.YtndpdhamadiopaaGreatDoor
open Go Go.Eng Go.Proofs
theorem RdC.of_row {w : World} {c : List Int} {a : Option Addr} {n cap : Nat} {e : TypeId} (hn : n = c.length) (h : (rowc (.slice a n cap) n e 1 (c.map (Value.int .i64))).ok w) : RdC w c a := fun j x hx => by
 have hlt := (List.getElem?_eq_some_iff.1 hx).1
 obtain ⟨g, hg, _, _⟩ := rowc_addr h (by omega)
 subst hg
 exact ⟨g, 0, rfl, by rw [Nat.zero_add]; exact rowc_cell h (by simp [hx])⟩
theorem RdC.news {w : World} {c : List Int} {a : Option Addr} (h : RdC w c a) (hc : c.length ≠ 0) : ∃ bx ox, a = some ⟨bx, ox, none⟩ ∧ ∀ j u, (c.map (Value.int .i64))[j]? = some u → w.cell? ⟨bx, ox + j, none⟩ = some u := by
 obtain ⟨x, hx⟩ : ∃ x, c[0]? = some x := ⟨c[0]'(by omega), List.getElem?_eq_getElem _⟩
 obtain ⟨b, off, ha, _⟩ := h 0 x hx
 refine ⟨b, off, ha, fun j u hu => ?_⟩
 rw [List.getElem?_map] at hu
 cases hj : c[j]? with
 | none => rw [hj] at hu; simp at hu
 | some y =>
  rw [hj] at hu; simp at hu; subst hu
  obtain ⟨b', off', ha', hc'⟩ := h j y hj
  rw [ha] at ha'
  injection ha' with ha'
  injection ha' with e1 e2
  subst e1; subst e2
  exact hc'
theorem RdLL.news {w : World} {ls : List (List Int)} {a : Option Addr} {us : List Value} (h : RdLL w ls a us) (hc : ls.length ≠ 0) : ∃ bx ox, a = some ⟨bx, ox, none⟩ ∧ ∀ j u, us[j]? = some u → w.cell? ⟨bx, ox + j, none⟩ = some u := by
 have hl := h.len
 obtain ⟨b, off, ha, _⟩ := h.hd 0 (us[0]'(by omega)) (List.getElem?_eq_getElem _)
 refine ⟨b, off, ha, fun j u hu => ?_⟩
 obtain ⟨b', off', ha', hc'⟩ := h.hd j u hu
 rw [ha] at ha'
 injection ha' with ha'
 injection ha' with e1 e2
 subst e1; subst e2
 exact hc'
theorem RdLL.one {w : World} {ls : List (List Int)} {a : Option Addr} {us : List Value} (h : RdLL w ls a us) : ∀ u ∈ us, u.oneCell' = true := by
 intro u hu
 obtain ⟨i, hi, he⟩ := List.getElem_of_mem hu
 have h1 : us[i]? = some u := by rw [List.getElem?_eq_getElem hi, he]
 have h2 : ls[i]? = some (ls[i]'(by rw [← h.len]; exact hi)) := List.getElem?_eq_getElem _
 obtain ⟨a1, c1, h3, _⟩ := h.rd i _ u h2 h1
 subst h3; rfl
theorem RdLL.of_row {w : World} {ls : List (List Int)} {aa : Option Addr} {hs : List Value} {n cap : Nat} (hn : n = ls.length) (hl : hs.length = ls.length) (h : (rowc (.slice aa n cap) n 70 1 hs).ok w)
  (hr : ∀ (i : Nat) (c : List Int) (u : Value), ls[i]? = some c → hs[i]? = some u → ∃ (a1 : Option Addr) (cap : Nat), u = Value.slice a1 c.length cap ∧ RdC w c a1) : RdLL w ls aa hs := by
 refine ⟨hl, fun i u hu => ?_, hr⟩
 have hlt := (List.getElem?_eq_some_iff.1 hu).1
 obtain ⟨g, hg, _, _⟩ := rowc_addr h (by omega)
 subst hg
 exact ⟨g, 0, rfl, by rw [Nat.zero_add]; exact rowc_cell h hu⟩
end Go.Proofs.YtndpdhamadiopaaGreatDoor
namespace Go.Eng
open Go Go.RowKit
section
variable {P : Program} {w0 : World} {O : List Nat} {ops : Array Oper} {Q : Exit → Act → World → Prop} {N : Nat} {D : List Deferred} {L : FL} {C : List Chunk} {K : Act → World → Prop}
variable {d : Nat} {ty : TypeId} {pos : String} {af : Array Edge}
end
open Go Go.RowKit
section
variable {P : Program}
end
end Go.Eng
namespace Fm
open Go Go.Eng
inductive Der (ls : List (List Int)) (fixed : List Int) : Int → Prop
 | fix {x : Int} (h : x ∈ fixed) : Der ls fixed x
 | unit {c : List Int} {x : Int} (hc : c ∈ ls) (hx : x ∈ c) (h : ∀ m ∈ c, m ≠ x → Der ls fixed (-m)) : Der ls fixed x
def Conf (ls : List (List Int)) (fixed : List Int) : Prop := [] ∈ ls ∨ ∃ x, Der ls fixed x ∧ Der ls fixed (-x)
theorem hasK_with {k : Kn} {l z : Int} (hl : l ≠ 0) (hz : z ≠ 0) : hasK (withK k l) z = (decide (z = l) || hasK k z) := by
 unfold hasK withK
 by_cases h1 : 0 < l
 ·rw [if_pos h1]
  by_cases h2 : 0 < z
  ·rw [if_pos h2, if_pos h2]
   simp only [Nat.testBit_or, Nat.testBit_two_pow]
   rw [Bool.or_comm]
   congr 1
   rw [Bool.eq_iff_iff]; simp; omega
  ·rw [if_neg h2, if_neg h2]
   have : ¬ z = l := by omega
   simp [this]
 ·rw [if_neg h1]
  by_cases h2 : 0 < z
  ·rw [if_pos h2, if_pos h2]
   have : ¬ z = l := by omega
   simp [this]
  ·rw [if_neg h2, if_neg h2]
   simp only [Nat.testBit_or, Nat.testBit_two_pow]
   rw [Bool.or_comm]
   congr 1
   rw [Bool.eq_iff_iff]; simp; omega
theorem clash_iff {k : Kn} : clash k = true ↔ ∃ z : Int, 0 < z ∧ hasK k z = true ∧ hasK k (-z) = true := by
 unfold clash
 constructor
 ·intro h
  have h1 : k.1 &&& k.2 ≠ 0 := by simpa using h
  obtain ⟨j, hj⟩ := Nat.exists_testBit_of_ne_zero h1
  rw [Nat.testBit_and, Bool.and_eq_true] at hj
  refine ⟨(j : Int) + 1, by omega, ?_, ?_⟩
  ·unfold hasK; rw [if_pos (by omega), show ((j : Int) + 1 - 1).toNat = j by omega]; exact hj.1
  ·unfold hasK; rw [if_neg (by omega), show (-(-((j : Int) + 1)) - 1).toNat = j by omega]; exact hj.2
 ·rintro ⟨z, hz, h1, h2⟩
  unfold hasK at h1 h2
  rw [if_pos hz] at h1
  rw [if_neg (by omega)] at h2
  rw [show (- -z - 1).toNat = (z - 1).toNat by omega] at h2
  have h3 : (k.1 &&& k.2).testBit (z - 1).toNat = true := by rw [Nat.testBit_and, h1, h2]; rfl
  have h4 : k.1 &&& k.2 ≠ 0 := by intro h0; rw [h0] at h3; simp at h3
  simpa using h4
theorem unitG_true {k : Kn} : ∀ {c : List Int} {op x : Int}, (∀ m ∈ c, m ≠ 0) → unitG k op c = (x, true) → (∀ m ∈ c, hasK k m = false ∧ (hasK k (-m) = true ∨ m = x)) ∧ (op ≠ 0 → x = op) ∧ (x ≠ 0 → x = op ∨ x ∈ c)
 | [], op, x, _, h => by
  simp only [unitG, Prod.mk.injEq, and_true] at h
  subst h
  exact ⟨fun m hm => (by cases hm), fun _ => rfl, fun _ => .inl rfl⟩
 | l :: ls, op, x, h0, h => by
  have hl := h0 l (List.mem_cons_self ..)
  have hls := fun m hm => h0 m (List.mem_cons_of_mem _ hm)
  simp only [unitG] at h
  split at h
  ·simp at h
  rename_i h1
  split at h
  ·rename_i h2
   obtain ⟨i1, i2, i3⟩ := unitG_true hls h
   refine ⟨fun m hm => ?_, i2, fun hx => ?_⟩
   ·rcases List.mem_cons.1 hm with e | hm
    ·subst e
     refine ⟨by simpa using h1, ?_⟩
     simp only [Bool.or_eq_true, beq_iff_eq] at h2
     rcases h2 with h2 | h2
     ·exact .inl h2
     ·exact .inr (by rw [h2, i2 (by rw [← h2]; exact hl)])
    ·exact i1 m hm
   ·rcases i3 hx with h3 | h3
    ·exact .inl h3
    ·exact .inr (List.mem_cons_of_mem _ h3)
  rename_i h2
  split at h
  ·simp at h
  rename_i h3
  have h3' : op = 0 := by simpa using h3
  obtain ⟨i1, i2, i3⟩ := unitG_true hls h
  refine ⟨fun m hm => ?_, fun h0 => absurd h3' h0, fun hx => ?_⟩
  ·rcases List.mem_cons.1 hm with e | hm
   ·subst e
    exact ⟨by simpa using h1, .inr (i2 hl).symm⟩
   ·exact i1 m hm
  ·exact .inr (by rw [i2 hl]; exact List.mem_cons_self ..)
def SoundK (ls : List (List Int)) (fixed : List Int) (k : Kn) : Prop := ∀ z : Int, z ≠ 0 → hasK k z = true → Der ls fixed z
theorem SoundK.unit {ls : List (List Int)} {fixed : List Int} {k : Kn} {c : List Int} (h : SoundK ls fixed k) (hc : c ∈ ls) (hn : ∀ m ∈ c, m ≠ 0) {x : Int} (hu : unitK k c = (x, true)) : (x ≠ 0 → SoundK ls fixed (withK k x)) ∧ (x = 0 → Conf ls fixed) := by
 obtain ⟨i1, i2, i3⟩ := unitG_true hn hu
 refine ⟨fun hx z hz hh => ?_, fun hx => ?_⟩
 ·rw [hasK_with hx hz] at hh
  simp only [Bool.or_eq_true, decide_eq_true_eq] at hh
  rcases hh with hh | hh
  ·subst hh
   rcases i3 hx with h3 | h3
   ·exact absurd h3 hx
   ·exact .unit hc h3 (fun m hm hne => by
     rcases (i1 m hm).2 with h4 | h4
     ·exact h _ (by have := hn m hm; omega) h4
     ·exact absurd h4 hne)
  ·exact h z hz hh
 ·cases c with
  | nil => exact .inl hc
  | cons y r =>
   have hf : ∀ m ∈ y :: r, hasK k (-m) = true := fun m hm => by
    rcases (i1 m hm).2 with h4 | h4
    ·exact h4
    ·exact absurd (h4.trans hx) (hn m hm)
   have hy := List.mem_cons_self (a := y) (l := r)
   refine .inr ⟨y, .unit hc hy (fun m hm _ => h _ (by have := hn m hm; omega) (hf m hm)), h _ (by have := hn y hy; omega) (hf y hy)⟩
theorem SoundK.clash {ls : List (List Int)} {fixed : List Int} {k : Kn} (h : SoundK ls fixed k) (hc : clash k = true) : Conf ls fixed := by
 obtain ⟨z, hz, h1, h2⟩ := clash_iff.1 hc
 exact .inr ⟨z, h z (by omega) h1, h (-z) (by omega) h2⟩
end Fm
namespace Fm
open Go Go.Eng
def aloneB (c out : List Int) (x : Int) : Bool := !out.contains x && c.all (fun m => m == x || out.contains (-m))
def stepL (c out : List Int) (x : Int) : List Int := if aloneB c out x then out ++ [x] else out
def passC (out c : List Int) : List Int := c.foldl (stepL c) out
def consPass (ls : List (List Int)) (out : List Int) : List Int := ls.foldl passC out
def consF : Nat → List (List Int) → List Int → Option (List Int)
 | 0, _, _ => none
 | n + 1, ls, out => if (consPass ls out).length = out.length then some (consPass ls out) else consF n ls (consPass ls out)
def conflictB (ls : List (List Int)) (out : List Int) : Bool := ls.any (·.isEmpty) || out.any (fun x => out.contains (-x))
def Rg : List Int := (List.range 65).map fun (i : Nat) => (i : Int) - 32
def openC (p : Int → Bool) : Nat := (Rg.filter p).length
def openL (out : List Int) : Nat := openC fun z => !out.contains z
def openKn (k : Kn) : Nat := openC fun z => z != 0 && !hasK k z
end Fm
namespace Go.Proofs.YtndpdhamadiopaaGreatDoor
open Go Go.Eng Go.Proofs
def T1 : Tree := .mk 5 [] [.mk 3 [97] [], .mk 3 [98] [], .mk 5 [] [.mk 3 [99] [], .mk 3 [100] []]]
def T2 : Tree := .mk 5 [] [.mk 6 [] [.mk 3 [97] [], .mk 3 [98] []], .mk 4 [] [.mk 3 [99] []]]
theorem RdLL.two {w0 w : World} {O : List Nat} {C : List Chunk} {b1 b2 b3 : Nat} {c1 c2 : List Int} (hS : St w0 O C w) (h1 : pt b1 (c1.map (Value.int .i64)) 3 ∈ C) (h2 : pt b2 (c2.map (Value.int .i64)) 3 ∈ C)
  (h3 : pt b3 [.slice (some ⟨b1, 0, none⟩) c1.length c1.length, .slice (some ⟨b2, 0, none⟩) c2.length c2.length] 70 ∈ C) :
  RdLL w [c1, c2] (some ⟨b3, 0, none⟩) [.slice (some ⟨b1, 0, none⟩) c1.length c1.length, .slice (some ⟨b2, 0, none⟩) c2.length c2.length] := by
 refine ⟨rfl, fun i u hu => ⟨b3, 0, rfl, by rw [Nat.zero_add]; exact hS.cell h3 hu⟩, fun i c u hc hu => ?_⟩
 match i, hc, hu with
 | 0, hc, hu =>
  simp at hc hu
  subst hc; subst hu
  exact ⟨_, _, rfl, fun j x hx => ⟨b1, 0, rfl, by rw [Nat.zero_add]; exact hS.cell h1 (by simp [hx])⟩⟩
 | 1, hc, hu =>
  simp at hc hu
  subst hc; subst hu
  exact ⟨_, _, rfl, fun j x hx => ⟨b2, 0, rfl, by rw [Nat.zero_add]; exact hS.cell h2 (by simp [hx])⟩⟩
 | i + 2, hc, hu => simp at hc
structure C1 where
 f : Nat
 out : List Int
 ad : Option Addr
 ac : Nat
structure C2 where
 i : Nat
 out : List Int
 ad : Option Addr
 ac : Nat
structure C3 where
 k : Nat
 out : List Int
 ad : Option Addr
 ac : Nat
def refuted (ls : List (List Int)) (c : List Int) : Bool := match Fm.consF 66 ls (c.map (fun x => -x)) with | some o => Fm.conflictB ls o | none => false
def verF : List (List Int) → List (List Int) → Nat → Int
 | _, [], i => i
 | ls, c :: ps, i => if refuted ls c then (if c.isEmpty then -1 else verF (ls ++ [c]) ps (i + 1)) else i
def verE (n : Int) (ls ps : List (List Int)) : Int × Int := if Fm.mayE n ls = 0 then (if ps.all (Fm.fitsB n) then (verF ls ps 0, 0) else (0, 2)) else (0, Fm.mayE n ls)
theorem RdLL.shape {w : World} {ls : List (List Int)} {a : Option Addr} {us : List Value} (h : RdLL w ls a us) (hi : 0 < ls.length) : ∃ b off, a = some ⟨b, off, none⟩ := by
 obtain ⟨c, b, off, _, _, _, ha, _⟩ := h.at hi
 exact ⟨b, off, ha⟩
structure V2 where
 i : Nat
 N : Nat
 hs : List Value
 aa : Option Addr
 ca : Nat
def satL (M : Nat) (x : Int) : Bool := if 0 < x then M.testBit (x - 1).toNat else !M.testBit (-x - 1).toNat
def satC (M : Nat) (c : List Int) : Bool := c.any (satL M)
def holdsB (ls : List (List Int)) (M : Nat) : Bool := ls.all (satC M)
structure SI (n : Nat) (ls : List (List Int)) (path : List Int) (proof : List (List Int)) : Prop where
 lit : ∀ x ∈ path, x ≠ 0 ∧ x.natAbs ≤ n
 dec : path.Pairwise (fun x y => y.natAbs < x.natAbs)
 hi : ∀ i x, path[i]? = some x → ∀ v : Nat, x.natAbs < v → v ≤ n → Fm.Der (ls ++ proof) (path.take i) (v : Int) ∨ Fm.Der (ls ++ proof) (path.take i) (-(v : Int))
 pos : ∀ i x, path[i]? = some x → 0 < x → ((path.take i).map (fun y => -y) ++ [x]) ∈ ls ++ proof
 ver : ∀ i c, proof[i]? = some c → refuted (ls ++ proof.take i) c = true ∧ c ≠ []
 fit : ∀ c ∈ proof, (∀ x ∈ c, x ≠ 0 ∧ x.natAbs ≤ n) ∧ c.length ≤ 64
 mdl : ∀ M, holdsB ls M = true → holdsB (ls ++ proof) M = true
theorem SI.all {n : Nat} {ls proof : List (List Int)} {path : List Int} (h : SI n ls path proof) (hls : ∀ c ∈ ls, ∀ x ∈ c, x ≠ 0 ∧ x.natAbs ≤ n) : ∀ c ∈ ls ++ proof, ∀ x ∈ c, x ≠ 0 ∧ x.natAbs ≤ n := fun c hc => by
 rcases List.mem_append.1 hc with hc | hc
 ·exact hls c hc
 ·exact (h.fit c hc).1
def tS (v : Nat) : Nat := 4 * 2 ^ v - 3
def rS (x : Int) : Nat := if x < 0 then tS (x.natAbs - 1) + 2 else 1
def remS (n : Nat) (path : List Int) : Nat := match path.getLast? with | none => n | some x => x.natAbs - 1
def muS (n : Nat) (mode : Bool) (path : List Int) : Nat := (path.map rS).sum + 1 + (if mode then 0 else tS (remS n path))
def GoodS (n : Nat) (ls : List (List Int)) (r : Fm.Ans) : Prop :=
 (r.ok = true ∧ r.proof = [] ∧ r.model < 2 ^ n ∧ holdsB ls r.model = true ∧ ∀ M, M < 2 ^ n → holdsB ls M = true → r.model ≤ M) ∨
 (r.ok = false ∧ r.model = 0 ∧ verF ls r.proof 0 = -1 ∧ (∀ c ∈ r.proof, (∀ x ∈ c, x ≠ 0 ∧ x.natAbs ≤ n) ∧ c.length ≤ 64) ∧ ∀ M, holdsB ls M = false)
theorem SI.push {n : Nat} {ls proof : List (List Int)} {p : List Int} {y : Int} (h : SI n ls p proof) (hy : y ≠ 0 ∧ y.natAbs ≤ n) (hd : ∀ x ∈ p, y.natAbs < x.natAbs) (hh : ∀ v : Nat, y.natAbs < v → v ≤ n → Fm.Der (ls ++ proof) p (v : Int) ∨ Fm.Der (ls ++ proof) p (-(v : Int)))
  (hp : 0 < y → (p.map (fun z => -z) ++ [y]) ∈ ls ++ proof) : SI n ls (p ++ [y]) proof := by
 have hidx : ∀ i x, (p ++ [y])[i]? = some x → (p[i]? = some x ∧ (p ++ [y]).take i = p.take i) ∨ (x = y ∧ (p ++ [y]).take i = p) := fun i x hi => by
  by_cases hlt : i < p.length
  ·rw [List.getElem?_append_left hlt] at hi
   exact .inl ⟨hi, by rw [List.take_append_of_le_length (by omega)]⟩
  ·rw [List.getElem?_append_right (by omega)] at hi
   have hie : i = p.length := by
    have := (List.getElem?_eq_some_iff.1 hi).1
    simp at this; omega
   subst hie
   rw [Nat.sub_self] at hi
   injection hi with hi
   exact .inr ⟨hi.symm, List.take_left' rfl⟩
 refine ⟨fun x hx => ?_, ?_, fun i x hi v h1 h2 => ?_, fun i x hi h1 => ?_, h.ver, h.fit, h.mdl⟩
 ·rcases List.mem_append.1 hx with hx | hx
  ·exact h.lit x hx
  ·rw [List.mem_singleton] at hx; rw [hx]; exact hy
 ·refine List.pairwise_append.2 ⟨h.dec, List.pairwise_singleton _ _, fun x hx z hz => ?_⟩
  rw [List.mem_singleton] at hz; rw [hz]; exact hd x hx
 ·rcases hidx i x hi with ⟨g1, g2⟩ | ⟨rfl, g2⟩
  ·rw [g2]; exact h.hi i x g1 v h1 h2
  ·rw [g2]; exact hh v h1 h2
 ·rcases hidx i x hi with ⟨g1, g2⟩ | ⟨rfl, g2⟩
  ·rw [g2]; exact h.pos i x g1 h1
  ·rw [g2]; exact hp h1
def largeB (ls : List (List Int)) : Bool := decide (40 < ls.length) || ls.any (fun c => decide (80 < c.length))
structure RW where
 i : Nat
 G : List Nat
 vs : List Value
 ss : List (List Int)
 aa : Option Addr
 ca : Nat
def Shaped (a : Option Addr) : Prop := a = none ∨ ∃ b off, a = some ⟨b, off, none⟩
abbrev RowsX := { x : (List Nat × List Value) × Option Addr × Nat // Shaped x.2.1 }
def rowsC (x : RowsX) (ls : List (List Int)) : List Chunk := [rowc (.slice x.1.2.1 ls.length x.1.2.2) ls.length 70 1 x.1.1.2, stepsC x.1.1.1 x.1.1.2 ls]
def propL (q : Int → Bool) : Nat → List Int
 | 0 => []
 | n + 1 => propL q n ++ (if q ((n : Int) + 1) then [(n : Int) + 1] else if q (-((n : Int) + 1)) then [-((n : Int) + 1)] else [])
def propE (n : Int) (ls : List (List Int)) (fixed : List Int) : List Int × Int :=
 if Fm.mayE n ls = 0 then (if fixed.all (Fm.litB n) then (match Fm.consF 66 ls fixed with
  | some o => if Fm.conflictB ls o then ([], 9) else (propL (fun z => o.contains z) n.toNat, 0)
  | none => ([], 0)) else ([], 2)) else ([], Fm.mayE n ls)
def PropPost (n : Int) (ls : List (List Int)) (fixed : List Int) (w : World) (e : Ending) (w' : World) : Prop :=
 ∃ x : Option Addr × Nat, e = .returned (.tuple #[.slice x.1 (propE n ls fixed).1.length x.2, .int .i64 (propE n ls fixed).2]) ∧
  St w [] [rowc (.slice x.1 (propE n ls fixed).1.length x.2) (propE n ls fixed).1.length 3 1 ((propE n ls fixed).1.map (Value.int .i64))] w'
theorem RdC.one {w : World} {b off : Nat} {x : Int} (h : w.cell? ⟨b, off, none⟩ = some (.int .i64 x)) : RdC w [x] (some ⟨b, off, none⟩) := fun j y hy => by
 match j, hy with
 | 0, hy => simp at hy; subst hy; exact ⟨b, off, rfl, h⟩
 | j + 1, hy => simp at hy
structure P2 where
 j : Nat
 out : List Int
 ad : Option Addr
 ac : Nat
def modelsL (n : Nat) (ls : List (List Int)) : List Nat := (List.range (2 ^ n)).filter (holdsB ls)
def u32s (l : List Nat) : List Value := l.map (fun m : Nat => Value.int .u32 (m : Int))
structure MD where
 M : Nat
 out : List Nat
 ad : Option Addr
 ac : Nat
def RdS (w : World) (l : List (List UInt8)) (a : Option Addr) : Prop := ∀ j x, l[j]? = some x → ∃ b off, a = some ⟨b, off, none⟩ ∧ w.cell? ⟨b, off + j, none⟩ = some (.string (str x))
theorem RdS.next {w0 w : World} {C : List Chunk} {l : List (List UInt8)} {a : Option Addr} (h : RdS w0 l a) (hS : St w0 [] C w) : RdS w l a := fun j x hx => by
 obtain ⟨b, off, ha, hc⟩ := h j x hx
 exact ⟨b, off, ha, hS.oldc hc (by simp)⟩
def strs (l : List (List UInt8)) : List Value := l.map (fun s => Value.string (str s))
theorem RdS.of_row {w : World} {l : List (List UInt8)} {a : Option Addr} {n cap : Nat} (hn : n = l.length) (h : (rowc (.slice a n cap) n 9 1 (strs l)).ok w) : RdS w l a := fun j x hx => by
 have hlt := (List.getElem?_eq_some_iff.1 hx).1
 obtain ⟨g, hg, _, _⟩ := rowc_addr h (by omega)
 subst hg
 exact ⟨g, 0, rfl, by rw [Nat.zero_add]; exact rowc_cell h (by simp [strs, hx])⟩
open Go Go.Eng Go.Proofs Go.ChangeShapes Go.WideShapes Go.ChangeAt Go.RowKit Go.ChangeMaps
theorem wf_u8 {n : Int} (h : (Lit.int .u8 n).wf = true) : 0 ≤ n ∧ n < 256 := by
 have e1 : IntKind.u8.min = 0 := by decide
 have e2 : IntKind.u8.max = 255 := by decide
 simp [Lit.wf, e1, e2] at h
 omega
theorem wf_u32 {n : Int} (h : (Lit.int .u32 n).wf = true) : 0 ≤ n ∧ n < 4294967296 := by
 have e1 : IntKind.u32.min = 0 := by decide
 have e2 : IntKind.u32.max = 4294967295 := by decide
 simp [Lit.wf, e1, e2] at h
 omega
theorem list_of {α : Type} {P : Nat → α → Prop} : ∀ n : Nat, (∀ i, i < n → ∃ y, P i y) → ∃ l : List α, l.length = n ∧ ∀ i x, l[i]? = some x → P i x
 | 0, _ => ⟨[], rfl, fun i x hx => by simp at hx⟩
 | n + 1, h => by
  obtain ⟨l, h1, h2⟩ := list_of n (fun i hi => h i (by omega))
  obtain ⟨y, hy⟩ := h n (by omega)
  refine ⟨l ++ [y], by simp [h1], fun i x hx => ?_⟩
  by_cases hi : i < l.length
  ·rw [List.getElem?_append_left hi] at hx
   exact h2 i x hx
  ·rw [List.getElem?_append_right (by omega)] at hx
   have hil := (List.getElem?_eq_some_iff.1 hx).1
   simp at hil
   have : i = n := by omega
   subst this
   rw [show i - l.length = 0 by omega] at hx
   simp at hx
   subst hx
   exact hy
theorem undInt6 : Tryz.prog.underlying 3 = some (.int .i64) := by kernel_rfl
theorem undInts6 : Tryz.prog.underlying 70 = some (.slice 3) := by kernel_rfl
theorem cellsInt6 : Tryz.prog.cellsOf 3 = 1 := by kernel_rfl
end Go.Proofs.YtndpdhamadiopaaGreatDoor
namespace Go.Eng
open Go Go.RowKit
def mpc (b : Nat) (ks : List (List UInt8)) : Chunk where
 fp k := k = b
 ok w := ∃ (es : Array MapEntry) (clock : Nat), w.heap[b]? = some (.map es clock) ∧ es.toList.map (fun e => (e.key, e.val)) = ks.map (fun s => (Value.string (str s), Value.bool true))
 loc w w' h := fun ⟨es, c, h1, h2⟩ => ⟨es, c, (h b rfl).trans h1, h2⟩
theorem str_beq (a b : List UInt8) : (str a == str b) = (a == b) := by
 show (a.toArray == b.toArray) = _
 simp
theorem St.allocObj {w0 w : World} {O : List Nat} {C : List Chunk} (h : St w0 O C w) (o : Obj) (c0 : Chunk) (hf : ∀ k, c0.fp k ↔ k = w.heap.size) (hok : c0.ok (w.alloc o)) : St w0 O (c0 :: C) (w.alloc o) := by
 have hh : ∀ k, k < w.heap.size → (w.alloc o).heap[k]? = w.heap[k]? := fun k hk => Below.heap_alloc w _ k hk
 refine ⟨h.os, h.tape, h.output, by have := h.size; simp; omega, fun k hk ho => ?_, ?_, ?_, ?_⟩
 ·rw [hh k (Nat.lt_of_lt_of_le hk h.size)]; exact h.old k hk ho
 ·intro c hc
  rcases List.mem_cons.1 hc with rfl | hc
  ·exact hok
  ·exact (h.ok c hc |> fun hok => c.loc w _ (fun k hk => hh k (h.bnd c hc k hk).1) hok)
 ·intro c hc k hk
  rcases List.mem_cons.1 hc with rfl | hc
  ·have : k = w.heap.size := (hf k).1 hk
   subst this
   exact ⟨by simp, fun hlt => absurd hlt (Nat.not_lt.2 h.size)⟩
  ·exact ⟨by have := (h.bnd c hc k hk).1; simp; omega, (h.bnd c hc k hk).2⟩
 ·refine List.Pairwise.cons (fun c hc k hk hk' => ?_) h.disj
  have : k = w.heap.size := (hf k).1 hk
  subst this
  exact Nat.lt_irrefl _ (h.bnd c hc _ hk').1
theorem St.setObj {w0 w : World} {O : List Nat} {C C' : List Chunk} {b : Nat} {c0 c1 : Chunk} {o : Obj} (h : St w0 O C w) (hu : Upd c0 c1 C C') (hf : ∀ k, c0.fp k ↔ k = b) (hf' : ∀ k, c1.fp k ↔ k = b) (hok : c1.ok { w with heap := w.heap.setIfInBounds b o }) :
  St w0 O C' { w with heap := w.heap.setIfInBounds b o } := by
 obtain ⟨R, p1, p2⟩ := hu.perm
 have h1 := h.perm p1
 refine St.perm ?_ p2.symm
 have hbO := (h1.bnd _ (List.mem_cons_self ..) b ((hf b).2 rfl))
 have hoth : ∀ k, k ≠ b → ({ w with heap := w.heap.setIfInBounds b o } : World).heap[k]? = w.heap[k]? := fun k hk => by
  show (w.heap.setIfInBounds b o)[k]? = _
  rw [Array.getElem?_setIfInBounds_ne (Ne.symm hk)]
 have hdis := List.pairwise_cons.1 h1.disj
 refine ⟨h.os, h.tape, h.output, by simpa using h.size, fun k hk ho => ?_, ?_, ?_, ?_⟩
 ·by_cases hkb : k = b
  ·subst hkb; exact absurd (hbO.2 hk) ho
  ·rw [hoth k hkb]; exact h.old k hk ho
 ·intro c hc
  rcases List.mem_cons.1 hc with rfl | hc
  ·exact hok
  ·refine c.loc w _ (fun k hk => hoth k (fun e => ?_)) (h1.ok c (List.mem_cons_of_mem _ hc))
   exact hdis.1 c hc k ((hf k).2 e) hk
 ·intro c hc k hk
  rcases List.mem_cons.1 hc with rfl | hc
  ·have : k = b := (hf' k).1 hk
   subst this
   exact ⟨by simpa using hbO.1, hbO.2⟩
  ·simpa using h1.bnd c (List.mem_cons_of_mem _ hc) k hk
 ·exact List.Pairwise.cons (fun c hc k hk hk' => hdis.1 c hc k ((hf k).2 ((hf' k).1 hk)) hk') hdis.2
section
variable {P : Program} {w0 : World} {O : List Nat} {ops : Array Oper} {Q : Exit → Act → World → Prop} {N : Nat} {D : List Deferred} {L : FL} {C : List Chunk} {K : Act → World → Prop}
variable {d : Nat} {ty : TypeId} {pos : String} {af : Array Edge}
theorem WL.makeMap {t : TypeId} (hd : Nat.blt d N = true) (h : ∀ b, WA w0 O K N D ((d, .map (some b)) :: L) (mpc b [] :: C)) :
  WK P w0 O ops Q ⟨some d, .makeMap t none, ty, pos, af, none⟩ K N D L C := fun a w hF hS => by
 refine wpo_val rfl ?_ (h w.heap.size _ (w.alloc (.map #[] 0)) (hF.put d _ hd) (hS.allocObj _ (mpc w.heap.size []) (fun k => Iff.rfl) ⟨#[], 0, by show (w.heap.push _)[w.heap.size]? = _; simp, rfl⟩))
 have hr := run_makeMap_plain (P := P) (w := w) t
 simp only [execOp, Option.map_none, Sem.run_bind, hr, Result.andThen_ok, Sem.run_pure]
end
open Go Go.RowKit
def kidx {κ : Type} [DecidableEq κ] : List (κ × Value) → κ → Nat → Option (Nat × Value)
 | [], _, _ => none
 | p :: r, k, i => if p.1 = k then some (i, p.2) else kidx r k (i + 1)
def kfind {κ : Type} [DecidableEq κ] : List (κ × Value) → κ → Option Value
 | [], _ => none
 | p :: r, k => if p.1 = k then some p.2 else kfind r k
theorem kidx_none {κ : Type} [DecidableEq κ] : ∀ {kvs : List (κ × Value)} {k : κ} {i : Nat}, kidx kvs k i = none ↔ kfind kvs k = none
 | [], _, _ => by simp [kidx, kfind]
 | p :: r, k, i => by
  unfold kidx kfind
  split
  ·simp
  ·exact kidx_none
theorem kidx_some {κ : Type} [DecidableEq κ] : ∀ {kvs : List (κ × Value)} {k : κ} {i j : Nat} {v : Value}, kidx kvs k i = some (j, v) → i ≤ j ∧ kvs[j - i]? = some (k, v) ∧ kfind kvs k = some v ∧ ∀ v' k', kfind (kvs.set (j - i) (k, v')) k' = if k' = k then some v' else kfind kvs k'
 | [], _, _, _, _, h => by simp [kidx] at h
 | p :: r, k, i, j, v, h => by
  unfold kidx at h
  by_cases hp : p.1 = k
  ·rw [if_pos hp] at h
   simp only [Option.some.injEq, Prod.mk.injEq] at h
   obtain ⟨rfl, rfl⟩ := h
   subst hp
   refine ⟨Nat.le_refl _, by simp, by simp [kfind], fun v' k' => ?_⟩
   simp only [Nat.sub_self, List.set_cons_zero, kfind]
   by_cases hk : k' = p.1
   ·simp [hk]
   ·simp [hk, Ne.symm hk]
  ·rw [if_neg hp] at h
   obtain ⟨h1, h2, h3, h4⟩ := kidx_some h
   have e : j - i = (j - (i + 1)) + 1 := by omega
   refine ⟨by omega, by rw [e]; simpa using h2, by simp [kfind, hp, h3], fun v' k' => ?_⟩
   rw [e, List.set_cons_succ]
   simp only [kfind]
   by_cases hk : p.1 = k'
   ·rw [if_pos hk, if_pos hk, if_neg (fun e => hp (hk.trans e))]
   ·rw [if_neg hk, if_neg hk]; exact h4 v' k'
theorem kfind_snoc {κ : Type} [DecidableEq κ] : ∀ {kvs : List (κ × Value)} {k : κ} {v : Value}, kfind kvs k = none → ∀ k', kfind (kvs ++ [(k, v)]) k' = if k' = k then some v else kfind kvs k'
 | [], k, v, _, k' => by
  simp only [List.nil_append, kfind]
  by_cases h : k' = k
  ·simp [h]
  ·simp [h, Ne.symm h]
 | p :: r, k, v, h, k' => by
  unfold kfind at h
  by_cases hp : p.1 = k
  ·rw [if_pos hp] at h; cases h
  ·rw [if_neg hp] at h
   simp only [List.cons_append, kfind]
   by_cases hk : p.1 = k'
   ·rw [if_pos hk, if_pos hk, if_neg (fun e => hp (hk.trans e))]
   ·rw [if_neg hk, if_neg hk]; exact kfind_snoc h k'
structure KeyT (P : Program) (kt : TypeId) {κ : Type} [DecidableEq κ] (enc : κ → Value) : Prop where
 check : ∀ e w k, (Instr.checkKey e 10000 kt (enc k)).run P w = .ok () w
 find : ∀ w k (es : List MapEntry) (kvs : List (κ × Value)), es.map (fun e => (e.key, e.val)) = kvs.map (fun p => (enc p.1, p.2)) → (Instr.findKey kt (enc k) es).run P w = .ok (kidx kvs k 0) w
 stays : ∀ w k, (Instr.keyThatStays (enc k) (enc k)).run P w = .ok (enc k) w
structure MapInv {κ : Type} (es : List MapEntry) (clock : Nat) (ks : List κ) : Prop where
 born : (es.map (·.born)).Nodup
 past : ∀ e ∈ es, e.born < clock
 keys : ks.Nodup
def mpg {κ : Type} [DecidableEq κ] (enc : κ → Value) (b : Nat) (f : κ → Option Value) : Chunk where
 fp k := k = b
 ok w := ∃ (es : Array MapEntry) (clock : Nat) (kvs : List (κ × Value)), w.heap[b]? = some (.map es clock) ∧ es.toList.map (fun e => (e.key, e.val)) = kvs.map (fun p => (enc p.1, p.2)) ∧ (∀ k, f k = kfind kvs k) ∧ MapInv es.toList clock (kvs.map Prod.fst)
 loc w w' h := fun ⟨es, c, kvs, h1, h2⟩ => ⟨es, c, kvs, (h b rfl).trans h1, h2⟩
theorem kfind_mem {κ : Type} [DecidableEq κ] : ∀ {kvs : List (κ × Value)} {k : κ}, kfind kvs k = none → k ∉ kvs.map Prod.fst
 | [], _, _ => by simp
 | p :: r, k, h => by
  unfold kfind at h
  by_cases hp : p.1 = k
  ·rw [if_pos hp] at h; cases h
  ·rw [if_neg hp] at h
   simp only [List.map_cons, List.mem_cons, not_or]
   exact ⟨Ne.symm hp, kfind_mem h⟩
theorem MapInv.push {κ : Type} {es : List MapEntry} {clock : Nat} {ks : List κ} (h : MapInv es clock ks) {k : κ} (hk : k ∉ ks) (key val : Value) : MapInv (es ++ [{ key, val, born := clock }]) (clock + 1) (ks ++ [k]) := by
 refine ⟨?_, fun e he => ?_, ?_⟩
 ·rw [List.map_append, List.nodup_append]
  refine ⟨h.born, by simp, fun a ha b hb => ?_⟩
  obtain ⟨e, he, rfl⟩ := List.mem_map.1 ha
  simp only [List.map_cons, List.map_nil, List.mem_singleton] at hb
  have := h.past e he
  omega
 ·rcases List.mem_append.1 he with he | he
  ·exact Nat.lt_succ_of_lt (h.past e he)
  ·rw [List.mem_singleton.1 he]; exact Nat.lt_succ_self _
 ·rw [List.nodup_append]
  refine ⟨h.keys, by simp, fun a ha b hb => ?_⟩
  rw [List.mem_singleton.1 hb]
  exact fun e => hk (e ▸ ha)
theorem map_modify_same {α β : Type} (f : α → β) (g : α → α) (hg : ∀ a, f (g a) = f a) : ∀ (l : List α) (j : Nat), (l.modify j g).map f = l.map f
 | [], j => by simp
 | x :: r, 0 => by simp [hg]
 | x :: r, j + 1 => by simp [map_modify_same f g hg r j]
theorem MapInv.modify {κ : Type} {es : List MapEntry} {clock : Nat} {ks : List κ} (h : MapInv es clock ks) (g : MapEntry → MapEntry) (hg : ∀ e, (g e).born = e.born) (j : Nat) : MapInv (es.modify j g) clock ks := by
 have hb := map_modify_same (·.born) g hg es j
 refine ⟨by rw [hb]; exact h.born, fun e he => ?_, h.keys⟩
 have : e.born ∈ (es.modify j g).map (·.born) := List.mem_map_of_mem he
 rw [hb] at this
 obtain ⟨e2, he2, e3⟩ := List.mem_map.1 this
 rw [← e3]; exact h.past e2 he2
theorem map_modify_set {α β : Type} (f : α → β) (g : α → α) : ∀ (l : List α) (j : Nat) (a : α), l[j]? = some a → (l.modify j g).map f = (l.map f).set j (f (g a))
 | [], j, a, h => by simp at h
 | x :: r, 0, a, h => by simp at h; subst h; simp
 | x :: r, j + 1, a, h => by
  simp only [List.getElem?_cons_succ] at h
  simp [map_modify_set f g r j a h]
section
variable {P : Program} {w0 : World} {O : List Nat} {ops : Array Oper} {Q : Exit → Act → World → Prop} {N : Nat} {D : List Deferred} {L : FL} {C : List Chunk} {K : Act → World → Prop}
variable {d : Nat} {ty : TypeId} {pos : String} {af : Array Edge}
variable {κ : Type} [DecidableEq κ] {enc : κ → Value} {kt : TypeId}
theorem WL.makeMapG (enc : κ → Value) {t : TypeId} (hd : Nat.blt d N = true) (h : ∀ b, WA w0 O K N D ((d, .map (some b)) :: L) (mpg enc b (fun _ => none) :: C)) :
  WK P w0 O ops Q ⟨some d, .makeMap t none, ty, pos, af, none⟩ K N D L C := fun a w hF hS => by
 refine wpo_val rfl ?_ (h w.heap.size _ (w.alloc (.map #[] 0)) (hF.put d _ hd) (hS.allocObj _ (mpg enc w.heap.size (fun _ => none)) (fun k => Iff.rfl) ⟨#[], 0, [], by show (w.heap.push _)[w.heap.size]? = _; simp, rfl, fun _ => rfl, ⟨by simp, by simp, by simp⟩⟩))
 have hr := run_makeMap_plain (P := P) (w := w) t
 simp only [execOp, Option.map_none, Sem.run_bind, hr, Result.andThen_ok, Sem.run_pure]
theorem run_lookupG {t et : TypeId} {b : Nat} {k : κ} {f : κ → Option Value} {z : Value} (hm : P.underlying t = some (.map kt et)) (hk : KeyT P kt enc) (hz : ∀ w, (zeroValue et).run P w = .ok z w) {w : World} (hok : (mpg enc b f).ok w) (cm : Bool) :
  (Instr.lookup t (.map (some b)) (enc k) cm).run P w = .ok (bif cm then .tuple #[(f k).getD z, .bool (f k).isSome] else (f k).getD z) w := by
 obtain ⟨es, clock, kvs, h1, h2, h3, _⟩ := hok
 have hf := hk.find w k es.toList kvs h2
 cases hh : kidx kvs k 0 with
 | none =>
  have hn : f k = none := by rw [h3, kidx_none.1 hh]
  rw [hh] at hf
  cases cm <;> simp [Instr.lookup, run_underlying hm, MapKept.run_getObj_map h1, hk.check, hf, Result.andThen, hz, hn]
 | some p =>
  obtain ⟨j, v⟩ := p
  have hn : f k = some v := by rw [h3, (kidx_some hh).2.2.1]
  rw [hh] at hf
  cases cm <;> simp [Instr.lookup, run_underlying hm, MapKept.run_getObj_map h1, hk.check, hf, Result.andThen, hn]
theorem WL.lookupG {t et : TypeId} {x y : Operand} {b : Nat} {f : κ → Option Value} {z vy : Value} {cm : Bool} (k : κ) (hm : P.underlying t = some (.map kt et)) (hk : KeyT P kt enc) (hz : ∀ w, (zeroValue et).run P w = .ok z w) (hd : Nat.blt d N = true)
  (hx : ev L x = some (.map (some b))) (hy : ev L y = some vy) (hvy : vy = enc k) (hmem : mpg enc b f ∈ C) (h : WA w0 O K N D ((d, bif cm then .tuple #[(f k).getD z, .bool (f k).isSome] else (f k).getD z) :: L) C) :
  WK P w0 O ops Q ⟨some d, .lookup t x y cm, ty, pos, af, none⟩ K N D L C := fun a w hF hS => by
 subst hvy
 refine wpo_val rfl ?_ (h _ w (hF.put d _ hd) hS)
 simp only [execOp, hF.ev hx, hF.ev hy, Sem.run_bind, run_lookupG hm hk hz (hS.ok _ hmem), Result.andThen_ok, Sem.run_pure]
theorem WL.lookupHit {t et : TypeId} {x y : Operand} {b : Nat} {f : κ → Option Value} {z v vy : Value} (k : κ) (hm : P.underlying t = some (.map kt et)) (hk : KeyT P kt enc) (hz : ∀ w, (zeroValue et).run P w = .ok z w) (hd : Nat.blt d N = true)
  (hx : ev L x = some (.map (some b))) (hy : ev L y = some vy) (hvy : vy = enc k) (hmem : mpg enc b f ∈ C) (hf : f k = some v) (h : WA w0 O K N D ((d, .tuple [v, .bool true].toArray) :: L) C) :
  WK P w0 O ops Q ⟨some d, .lookup t x y true, ty, pos, af, none⟩ K N D L C := WL.lookupG k hm hk hz hd hx hy hvy hmem (by rw [hf]; exact h)
theorem WL.lookupMiss {t et : TypeId} {x y : Operand} {b : Nat} {f : κ → Option Value} {z vy : Value} (k : κ) (hm : P.underlying t = some (.map kt et)) (hk : KeyT P kt enc) (hz : ∀ w, (zeroValue et).run P w = .ok z w) (hd : Nat.blt d N = true)
  (hx : ev L x = some (.map (some b))) (hy : ev L y = some vy) (hvy : vy = enc k) (hmem : mpg enc b f ∈ C) (hf : f k = none) (h : WA w0 O K N D ((d, .tuple [z, .bool false].toArray) :: L) C) :
  WK P w0 O ops Q ⟨some d, .lookup t x y true, ty, pos, af, none⟩ K N D L C := WL.lookupG k hm hk hz hd hx hy hvy hmem (by rw [hf]; exact h)
theorem WL.mapPutG {t et : TypeId} {x y z : Operand} {b : Nat} {f : κ → Option Value} {vy v : Value} {C' : List Chunk} (k : κ) (hm : P.underlying t = some (.map kt et)) (hk : KeyT P kt enc)
  (hx : ev L x = some (.map (some b))) (hy : ev L y = some vy) (hvy : vy = enc k) (hz : ev L z = some v) (hu : Upd (mpg enc b f) (mpg enc b (fun q => if q = k then some v else f q)) C C') (h : WA w0 O K N D L C') :
  WK P w0 O ops Q ⟨none, .mapUpdate t x y z, ty, pos, af, none⟩ K N D L C := fun a w hF hS => by
 subst hvy
 obtain ⟨es, clock, kvs, h1, h2, h3, hI⟩ := hS.ok _ hu.mem
 have hb : b < w.heap.size := ((hS.bnd _ hu.mem) b rfl).1
 have hf := hk.find w k es.toList kvs h2
 cases hh : kidx kvs k 0 with
 | none =>
  rw [hh] at hf
  have hr : (Instr.mapUpdate t (.map (some b)) (enc k) v).run P w = .ok () { w with heap := w.heap.setIfInBounds b (.map (es.push { key := enc k, val := v, born := clock }) (clock + 1)) } := by
   simp [Instr.mapUpdate, run_underlying hm, MapKept.run_getObj_map h1, hk.check, hf, MapKept.run_setObj_map _ h1, Result.andThen]
  refine wpo_skip rfl (w' := { w with heap := w.heap.setIfInBounds b (.map (es.push { key := enc k, val := v, born := clock }) (clock + 1)) }) ?_ (h _ _ hF (hS.setObj hu (fun k => Iff.rfl) (fun k => Iff.rfl) ⟨es.push { key := enc k, val := v, born := clock }, clock + 1, kvs ++ [(k, v)], ?_, ?_, ?_, ?_⟩))
  ·simp [execOp, hF.ev hx, hF.ev hy, hF.ev hz, hr]
  ·show (w.heap.setIfInBounds b _)[b]? = _
   rw [Array.getElem?_setIfInBounds_self_of_lt hb]
  ·simp [h2]
  ·intro q
   rw [kfind_snoc (kidx_none.1 hh) q]
   simp only [h3]
  ·have := hI.push (kfind_mem (kidx_none.1 hh)) (enc k) v
   simpa using this
 | some p =>
  obtain ⟨j, u⟩ := p
  rw [hh] at hf
  obtain ⟨_, g2, g3, g4⟩ := kidx_some hh
  simp only [Nat.sub_zero] at g2 g4
  have hlen : es.toList.length = kvs.length := by have := congrArg List.length h2; simpa using this
  have hjl : j < es.toList.length := by rw [hlen]; exact (List.getElem?_eq_some_iff.1 g2).1
  have hej : es.toList[j]? = some es.toList[j] := List.getElem?_eq_getElem hjl
  have hkey : es.toList[j].key = enc k := by
   have e1 : (es.toList.map (fun e => (e.key, e.val)))[j]? = some (es.toList[j].key, es.toList[j].val) := by rw [List.getElem?_map, hej]; rfl
   rw [h2, List.getElem?_map, g2] at e1
   simp only [Option.map_some, Option.some.injEq, Prod.mk.injEq] at e1
   exact e1.1.symm
  have hej' : es[j]? = some es.toList[j] := by rw [← Array.getElem?_toList]; exact hej
  have hkey2 := hkey
  simp only [Array.getElem_toList] at hkey2
  have hr : (Instr.mapUpdate t (.map (some b)) (enc k) v).run P w = .ok () { w with heap := w.heap.setIfInBounds b (.map (es.modify j fun e => { e with key := enc k, val := v }) clock) } := by
   simp [Instr.mapUpdate, run_underlying hm, MapKept.run_getObj_map h1, hk.check, hf, MapKept.run_setObj_map _ h1, Result.andThen, hej', hkey, hkey2, hk.stays]
  refine wpo_skip rfl (w' := { w with heap := w.heap.setIfInBounds b (.map (es.modify j fun e => { e with key := enc k, val := v }) clock) }) ?_ (h _ _ hF (hS.setObj hu (fun k => Iff.rfl) (fun k => Iff.rfl) ⟨es.modify j fun e => { e with key := enc k, val := v }, clock, kvs.set j (k, v), ?_, ?_, ?_, ?_⟩))
  ·simp [execOp, hF.ev hx, hF.ev hy, hF.ev hz, hr]
  ·show (w.heap.setIfInBounds b _)[b]? = _
   rw [Array.getElem?_setIfInBounds_self_of_lt hb]
  ·rw [Array.toList_modify, map_modify_set _ _ _ _ _ hej, h2, List.map_set]
  ·intro q
   rw [g4 v q]
   simp only [h3]
  ·rw [Array.toList_modify]
   have e1 : (kvs.set j (k, v)).map Prod.fst = kvs.map Prod.fst := by
    rw [List.map_set]
    refine List.ext_getElem? fun i => ?_
    rw [List.getElem?_set]
    split
    ·rename_i e
     subst e
     have hj : j < kvs.length := (List.getElem?_eq_some_iff.1 g2).1
     rw [if_pos (by simpa using hj), List.getElem?_map, g2]; rfl
    ·rfl
   rw [e1]
   exact hI.modify (fun e => { e with key := enc k, val := v }) (fun _ => rfl) j
end
def encI (n : Nat) : Value := .int .i64 (n : Int)
def enc2 (p : Nat × Nat) : Value := .agg #[.int .i64 (p.1 : Int), .int .i64 (p.2 : Int)]
def enc3 (p : Nat × Nat × Nat) : Value := .agg #[.int .i64 (p.1 : Int), .int .i64 (p.2.1 : Int), .int .i64 (p.2.2 : Int)]
section
variable {P : Program} {kt : TypeId} {κ : Type} [DecidableEq κ] {enc : κ → Value}
theorem findNow_kidx {d : TypeDesc} (hs : ∀ a b : κ, Instr.sameNow d (enc a) (enc b) = some (decide (b = a))) (k : κ) : ∀ (es : List MapEntry) (kvs : List (κ × Value)) (i : Nat), es.map (fun e => (e.key, e.val)) = kvs.map (fun p => (enc p.1, p.2)) → Instr.findNow d (enc k) es i = some (kidx kvs k i)
 | [], [], _, _ => rfl
 | [], p :: r, _, h => by simp at h
 | e :: es, [], _, h => by simp at h
 | e :: es, p :: r, i, h => by
  simp only [List.map_cons, List.cons.injEq, Prod.mk.injEq] at h
  obtain ⟨⟨h1, h2⟩, h3⟩ := h
  unfold Instr.findNow kidx
  rw [h1, hs k p.1, h2]
  by_cases hp : p.1 = k
  ·simp [hp]
  ·simp only [hp, decide_false, if_false]
   exact findNow_kidx hs k es r (i + 1) h3
theorem findAsking_kidx {w : World} (hs : ∀ a b : κ, (Op.equal kt (enc a) (enc b)).run P w = .ok (decide (b = a)) w) (k : κ) : ∀ (es : List MapEntry) (kvs : List (κ × Value)) (i : Nat), es.map (fun e => (e.key, e.val)) = kvs.map (fun p => (enc p.1, p.2)) → (Instr.findAsking kt (enc k) es i).run P w = .ok (kidx kvs k i) w
 | [], [], _, _ => by simp [Instr.findAsking, kidx]
 | [], p :: r, _, h => by simp at h
 | e :: es, [], _, h => by simp at h
 | e :: es, p :: r, i, h => by
  simp only [List.map_cons, List.cons.injEq, Prod.mk.injEq] at h
  obtain ⟨⟨h1, h2⟩, h3⟩ := h
  unfold Instr.findAsking kidx
  simp only [Sem.run_bind, h1, hs k p.1, Result.andThen_ok, h2]
  by_cases hp : p.1 = k
  ·simp [hp]
  ·simp only [hp, decide_false, if_false, Bool.false_eq_true]
   exact findAsking_kidx hs k es r (i + 1) h3
theorem KeyT.nat (hu : P.underlying kt = some (.int .i64)) : KeyT P kt encI where
 check e w k := by unfold encI; exact MapKept.run_checkKey hu (by simp [MapKept.IsKey]) e 9999
 find w k es kvs h := MapKept.run_findKey hu (findNow_kidx (d := .int .i64) (fun a b => by
  simp only [Instr.sameNow, encI, if_pos, Option.some.injEq]
  rw [Bool.eq_iff_iff]; simp; omega) k es kvs 0 h)
 stays w k := MapKept.run_keyThatStays (d := .int .i64) (by simp [MapKept.IsKey, encI])
end
open Go Go.RowKit
section
variable {P : Program} {w0 : World} {O : List Nat} {Q : Exit → Act → World → Prop} {N : Nat} {D : List Deferred} {L : FL} {C : List Chunk}
theorem WC.cutPE {c : Code} {α : Type} (M : α → FL) (C' : α → List Chunk) (hq : NoLook Q) (hx : ∀ Q', NoLook Q' → (∀ x, WQ w0 O Q' .normal N D (M x) (C' x)) → WC P w0 O c Q' N D L C) (hy : ∀ x, WQ w0 O Q .normal N D (M x) (C' x)) : WC P w0 O c Q N D L C := hx Q hq hy
end
section
variable {ops : Array Oper} {Fs : List (List Nat × (World → Prop))}
def fwd (i : Nat) : List Oper → List Bool → List Bool
 | [], acc => acc
 | o :: os, acc => fwd i os (acc ++ [o.after.any fun e => Region.binds .any e && (e.on == i || acc.getD e.on false)])
theorem fwd_not {listed : Array Bool} (hc : Closed ops listed) {i : Nat} (hi : listed.getD i false = false) : ∀ (os : List Oper) (acc : List Bool), ops.toList.drop acc.length = os → (∀ x, acc.getD x false = true → listed.getD x false = false) → ∀ x, (fwd i os acc).getD x false = true → listed.getD x false = false
 | [], acc, _, h, x, hx => h x hx
 | o :: os, acc, hd, h, x, hx => by
  have hlt : acc.length < ops.toList.length := by
   by_cases hl : acc.length < ops.toList.length
   ·exact hl
   ·rw [List.drop_eq_nil_of_le (by omega)] at hd; cases hd
  rw [List.drop_eq_getElem_cons hlt] at hd
  injection hd with h1 h2
  have ho : ops[acc.length]? = some o := by
   rw [← Array.getElem?_toList, List.getElem?_eq_getElem hlt, h1]
  refine fwd_not hc hi os _ (by rw [List.length_append]; exact h2) (fun y hy => ?_) x hx
  by_cases hyl : y < acc.length
  ·rw [List.getD_eq_getElem?_getD, List.getElem?_append_left hyl, ← List.getD_eq_getElem?_getD] at hy
   exact h y hy
  ·rw [List.getD_eq_getElem?_getD, List.getElem?_append_right (by omega)] at hy
   have hye : y = acc.length := by
    by_cases he : y - acc.length = 0
    ·omega
    ·rw [List.getElem?_eq_none (by simp; omega)] at hy; simp at hy
   subst hye
   simp only [Nat.sub_self, List.getElem?_cons_zero, Option.getD_some] at hy
   obtain ⟨e, he, hb⟩ := Array.any_eq_true'.1 hy
   simp only [Bool.and_eq_true, Bool.or_eq_true, beq_iff_eq] at hb
   cases hl : listed.getD acc.length false with
   | false => rfl
   | true =>
    have h3 := hc acc.length o ho hl e he hb.1
    rcases hb.2 with h4 | h4
    ·rw [h4, hi] at h3; cases h3
    ·rw [h _ h4] at h3; cases h3
def allIn (l : List Bool) (ds : List Nat) : Bool := ds.all fun j => l.getD j false
theorem need_at2 {i : Nat} (k : Nat) {ds : List Nat} {Y : World → Prop} (hm : Fs[k]? = some (ds, Y)) (hr : allIn (fwd i ops.toList []) ds = true) :
  ∀ (listed : Array Bool) (w : World), Closed ops listed → listed.getD i false = false → Sx Fs listed w → Y w := fun listed w hc hi hS =>
 hS (ds, Y) (List.mem_of_getElem? hm) fun j hj => fwd_not hc hi ops.toList [] rfl (fun x hx => by simp at hx) j (List.all_eq_true.1 hr j hj)
end
open Go Go.RowKit Go.Proofs.YtndpdhamadiopaaGreatDoor
def bun (F : List Nat) {α : Type} (Cs : α → List Chunk) (φ : α → Prop) : Chunk where
 fp k := k ∈ F
 ok w := ∃ x, φ x ∧ (∀ c ∈ Cs x, c.ok w) ∧ (Cs x).Pairwise (fun (c d : Chunk) => ∀ k : Nat, c.fp k → ¬ d.fp k) ∧ (∀ c ∈ Cs x, ∀ k, c.fp k → k ∈ F) ∧ ∀ k ∈ F, ∃ c ∈ Cs x, c.fp k
 loc w w' h := fun ⟨x, h1, h2, h3, h4, h5⟩ => ⟨x, h1, fun c hc => c.loc w w' (fun k hk => h k (h4 c hc k hk)) (h2 c hc), h3, h4, h5⟩
section
variable {P : Program} {w0 : World} {O : List Nat} {ops : Array Oper} {Q : Exit → Act → World → Prop} {N : Nat} {D : List Deferred} {L : FL} {C : List Chunk} {K : Act → World → Prop}
variable {d : Nat} {ty : TypeId} {pos : String} {af : Array Edge}
theorem St.bunOpen {w : World} {F : List Nat} {α : Type} {Cs : α → List Chunk} {φ : α → Prop} (h : St w0 O (bun F Cs φ :: C) w) : ∃ x, φ x ∧ (∀ c ∈ Cs x, ∀ k, c.fp k → k ∈ F) ∧ (∀ k ∈ F, ∃ c ∈ Cs x, c.fp k) ∧ St w0 O (Cs x ++ C) w := by
 obtain ⟨x, h1, h2, h3, h4, h5⟩ := h.ok _ (List.mem_cons_self ..)
 have hd := List.pairwise_cons.1 h.disj
 refine ⟨x, h1, h4, h5, h.os, h.tape, h.output, h.size, h.old, fun c hc => ?_, fun c hc k hk => ?_, List.pairwise_append.2 ⟨h3, hd.2, fun c hc d hd' k hk hk' => hd.1 d hd' k (h4 c hc k hk) hk'⟩⟩
 ·rcases List.mem_append.1 hc with hc | hc
  ·exact h2 c hc
  ·exact h.ok c (List.mem_cons_of_mem _ hc)
 ·rcases List.mem_append.1 hc with hc | hc
  ·exact h.bnd _ (List.mem_cons_self ..) k (h4 c hc k hk)
  ·exact h.bnd c (List.mem_cons_of_mem _ hc) k hk
theorem St.bunClose {w : World} {F : List Nat} {α : Type} {Cs : α → List Chunk} {φ : α → Prop} (x : α) (hφ : φ x) (h4 : ∀ c ∈ Cs x, ∀ k, c.fp k → k ∈ F) (h5 : ∀ k ∈ F, ∃ c ∈ Cs x, c.fp k) (h : St w0 O (Cs x ++ C) w) : St w0 O (bun F Cs φ :: C) w := by
 have hd := List.pairwise_append.1 h.disj
 refine ⟨h.os, h.tape, h.output, h.size, h.old, fun c hc => ?_, fun c hc k hk => ?_, List.Pairwise.cons (fun c hc k hk hk' => ?_) hd.2.1⟩
 ·rcases List.mem_cons.1 hc with rfl | hc
  ·exact ⟨x, hφ, fun c hc => h.ok c (List.mem_append_left _ hc), hd.1, h4, h5⟩
  ·exact h.ok c (List.mem_append_right _ hc)
 ·rcases List.mem_cons.1 hc with rfl | hc
  ·obtain ⟨c', hc', hk'⟩ := h5 k hk
   exact h.bnd c' (List.mem_append_left _ hc') k hk'
  ·exact h.bnd c (List.mem_append_right _ hc) k hk
 ·obtain ⟨c', hc', hk2⟩ := h5 k hk
  exact hd.2.2 c' hc' c hc k hk2 hk'
theorem bun_O1 {F : List Nat} {α : Type} {Cs : α → List Chunk} {φ : α → Prop} : ∀ c ∈ [bun F Cs φ], ∀ k, c.fp k → k ∈ F := by
 intro c hc k hk
 simp only [List.mem_singleton] at hc
 subst hc; exact hk
theorem bun_O2 {F : List Nat} {α : Type} {Cs : α → List Chunk} {φ : α → Prop} : ∀ k ∈ F, ∃ c ∈ [bun F Cs φ], c.fp k := fun k hk => ⟨_, List.mem_singleton.2 rfl, hk⟩
def FpIs (c : Chunk) (F : List Nat) : Prop := ∀ k, c.fp k ↔ k ∈ F
theorem FpIs.pt {b : Nat} {cs : List Value} {e : TypeId} : FpIs (pt b cs e) [b] := fun k => by
 show k = b ↔ _
 simp
theorem FpIs.mpg {κ : Type} [DecidableEq κ] {enc : κ → Value} {b : Nat} {f : κ → Option Value} : FpIs (mpg enc b f) [b] := fun k => by
 show k = b ↔ _
 simp
theorem FpIs.rowc {v : Value} {n : Nat} {e : TypeId} {sz : Nat} {xs : List Value} : FpIs (rowc v n e sz xs) (ob v) := fun k => by
 rw [mem_ob]; rfl
theorem FpIs.bun {F : List Nat} {α : Type} {Cs : α → List Chunk} {φ : α → Prop} : FpIs (bun F Cs φ) F := fun k => Iff.rfl
inductive FpL : List Chunk → List Nat → Prop
 | nil : FpL [] []
 | cons {c F Cs Fs} : FpIs c F → FpL Cs Fs → FpL (c :: Cs) (F ++ Fs)
theorem FpL.one {Cs : List Chunk} {F : List Nat} (h : FpL Cs F) : ∀ c ∈ Cs, ∀ k, c.fp k → k ∈ F := by
 induction h with
 | nil => intro c hc; cases hc
 | cons h1 h2 ih =>
  intro c hc k hk
  rcases List.mem_cons.1 hc with rfl | hc
  ·exact List.mem_append_left _ ((h1 k).1 hk)
  ·exact List.mem_append_right _ (ih c hc k hk)
theorem FpL.two {Cs : List Chunk} {F : List Nat} (h : FpL Cs F) : ∀ k ∈ F, ∃ c ∈ Cs, c.fp k := by
 induction h with
 | nil => intro k hk; cases hk
 | cons h1 h2 ih =>
  intro k hk
  rcases List.mem_append.1 hk with hk | hk
  ·exact ⟨_, List.mem_cons_self .., (h1 k).2 hk⟩
  ·obtain ⟨c, hc, hk⟩ := ih k hk
   exact ⟨c, List.mem_cons_of_mem _ hc, hk⟩
theorem St.bunClose' {w : World} {F : List Nat} {α : Type} {Cs : α → List Chunk} {φ : α → Prop} (x : α) (hφ : φ x) (hF : FpL (Cs x) F) (h : St w0 O (Cs x ++ C) w) : St w0 O (bun F Cs φ :: C) w := h.bunClose x hφ hF.one hF.two
theorem St.apart {w : World} {C1 : List Chunk} {F : List Nat} (h : St w0 O (C ++ C1) w) (h2 : ∀ k ∈ F, ∃ c ∈ C, c.fp k) {z : Nat} (hz : z < w0.heap.size) (hO : z ∉ O) : z ∉ F := fun hk => by
 obtain ⟨c, hc, hf⟩ := h2 z hk
 exact hO ((h.bnd c (List.mem_append_left _ hc) z hf).2 hz)
variable {κ : Type} [DecidableEq κ] {enc : κ → Value} {kt : TypeId}
theorem Yl.lookupG {t et : TypeId} {x y : Operand} {b : Nat} {f : κ → Option Value} {z vy v : Value} {cm : Bool} (k : κ) (hm : P.underlying t = some (.map kt et)) (hk : KeyT P kt enc) (hz : ∀ w, (zeroValue et).run P w = .ok z w)
  (hx : ev L x = some (.map (some b))) (hy : ev L y = some vy) (hvy : vy = enc k) (hv : v = bif cm then .tuple #[(f k).getD z, .bool (f k).isSome] else (f k).getD z) : Yl P N D L (fun w => (mpg enc b f).ok w) ⟨some d, .lookup t x y cm, ty, pos, af, none⟩ v := fun a w hF hok => by
 subst hvy; subst hv
 simp only [execOp, hF.ev hx, hF.ev hy, Sem.run_bind, run_lookupG hm hk hz hok, Result.andThen_ok, Sem.run_pure]
theorem Yl.lookupHit {t et : TypeId} {x y : Operand} {b : Nat} {f : κ → Option Value} {z vy v : Value} (k : κ) (hm : P.underlying t = some (.map kt et)) (hk : KeyT P kt enc) (hz : ∀ w, (zeroValue et).run P w = .ok z w)
  (hx : ev L x = some (.map (some b))) (hy : ev L y = some vy) (hvy : vy = enc k) (hf : f k = some v) : Yl P N D L (fun w => (mpg enc b f).ok w) ⟨some d, .lookup t x y true, ty, pos, af, none⟩ (.tuple [v, .bool true].toArray) := Yl.lookupG k hm hk hz hx hy hvy (by rw [hf]; rfl)
theorem Yl.lookupMiss {t et : TypeId} {x y : Operand} {b : Nat} {f : κ → Option Value} {z vy : Value} (k : κ) (hm : P.underlying t = some (.map kt et)) (hk : KeyT P kt enc) (hz : ∀ w, (zeroValue et).run P w = .ok z w)
  (hx : ev L x = some (.map (some b))) (hy : ev L y = some vy) (hvy : vy = enc k) (hf : f k = none) : Yl P N D L (fun w => (mpg enc b f).ok w) ⟨some d, .lookup t x y true, ty, pos, af, none⟩ (.tuple [z, .bool false].toArray) := Yl.lookupG k hm hk hz hx hy hvy (by rw [hf]; rfl)
theorem LoadOk.map {b : Nat} {f : κ → Option Value} (hm : mpg enc b f ∈ C) : LoadOk w0 O L C (fun w => (mpg enc b f).ok w) := fun w hS => hS.ok _ hm
end
section
variable {P : Program} {kt : TypeId}
structure IntF (P : Program) (f : Field) (off : Nat) : Prop where
 name : f.name ≠ "_"
 offset : f.offset = off
 plain : P.plainKey f.type = true
 int : P.underlying f.type = some (.int .i64)
def intFB (P : Program) (f : Field) (off : Nat) : Bool := f.name != "_" && f.offset == off && P.plainKey f.type && (match P.underlying f.type with | some (.int .i64) => true | _ => false)
theorem IntF.of {f : Field} {off : Nat} (h : intFB P f off = true) : IntF P f off := by
 unfold intFB at h
 simp only [Bool.and_eq_true, bne_iff_ne, beq_iff_eq] at h
 refine ⟨h.1.1.1, h.1.1.2, h.1.2, ?_⟩
 have h2 := h.2
 split at h2
 ·assumption
 ·cases h2
theorem run_equal_int {t : TypeId} (hu : P.underlying t = some (.int .i64)) (d : Nat) (a b : Int) (w : World) : (Op.equalIn (d + 1) t (.int .i64 a) (.int .i64 b)).run P w = .ok (a == b) w := by
 simp [Op.equalIn, run_underlying hu]
theorem KeyT.three {f0 f1 f2 : Field} (hu : P.underlying kt = some (.struct #[f0, f1, f2])) (h0 : IntF P f0 0) (h1 : IntF P f1 1) (h2 : IntF P f2 2) (hs : P.stoodInHeld kt = false) : KeyT P kt enc3 where
 check e w k := by
  unfold enc3
  show (Instr.checkKey e (9998 + 1 + 1) kt _).run P w = _
  rw [Instr.checkKey]
  simp only [Sem.run_bind, run_underlying hu, Result.andThen_ok]
  rw [← Array.forIn_toList]
  have p0 := run_part_plain w h0.plain (xs := #[.int .i64 (k.1 : Int), .int .i64 (k.2.1 : Int), .int .i64 (k.2.2 : Int)]) (off := 0) (v := .int .i64 (k.1 : Int)) rfl
  have p1 := run_part_plain w h1.plain (xs := #[.int .i64 (k.1 : Int), .int .i64 (k.2.1 : Int), .int .i64 (k.2.2 : Int)]) (off := 1) (v := .int .i64 (k.2.1 : Int)) rfl
  have p2 := run_part_plain w h2.plain (xs := #[.int .i64 (k.1 : Int), .int .i64 (k.2.1 : Int), .int .i64 (k.2.2 : Int)]) (off := 2) (v := .int .i64 (k.2.2 : Int)) rfl
  have c0 := MapKept.run_checkKey (w := w) h0.int (k := .int .i64 (k.1 : Int)) (by simp [MapKept.IsKey]) e 9998
  have c1 := MapKept.run_checkKey (w := w) h1.int (k := .int .i64 (k.2.1 : Int)) (by simp [MapKept.IsKey]) e 9998
  have c2 := MapKept.run_checkKey (w := w) h2.int (k := .int .i64 (k.2.2 : Int)) (by simp [MapKept.IsKey]) e 9998
  simp only [List.forIn_cons, List.forIn_nil, h0.name, h1.name, h2.name, h0.offset, h1.offset, h2.offset, ne_eq, not_false_eq_true, if_true, Sem.run_bind, Sem.run_pure, p0, p1, p2, c0, c1, c2, Result.andThen_ok]
 find w k es kvs h := by
  rw [run_findKey_eq w (by rw [hu])]
  refine findAsking_kidx (fun a b => ?_) k es kvs 0 h
  obtain ⟨a1, a2, a3⟩ := a
  obtain ⟨b1, b2, b3⟩ := b
  unfold enc3
  simp only
  show (Op.equalIn (9998 + 1 + 1) kt _ _).run P w = _
  rw [Op.equalIn]
  simp only [Sem.run_bind, run_underlying hu, Result.andThen_ok]
  have p0 := run_part_plain w h0.plain (xs := #[.int .i64 (a1 : Int), .int .i64 (a2 : Int), .int .i64 (a3 : Int)]) (off := 0) (v := .int .i64 (a1 : Int)) rfl
  have p1 := run_part_plain w h1.plain (xs := #[.int .i64 (a1 : Int), .int .i64 (a2 : Int), .int .i64 (a3 : Int)]) (off := 1) (v := .int .i64 (a2 : Int)) rfl
  have p2 := run_part_plain w h2.plain (xs := #[.int .i64 (a1 : Int), .int .i64 (a2 : Int), .int .i64 (a3 : Int)]) (off := 2) (v := .int .i64 (a3 : Int)) rfl
  have q0 := run_part_plain w h0.plain (xs := #[.int .i64 (b1 : Int), .int .i64 (b2 : Int), .int .i64 (b3 : Int)]) (off := 0) (v := .int .i64 (b1 : Int)) rfl
  have q1 := run_part_plain w h1.plain (xs := #[.int .i64 (b1 : Int), .int .i64 (b2 : Int), .int .i64 (b3 : Int)]) (off := 1) (v := .int .i64 (b2 : Int)) rfl
  have q2 := run_part_plain w h2.plain (xs := #[.int .i64 (b1 : Int), .int .i64 (b2 : Int), .int .i64 (b3 : Int)]) (off := 2) (v := .int .i64 (b3 : Int)) rfl
  have e0 := run_equal_int h0.int 9998 (a1 : Int) (b1 : Int) w
  have e1 := run_equal_int h1.int 9998 (a2 : Int) (b2 : Int) w
  have e2 := run_equal_int h2.int 9998 (a3 : Int) (b3 : Int) w
  simp only [run_program, Sem.run_bind, Result.andThen_ok, hs, Bool.false_eq_true, if_false]
  rw [← Array.forIn_toList]
  simp only [List.forIn_cons, List.forIn_nil, h0.name, h1.name, h2.name, h0.offset, h1.offset, h2.offset, ne_eq, not_false_eq_true, if_true, Sem.run_bind, p0, q0, e0, Result.andThen_ok]
  cases c0 : ((a1 : Int) == (b1 : Int)) with
  | false =>
   have : ¬ ((b1, b2, b3) = (a1, a2, a3)) := by
    simp only [beq_eq_false_iff_ne, ne_eq] at c0
    simp only [Prod.mk.injEq]; omega
   simp [this]
  | true =>
   simp only [Bool.not_true, Bool.false_eq_true, if_false, Sem.run_bind, Sem.run_pure, Result.andThen_ok, p1, q1, e1]
   cases c1 : ((a2 : Int) == (b2 : Int)) with
   | false =>
    have : ¬ ((b1, b2, b3) = (a1, a2, a3)) := by
     simp only [beq_eq_false_iff_ne, ne_eq] at c1
     simp only [Prod.mk.injEq]; omega
    simp [this]
   | true =>
    simp only [Bool.not_true, Bool.false_eq_true, if_false, Sem.run_bind, Sem.run_pure, Result.andThen_ok, p2, q2, e2]
    cases c2 : ((a3 : Int) == (b3 : Int)) with
    | false =>
     have : ¬ ((b1, b2, b3) = (a1, a2, a3)) := by
      simp only [beq_eq_false_iff_ne, ne_eq] at c2
      simp only [Prod.mk.injEq]; omega
     simp [this]
    | true =>
     have : (b1, b2, b3) = (a1, a2, a3) := by
      simp only [beq_iff_eq] at c0 c1 c2
      simp only [Prod.mk.injEq]; omega
     simp [this]
 stays w k := by
  have : Instr.sameBits 10000 (enc3 k) (enc3 k) = true := by
   unfold enc3
   show Instr.sameBits (9999 + 1) _ _ = true
   simp [Instr.sameBits]
  simp [Instr.keyThatStays, this]
def threeB (P : Program) (kt : TypeId) : Bool := match P.underlying kt with
 | some (.struct fs) => (match fs with
  | ⟨[f0, f1, f2]⟩ => intFB P f0 0 && intFB P f1 1 && intFB P f2 2 && !P.stoodInHeld kt
  | _ => false)
 | _ => false
theorem KeyT.threeOf (h : threeB P kt = true) : KeyT P kt enc3 := by
 unfold threeB at h
 split at h
 ·rename_i fs hu
  split at h
  ·rename_i f0 f1 f2
   simp only [Bool.and_eq_true, Bool.not_eq_true'] at h
   exact KeyT.three hu (IntF.of h.1.1.1) (IntF.of h.1.1.2) (IntF.of h.1.2) h.2
  ·cases h
 ·cases h
theorem KeyT.two {e : TypeId} {i : TypeInfo} (hu : P.underlying kt = some (.array 2 e)) (he : P.underlying e = some (.int .i64)) (hp : P.plainKey e = true) (hi : P.info? e = some i) (hc : P.cellsOf e = 1) : KeyT P kt enc2 where
 check em w k := by
  unfold enc2
  show (Instr.checkKey em (9998 + 1 + 1) kt _).run P w = _
  rw [Instr.checkKey]
  have p0 := run_part_plain w hp (xs := #[.int .i64 (k.1 : Int), .int .i64 (k.2 : Int)]) (off := 0) (v := .int .i64 (k.1 : Int)) rfl
  have p1 := run_part_plain w hp (xs := #[.int .i64 (k.1 : Int), .int .i64 (k.2 : Int)]) (off := 1) (v := .int .i64 (k.2 : Int)) rfl
  simp only [Sem.run_bind, run_underlying hu, Result.andThen_ok]
  have hsz := Go.run_sizeOf w hi
  rw [hc] at hsz
  simp only [Std.Legacy.Range.forIn_eq_forIn_range', Std.Legacy.Range.size, Nat.sub_zero, Nat.add_one_sub_one, Nat.div_one]
  rw [show List.range' 0 2 = [0, 1] from rfl]
  have c0 := MapKept.run_checkKey (w := w) he (k := .int .i64 (k.1 : Int)) (by simp [MapKept.IsKey]) em 9998
  have c1 := MapKept.run_checkKey (w := w) he (k := .int .i64 (k.2 : Int)) (by simp [MapKept.IsKey]) em 9998
  simp only [List.forIn_cons, List.forIn_nil, Sem.run_bind, hsz, Result.andThen_ok, Nat.zero_mul, Nat.one_mul, p0, p1, c0, c1, Sem.run_pure]
 find w k es kvs h := by
  rw [run_findKey_eq w (by rw [hu])]
  refine findAsking_kidx (fun a b => ?_) k es kvs 0 h
  obtain ⟨a1, a2⟩ := a
  obtain ⟨b1, b2⟩ := b
  unfold enc2
  simp only
  show (Op.equalIn (9998 + 1 + 1) kt _ _).run P w = _
  have p0 := run_part_plain w hp (xs := #[.int .i64 (a1 : Int), .int .i64 (a2 : Int)]) (off := 0) (v := .int .i64 (a1 : Int)) rfl
  have p1 := run_part_plain w hp (xs := #[.int .i64 (a1 : Int), .int .i64 (a2 : Int)]) (off := 1) (v := .int .i64 (a2 : Int)) rfl
  have q0 := run_part_plain w hp (xs := #[.int .i64 (b1 : Int), .int .i64 (b2 : Int)]) (off := 0) (v := .int .i64 (b1 : Int)) rfl
  have q1 := run_part_plain w hp (xs := #[.int .i64 (b1 : Int), .int .i64 (b2 : Int)]) (off := 1) (v := .int .i64 (b2 : Int)) rfl
  have e0 := run_equal_int he 9998 (a1 : Int) (b1 : Int) w
  have e1 := run_equal_int he 9998 (a2 : Int) (b2 : Int) w
  rw [run_equalIn_array w _ _ _ hu hi, hc]
  show (Op.eqItems _ _ _ _ _ [0, 1]).run P w = _
  simp only [Op.eqItems, Sem.run_bind, Nat.zero_mul, Nat.one_mul, p0, p1, q0, q1, e0, e1, Result.andThen_ok]
  cases c0 : ((a1 : Int) == (b1 : Int)) with
  | false =>
   have : ¬ ((b1, b2) = (a1, a2)) := by
    simp only [beq_eq_false_iff_ne, ne_eq] at c0
    simp only [Prod.mk.injEq]; omega
   simp [this]
  | true =>
   simp only [Bool.not_true, Bool.false_eq_true, if_false, Sem.run_bind, Sem.run_pure, Result.andThen_ok, p1, q1, e1]
   cases c1 : ((a2 : Int) == (b2 : Int)) with
   | false =>
    have : ¬ ((b1, b2) = (a1, a2)) := by
     simp only [beq_eq_false_iff_ne, ne_eq] at c1
     simp only [Prod.mk.injEq]; omega
    simp [this]
   | true =>
    have : (b1, b2) = (a1, a2) := by
     simp only [beq_iff_eq] at c0 c1
     simp only [Prod.mk.injEq]; omega
    simp [this]
 stays w k := by
  have : Instr.sameBits 10000 (enc2 k) (enc2 k) = true := by
   unfold enc2
   show Instr.sameBits (9999 + 1) _ _ = true
   simp [Instr.sameBits]
  simp [Instr.keyThatStays, this]
def twoB (P : Program) (kt : TypeId) : Bool := match P.underlying kt with
 | some (.array 2 e) => P.plainKey e && P.cellsOf e == 1 && (match P.underlying e with | some (.int .i64) => true | _ => false) && (P.info? e).isSome
 | _ => false
theorem KeyT.twoOf (h : twoB P kt = true) : KeyT P kt enc2 := by
 unfold twoB at h
 split at h
 ·rename_i e hu
  simp only [Bool.and_eq_true, beq_iff_eq] at h
  have h2 := h.1.2
  split at h2
  ·rename_i he
   obtain ⟨i, hi⟩ := Option.isSome_iff_exists.1 h.2
   exact KeyT.two hu he h.1.1.1 hi h.1.1.2
  ·cases h2
 ·cases h
end
end Go.Eng
namespace Dg
theorem snocInd {α : Type} {motive : List α → Prop} (nil : motive []) (append_singleton : ∀ l x, motive l → motive (l ++ [x])) (l : List α) : motive l := by
 have h : ∀ m : List α, motive m.reverse := by
  intro m
  induction m with
  | nil => exact nil
  | cons x m ih => rw [List.reverse_cons]; exact append_singleton _ _ ih
 have := h l.reverse
 rwa [List.reverse_reverse] at this
inductive BT where
 | lf (b : Bool)
 | nd (v : Nat) (lo hi : BT)
def BT.beq : BT → BT → Bool
 | .lf a, .lf b => a == b
 | .nd v a b, .nd u c d => v == u && BT.beq a c && BT.beq b d
 | _, _ => false
theorem BT.beq_iff : ∀ {s t : BT}, BT.beq s t = true ↔ s = t
 | .lf a, .lf b => by simp [BT.beq]
 | .nd v a b, .nd u c d => by
  simp only [BT.beq, Bool.and_eq_true, BT.beq_iff (s := a), BT.beq_iff (s := b), beq_iff_eq, BT.nd.injEq, and_assoc]
 | .lf a, .nd u c d => by simp [BT.beq]
 | .nd v a b, .lf c => by simp [BT.beq]
theorem BT.beq_self (t : BT) : BT.beq t t = true := BT.beq_iff.2 rfl
abbrev Cf := Nat → Bool
def BT.ev : BT → Cf → Bool
 | .lf b, _ => b
 | .nd v lo hi, c => bif c v then hi.ev c else lo.ev c
def BT.ok : Nat → BT → Prop
 | _, .lf _ => True
 | m, .nd v lo hi => m ≤ v ∧ v < 24 ∧ lo ≠ hi ∧ lo.ok (v + 1) ∧ hi.ok (v + 1)
theorem BT.ok_mono : ∀ {t : BT} {m n : Nat}, t.ok n → m ≤ n → t.ok m
 | .lf _, _, _, _, _ => trivial
 | .nd v lo hi, m, n, h, hm => ⟨Nat.le_trans hm h.1, h.2⟩
def BT.size : BT → Nat
 | .lf _ => 0
 | .nd _ lo hi => lo.size + hi.size + 1
theorem BT.size_le : ∀ {t : BT} {m : Nat}, t.ok m → m ≤ 24 → t.size + 1 ≤ 2 ^ (24 - m)
 | .lf _, m, _, _ => Nat.one_le_two_pow
 | .nd v lo hi, m, h, hm => by
  obtain ⟨h1, h2, _, h4, h5⟩ := h
  have a := BT.size_le h4 (by omega)
  have b := BT.size_le h5 (by omega)
  have e : 2 ^ (24 - v) = 2 ^ (24 - (v + 1)) + 2 ^ (24 - (v + 1)) := by
   rw [show 24 - v = (24 - (v + 1)) + 1 by omega, Nat.pow_succ]; omega
  have l : 2 ^ (24 - v) ≤ 2 ^ (24 - m) := Nat.pow_le_pow_right (by decide) (by omega)
  simp only [BT.size]; omega
theorem BT.ev_above : ∀ {t : BT} {m : Nat} {c d : Cf}, t.ok m → (∀ i, m ≤ i → i < 24 → c i = d i) → t.ev c = t.ev d
 | .lf _, _, _, _, _, _ => rfl
 | .nd v lo hi, m, c, d, h, he => by
  obtain ⟨h1, h2, _, h4, h5⟩ := h
  have a := BT.ev_above h4 (fun i hi h24 => he i (by omega) h24)
  have b := BT.ev_above h5 (fun i hi h24 => he i (by omega) h24)
  simp only [BT.ev, he v h1 h2, a, b]
def upd (c : Cf) (v : Nat) (b : Bool) : Cf := fun i => if i = v then b else c i
theorem upd_self (c : Cf) (v : Nat) (b : Bool) : upd c v b v = b := if_pos rfl
theorem upd_ne (c : Cf) {v i : Nat} (b : Bool) (h : i ≠ v) : upd c v b i = c i := if_neg h
theorem BT.ev_upd {t : BT} {m v : Nat} (h : t.ok m) (hv : v < m) (c : Cf) (b : Bool) : t.ev (upd c v b) = t.ev c :=
 BT.ev_above h (fun i hi _ => upd_ne _ _ (by omega))
theorem BT.ev_lo {v : Nat} {lo hi : BT} {m : Nat} (h : (BT.nd v lo hi).ok m) (c : Cf) : (BT.nd v lo hi).ev (upd c v false) = lo.ev c := by
 simp only [BT.ev, upd_self, cond_false]
 exact BT.ev_upd h.2.2.2.1 (Nat.lt_succ_self _) c false
theorem BT.ev_hi {v : Nat} {lo hi : BT} {m : Nat} (h : (BT.nd v lo hi).ok m) (c : Cf) : (BT.nd v lo hi).ev (upd c v true) = hi.ev c := by
 simp only [BT.ev, upd_self, cond_true]
 exact BT.ev_upd h.2.2.2.2 (Nat.lt_succ_self _) c true
theorem BT.unique : ∀ {s t : BT} {m n : Nat}, s.ok m → t.ok n → (∀ c, s.ev c = t.ev c) → s = t
 | .lf a, .lf b, _, _, _, _, he => by have := he (fun _ => false); simp only [BT.ev] at this; rw [this]
 | .lf a, .nd u c d, m, n, hs, ht, he => by
  refine absurd ?_ ht.2.2.1
  refine BT.unique ht.2.2.2.1 ht.2.2.2.2 (fun x => ?_)
  rw [← BT.ev_lo ht x, ← BT.ev_hi ht x, ← he, ← he]; rfl
 | .nd u c d, .lf a, m, n, hs, ht, he => by
  refine absurd ?_ hs.2.2.1
  refine BT.unique hs.2.2.2.1 hs.2.2.2.2 (fun x => ?_)
  rw [← BT.ev_lo hs x, ← BT.ev_hi hs x, he, he]; rfl
 | .nd v a b, .nd u c d, m, n, hs, ht, he => by
  rcases Nat.lt_trichotomy v u with h | h | h
  ·refine absurd ?_ hs.2.2.1
   refine BT.unique hs.2.2.2.1 hs.2.2.2.2 (fun x => ?_)
   have ht' : (BT.nd u c d).ok (v + 1) := BT.ok_mono (m := v + 1) (n := u) ⟨Nat.le_refl _, ht.2⟩ h
   rw [← BT.ev_lo hs x, ← BT.ev_hi hs x, he, he, BT.ev_upd ht' (Nat.lt_succ_self _), BT.ev_upd ht' (Nat.lt_succ_self _)]
  ·subst h
   have h1 : a = c := BT.unique hs.2.2.2.1 ht.2.2.2.1 (fun x => by rw [← BT.ev_lo hs x, ← BT.ev_lo ht x, he])
   have h2 : b = d := BT.unique hs.2.2.2.2 ht.2.2.2.2 (fun x => by rw [← BT.ev_hi hs x, ← BT.ev_hi ht x, he])
   rw [h1, h2]
  ·refine absurd ?_ ht.2.2.1
   refine BT.unique ht.2.2.2.1 ht.2.2.2.2 (fun x => ?_)
   have hs' : (BT.nd v a b).ok (u + 1) := BT.ok_mono (m := u + 1) (n := v) ⟨Nat.le_refl _, hs.2⟩ h
   rw [← BT.ev_lo ht x, ← BT.ev_hi ht x, ← he, ← he, BT.ev_upd hs' (Nat.lt_succ_self _), BT.ev_upd hs' (Nat.lt_succ_self _)]
termination_by s t => s.size + t.size
decreasing_by all_goals simp only [BT.size]; omega
def mkN (v : Nat) (a b : BT) : BT := bif BT.beq a b then a else .nd v a b
theorem mkN_same (v : Nat) (a : BT) : mkN v a a = a := by simp [mkN, BT.beq_self]
theorem mkN_ne {v : Nat} {a b : BT} (h : a ≠ b) : mkN v a b = .nd v a b := by
 have : BT.beq a b = false := by
  cases hb : BT.beq a b with
  | true => exact absurd (BT.beq_iff.1 hb) h
  | false => rfl
 simp [mkN, this]
theorem mkN_ok {v m : Nat} {a b : BT} (hm : m ≤ v) (hv : v < 24) (ha : a.ok (v + 1)) (hb : b.ok (v + 1)) : (mkN v a b).ok m := by
 by_cases h : a = b
 ·subst h; rw [mkN_same]; exact BT.ok_mono ha (by omega)
 ·rw [mkN_ne h]; exact ⟨hm, hv, h, ha, hb⟩
theorem mkN_ev (v : Nat) (a b : BT) (c : Cf) : (mkN v a b).ev c = bif c v then b.ev c else a.ev c := by
 by_cases h : a = b
 ·subst h; rw [mkN_same]; cases c v <;> rfl
 ·rw [mkN_ne h]; rfl
abbrev Dec := Nat × Nat × Nat
theorem getD_left {α : Type} {a b : List α} {d : α} {n : Nat} (h : n < a.length) : (a ++ b).getD n d = a.getD n d := by
 simp [List.getD, List.getElem?_append_left h]
theorem getD_right {α : Type} {a b : List α} {d : α} {n : Nat} (h : a.length ≤ n) : (a ++ b).getD n d = b.getD (n - a.length) d := by
 simp [List.getD, List.getElem?_append_right h]
def tabT (l : List Dec) : List BT := l.foldl (fun out x => out ++ [.nd x.1 (out.getD x.2.1 (.lf false)) (out.getD x.2.2 (.lf false))]) [.lf false, .lf true]
def trs (l : List Dec) (p : Nat) : BT := (tabT l).getD p (.lf false)
theorem tabT_snoc (l : List Dec) (x : Dec) : tabT (l ++ [x]) = tabT l ++ [.nd x.1 (trs l x.2.1) (trs l x.2.2)] := by
 simp only [tabT, trs, List.foldl_append, List.foldl_cons, List.foldl_nil]
theorem tabT_len : ∀ l : List Dec, (tabT l).length = l.length + 2 := by
 intro l
 induction l using snocInd with
 | nil => rfl
 | append_singleton l x ih => rw [tabT_snoc, List.length_append, ih]; simp
theorem trs_zero (l : List Dec) : trs l 0 = .lf false ∧ trs l 1 = .lf true := by
 induction l using snocInd with
 | nil => exact ⟨rfl, rfl⟩
 | append_singleton l x ih =>
  have := tabT_len l
  unfold trs at ih ⊢
  rw [tabT_snoc, getD_left (by omega), getD_left (by omega)]
  exact ih
theorem trs_snoc_old {l : List Dec} {x : Dec} {p : Nat} (h : p < l.length + 2) : trs (l ++ [x]) p = trs l p := by
 unfold trs; rw [tabT_snoc, getD_left (by rw [tabT_len]; exact h)]
theorem trs_snoc_new (l : List Dec) (x : Dec) : trs (l ++ [x]) (l.length + 2) = .nd x.1 (trs l x.2.1) (trs l x.2.2) := by
 conv => lhs; unfold trs
 rw [tabT_snoc, getD_right (by rw [tabT_len]; exact Nat.le_refl _), tabT_len]
 simp
theorem trs_append {l m : List Dec} {p : Nat} (h : p < l.length + 2) : trs (l ++ m) p = trs l p := by
 induction m using snocInd with
 | nil => rw [List.append_nil]
 | append_singleton m x ih => rw [← List.append_assoc, trs_snoc_old (by rw [List.length_append]; omega), ih]
structure Mk (l : List Dec) : Prop where
 kid : ∀ k x, l[k]? = some x → x.1 < 24 ∧ x.2.1 < k + 2 ∧ x.2.2 < k + 2 ∧ x.2.1 ≠ x.2.2
 nodup : l.Nodup
theorem Mk.nil : Mk [] := ⟨by simp, List.nodup_nil⟩
theorem Mk.init {l : List Dec} {x : Dec} (h : Mk (l ++ [x])) : Mk l :=
 ⟨fun k y hy => h.kid k y (by rw [List.getElem?_append_left (List.getElem?_eq_some_iff.1 hy).1]; exact hy), (List.nodup_append.1 h.nodup).1⟩
theorem Mk.last {l : List Dec} {x : Dec} (h : Mk (l ++ [x])) : x.1 < 24 ∧ x.2.1 < l.length + 2 ∧ x.2.2 < l.length + 2 ∧ x.2.1 ≠ x.2.2 := h.kid l.length x (by simp)
theorem Mk.snoc {l : List Dec} {x : Dec} (h : Mk l) (hx : x.1 < 24 ∧ x.2.1 < l.length + 2 ∧ x.2.2 < l.length + 2 ∧ x.2.1 ≠ x.2.2) (hn : x ∉ l) : Mk (l ++ [x]) := by
 refine ⟨fun k y hy => ?_, List.nodup_append.2 ⟨h.nodup, by simp, fun a ha b hb => ?_⟩⟩
 ·by_cases hk : k < l.length
  ·rw [List.getElem?_append_left hk] at hy; exact h.kid k y hy
  ·have hlt := (List.getElem?_eq_some_iff.1 hy).1
   simp at hlt
   have e : k = l.length := by omega
   subst e
   simp at hy
   subst hy; exact hx
 ·simp only [List.mem_singleton] at hb
  subst hb
  exact fun e => hn (e ▸ ha)
theorem Mk.at {l : List Dec} : Mk l → ∀ {k : Nat} {x : Dec}, l[k]? = some x → trs l (k + 2) = .nd x.1 (trs l x.2.1) (trs l x.2.2) := by
 induction l using snocInd with
 | nil => intro _ k x h; simp at h
 | append_singleton l y ih =>
  intro h k x hx
  by_cases hk : k < l.length
  ·rw [List.getElem?_append_left hk] at hx
   have hb := h.init.kid k x hx
   rw [trs_snoc_old (by omega), trs_snoc_old (by omega), trs_snoc_old (by omega)]
   exact ih h.init hx
  ·have hlt := (List.getElem?_eq_some_iff.1 hx).1
   simp at hlt
   have e : k = l.length := by omega
   subst e
   simp at hx
   subst hx
   have hb := h.last
   rw [trs_snoc_new, trs_snoc_old hb.2.1, trs_snoc_old hb.2.2.1]
theorem Mk.lf {l : List Dec} (h : Mk l) {p : Nat} {b : Bool} (hp : p < l.length + 2) (he : trs l p = .lf b) : p < 2 := by
 rcases Nat.lt_or_ge p 2 with h2 | h2
 ·exact h2
 ·obtain ⟨k, rfl⟩ : ∃ k, p = k + 2 := ⟨p - 2, by omega⟩
  have hk : k < l.length := by omega
  rw [h.at (List.getElem?_eq_getElem hk)] at he
  cases he
theorem Mk.inj {l : List Dec} : Mk l → ∀ {p q : Nat}, p < l.length + 2 → q < l.length + 2 → trs l p = trs l q → p = q := by
 induction l using snocInd with
 | nil =>
  intro _ p q hp hq he
  simp at hp hq
  have h0 := (trs_zero ([] : List Dec)).1
  have h1 := (trs_zero ([] : List Dec)).2
  rcases p with _ | _ | p <;> rcases q with _ | _ | q <;> first | rfl | omega | skip
  ·rw [h0, h1] at he; simp at he
  ·rw [h0, h1] at he; simp at he
 | append_singleton l y ih =>
  intro h p q hp hq he
  have hlast := h.last
  have key : ∀ p, p < l.length + 2 → trs (l ++ [y]) p ≠ trs (l ++ [y]) (l.length + 2) := by
   intro p hp he
   rw [trs_snoc_old hp, trs_snoc_new] at he
   rcases Nat.lt_or_ge p 2 with h2 | h2
   ·rcases p with _ | _ | p
    ·rw [(trs_zero l).1] at he; cases he
    ·rw [(trs_zero l).2] at he; cases he
    ·omega
   ·obtain ⟨k, rfl⟩ : ∃ k, p = k + 2 := ⟨p - 2, by omega⟩
    have hk : k < l.length := by omega
    have hx := List.getElem?_eq_getElem hk
    have hb := h.init.kid k _ hx
    rw [h.init.at hx] at he
    simp only [BT.nd.injEq] at he
    obtain ⟨e1, e2, e3⟩ := he
    have e2' := ih h.init (by omega) (by omega) e2
    have e3' := ih h.init (by omega) (by omega) e3
    have e : l[k] = y := Prod.ext e1 (Prod.ext e2' e3')
    have := (List.nodup_append.1 h.nodup).2.2 l[k] (List.getElem_mem hk) y (by simp)
    exact this e
  simp only [List.length_append, List.length_cons, List.length_nil] at hp hq
  rcases Nat.lt_or_ge p (l.length + 2) with hp' | hp' <;> rcases Nat.lt_or_ge q (l.length + 2) with hq' | hq'
  ·rw [trs_snoc_old hp', trs_snoc_old hq'] at he
   exact ih h.init hp' hq' he
  ·have e : q = l.length + 2 := by omega
   subst e
   exact absurd he (key p hp')
  ·have e : p = l.length + 2 := by omega
   subst e
   exact absurd he.symm (key q hq')
  ·omega
def look (out : List Dec) (t : BT) : Option Nat := (List.range (out.length + 2)).find? fun p => BT.beq (trs out p) t
theorem look_some {out : List Dec} {t : BT} {p : Nat} (h : look out t = some p) : p < out.length + 2 ∧ trs out p = t := by
 unfold look at h
 have h1 := List.mem_of_find?_eq_some h
 have h2 := List.find?_some h
 exact ⟨List.mem_range.1 h1, BT.beq_iff.1 h2⟩
theorem look_none {out : List Dec} {t : BT} (h : look out t = none) : ∀ p, p < out.length + 2 → trs out p ≠ t := by
 unfold look at h
 intro p hp he
 have := List.find?_eq_none.1 h p (List.mem_range.2 hp)
 simp [he, BT.beq_self] at this
theorem look_eq {out : List Dec} (hm : Mk out) {t : BT} {p : Nat} (hp : p < out.length + 2) (he : trs out p = t) : look out t = some p := by
 cases h : look out t with
 | none => exact absurd he (look_none h p hp)
 | some q =>
  obtain ⟨h1, h2⟩ := look_some h
  rw [hm.inj h1 hp (h2.trans he.symm)]
def visitT : BT → List Dec → List Dec × Nat
 | .lf b, out => (out, bif b then 1 else 0)
 | .nd v lo hi, out => match look out (.nd v lo hi) with
  | some p => (out, p)
  | none => ((visitT hi (visitT lo out).1).1 ++ [(v, (visitT lo out).2, (visitT hi (visitT lo out).1).2)], (visitT hi (visitT lo out).1).1.length + 2)
def canon (t : BT) : List Dec × Nat := visitT t []
theorem visitT_pre : ∀ (t : BT) (out : List Dec), ∃ r, (visitT t out).1 = out ++ r
 | .lf b, out => ⟨[], by simp [visitT]⟩
 | .nd v lo hi, out => by
  unfold visitT
  cases look out (.nd v lo hi) with
  | some p => exact ⟨[], by simp⟩
  | none =>
   obtain ⟨r1, h1⟩ := visitT_pre lo out
   obtain ⟨r2, h2⟩ := visitT_pre hi (visitT lo out).1
   exact ⟨r1 ++ r2 ++ [(v, (visitT lo out).2, (visitT hi (visitT lo out).1).2)], by simp only; rw [h2, h1]; simp⟩
theorem visitT_len (t : BT) (out : List Dec) : out.length ≤ (visitT t out).1.length := by
 obtain ⟨r, h⟩ := visitT_pre t out
 rw [h]; simp
theorem visitT_at : ∀ (t : BT) (out : List Dec), (visitT t out).2 < (visitT t out).1.length + 2 ∧ trs (visitT t out).1 (visitT t out).2 = t
 | .lf b, out => by
  cases b with
  | false => exact ⟨by simp [visitT], (trs_zero out).1⟩
  | true => exact ⟨by simp [visitT], (trs_zero out).2⟩
 | .nd v lo hi, out => by
  unfold visitT
  cases h : look out (.nd v lo hi) with
  | some p => exact look_some h
  | none =>
   obtain ⟨a1, a2⟩ := visitT_at lo out
   obtain ⟨b1, b2⟩ := visitT_at hi (visitT lo out).1
   obtain ⟨r, hr⟩ := visitT_pre hi (visitT lo out).1
   refine ⟨by simp, ?_⟩
   simp only
   rw [trs_snoc_new, b2]
   rw [hr, trs_append a1, a2]
theorem visitT_new : ∀ (t : BT) (out : List Dec) (p : Nat), p < (visitT t out).1.length + 2 → p < out.length + 2 ∨ (trs (visitT t out).1 p).size ≤ t.size
 | .lf b, out, p, h => .inl h
 | .nd v lo hi, out, p, h => by
  unfold visitT at h ⊢
  cases hl : look out (.nd v lo hi) with
  | some q => rw [hl] at h; exact .inl h
  | none =>
   rw [hl] at h
   simp only [List.length_append, List.length_cons, List.length_nil] at h ⊢
   by_cases hp : p = (visitT hi (visitT lo out).1).1.length + 2
   ·right
    subst hp
    obtain ⟨a1, a2⟩ := visitT_at lo out
    obtain ⟨b1, b2⟩ := visitT_at hi (visitT lo out).1
    obtain ⟨r, hr⟩ := visitT_pre hi (visitT lo out).1
    rw [trs_snoc_new, b2]
    have : trs (visitT hi (visitT lo out).1).1 (visitT lo out).2 = lo := by rw [hr, trs_append a1, a2]
    simp only [this]
    exact Nat.le_refl _
   ·have hp' : p < (visitT hi (visitT lo out).1).1.length + 2 := by omega
    rw [trs_snoc_old hp']
    rcases visitT_new hi (visitT lo out).1 p hp' with h2 | h2
    ·rcases visitT_new lo out p h2 with h3 | h3
     ·exact .inl h3
     ·obtain ⟨r, hr⟩ := visitT_pre hi (visitT lo out).1
      rw [hr, trs_append h2]
      right; simp only [BT.size]; omega
    ·right; simp only [BT.size]; omega
theorem visitT_fresh {v : Nat} {lo hi : BT} {out : List Dec} (h : look out (.nd v lo hi) = none) : ∀ p, p < (visitT hi (visitT lo out).1).1.length + 2 → trs (visitT hi (visitT lo out).1).1 p ≠ .nd v lo hi := by
 intro p hp he
 rcases visitT_new hi (visitT lo out).1 p hp with h2 | h2
 ·rcases visitT_new lo out p h2 with h3 | h3
  ·obtain ⟨r1, h1⟩ := visitT_pre lo out
   obtain ⟨r2, h4⟩ := visitT_pre hi (visitT lo out).1
   rw [h4, trs_append h2, h1, trs_append h3] at he
   exact look_none h p h3 he
  ·obtain ⟨r, hr⟩ := visitT_pre hi (visitT lo out).1
   rw [hr, trs_append h2] at he
   rw [he] at h3
   simp only [BT.size] at h3; omega
 ·rw [he] at h2
  simp only [BT.size] at h2; omega
theorem visitT_mk : ∀ {t : BT} {m : Nat} {out : List Dec}, t.ok m → Mk out → Mk (visitT t out).1
 | .lf b, _, out, _, h => h
 | .nd v lo hi, m, out, ht, h => by
  unfold visitT
  cases hl : look out (.nd v lo hi) with
  | some q => exact h
  | none =>
   have h1 := visitT_mk ht.2.2.2.1 h
   have h2 := visitT_mk ht.2.2.2.2 h1
   obtain ⟨a1, a2⟩ := visitT_at lo out
   obtain ⟨b1, b2⟩ := visitT_at hi (visitT lo out).1
   obtain ⟨r, hr⟩ := visitT_pre hi (visitT lo out).1
   have a2' : trs (visitT hi (visitT lo out).1).1 (visitT lo out).2 = lo := by rw [hr, trs_append a1, a2]
   have a1' : (visitT lo out).2 < (visitT hi (visitT lo out).1).1.length + 2 := Nat.lt_of_lt_of_le a1 (by have := visitT_len hi (visitT lo out).1; omega)
   refine h2.snoc ⟨ht.2.1, a1', b1, fun e => ?_⟩ (fun hm => ?_)
   ·simp only at e
    rw [e, b2] at a2'
    exact ht.2.2.1 a2'.symm
   ·obtain ⟨k, hk⟩ := List.getElem?_of_mem hm
    have := h2.at hk
    simp only at this
    rw [a2', b2] at this
    have hlt := (List.getElem?_eq_some_iff.1 hk).1
    exact visitT_fresh hl (k + 2) (by omega) this
theorem visitT_grow : ∀ (t : BT) (out : List Dec), (visitT t out).1.length ≤ out.length + t.size
 | .lf b, out => Nat.le_refl _
 | .nd v lo hi, out => by
  unfold visitT
  cases look out (.nd v lo hi) with
  | some q => simp
  | none =>
   have h1 := visitT_grow lo out
   have h2 := visitT_grow hi (visitT lo out).1
   simp only [List.length_append, List.length_cons, List.length_nil, BT.size]; omega
theorem canon_mk {t : BT} {m : Nat} (h : t.ok m) : Mk (canon t).1 := visitT_mk h Mk.nil
theorem canon_at (t : BT) : (canon t).2 < (canon t).1.length + 2 ∧ trs (canon t).1 (canon t).2 = t := visitT_at t []
theorem canon_len {t : BT} (h : t.ok 0) : (canon t).1.length < 16777216 := by
 have h1 := visitT_grow t []
 have h2 := BT.size_le h (by decide)
 have h3 : (canon t).1.length ≤ t.size := by simpa [canon] using h1
 have : (2 : Nat) ^ (24 - 0) = 16777216 := by decide
 omega
theorem canon_lf {t : BT} (h : t.ok 0) (b : Bool) : (canon t).2 = (bif b then 1 else 0) ↔ t = .lf b := by
 constructor
 ·intro e
  rw [← (canon_at t).2, e]
  cases b
  ·exact (trs_zero _).1
  ·exact (trs_zero _).2
 ·rintro rfl; rfl
end Dg
namespace Dg
def KnowsL (l : List Dec) (f : Dec → Option Nat) : Prop := ∀ x p, f x = some p ↔ ∃ k, p = k + 2 ∧ l[k]? = some x
theorem KnowsL.nil : KnowsL [] (fun _ => none) := fun x p => by simp
theorem KnowsL.snoc {l : List Dec} {f : Dec → Option Nat} (h : KnowsL l f) (x : Dec) (hx : f x = none) : KnowsL (l ++ [x]) (fun y => if y = x then some (l.length + 2) else f y) := by
 intro y p
 by_cases he : y = x
 ·subst he
  simp only [if_pos]
  constructor
  ·intro e
   cases e
   exact ⟨l.length, rfl, by simp⟩
  ·rintro ⟨k, rfl, hk⟩
   by_cases hl : k < l.length
   ·rw [List.getElem?_append_left hl] at hk
    have := (h y (k + 2)).2 ⟨k, rfl, hk⟩
    rw [hx] at this; cases this
   ·have := (List.getElem?_eq_some_iff.1 hk).1
    simp at this
    have e : k = l.length := by omega
    rw [e]
 ·simp only [if_neg he]
  rw [h y p]
  constructor
  ·rintro ⟨k, rfl, hk⟩
   exact ⟨k, rfl, by rw [List.getElem?_append_left (List.getElem?_eq_some_iff.1 hk).1]; exact hk⟩
  ·rintro ⟨k, rfl, hk⟩
   by_cases hl : k < l.length
   ·exact ⟨k, rfl, by rw [List.getElem?_append_left hl] at hk; exact hk⟩
   ·have := (List.getElem?_eq_some_iff.1 hk).1
    simp at this
    have e : k = l.length := by omega
    subst e
    simp at hk
    exact absurd hk.symm he
structure MadeN (l l' : List Dec) (p : Nat) (t : BT) : Prop where
 ismk : Mk l'
 pre : ∃ r, l' = l ++ r
 lt : p < l'.length + 2
 tree : trs l' p = t
theorem MadeN.len {l l' : List Dec} {p : Nat} {t : BT} (h : MadeN l l' p t) : l.length ≤ l'.length := by
 obtain ⟨r, e⟩ := h.pre
 rw [e]; simp
theorem MadeN.old {l l' : List Dec} {p q : Nat} {t : BT} (h : MadeN l l' p t) (hq : q < l.length + 2) : trs l' q = trs l q := by
 obtain ⟨r, e⟩ := h.pre
 rw [e, trs_append hq]
theorem MadeN.same {l : List Dec} (h : Mk l) {i p : Nat} (hp : p < l.length + 2) : MadeN l l p (mkN i (trs l p) (trs l p)) :=
 ⟨h, ⟨[], by simp⟩, hp, by rw [mkN_same]⟩
theorem MadeN.known {l : List Dec} {f : Dec → Option Nat} (h : Mk l) (hf : KnowsL l f) {i lo hi p : Nat} (hne : lo ≠ hi) (hlo : lo < l.length + 2) (hhi : hi < l.length + 2) (hp : f (i, lo, hi) = some p) : MadeN l l p (mkN i (trs l lo) (trs l hi)) := by
 obtain ⟨k, rfl, hk⟩ := (hf _ _).1 hp
 have hlt := (List.getElem?_eq_some_iff.1 hk).1
 refine ⟨h, ⟨[], by simp⟩, by omega, ?_⟩
 rw [h.at hk, mkN_ne (fun e => hne (h.inj hlo hhi e))]
theorem MadeN.new {l : List Dec} {f : Dec → Option Nat} (h : Mk l) (hf : KnowsL l f) {i lo hi : Nat} (hi24 : i < 24) (hne : lo ≠ hi) (hlo : lo < l.length + 2) (hhi : hi < l.length + 2) (hp : f (i, lo, hi) = none) : MadeN l (l ++ [(i, lo, hi)]) (l.length + 2) (mkN i (trs l lo) (trs l hi)) := by
 have hn : (i, lo, hi) ∉ l := by
  intro hm
  obtain ⟨k, hk⟩ := List.getElem?_of_mem hm
  have := (hf _ _).2 ⟨k, rfl, hk⟩
  rw [hp] at this; cases this
 refine ⟨h.snoc ⟨hi24, hlo, hhi, hne⟩ hn, ⟨_, rfl⟩, by simp, ?_⟩
 rw [trs_snoc_new, mkN_ne (fun e => hne (h.inj hlo hhi e))]
theorem MadeN.trans {l l' l'' : List Dec} {p q : Nat} {s t : BT} (h : MadeN l l' p s) (h' : MadeN l' l'' q t) : MadeN l l'' q t := by
 obtain ⟨r, e⟩ := h.pre
 obtain ⟨r', e'⟩ := h'.pre
 exact ⟨h'.ismk, ⟨r ++ r', by rw [e', e, List.append_assoc]⟩, h'.lt, h'.tree⟩
def PlaceOk (l o : List Dec) (f : Nat → Option Nat) : Prop := ∀ r p, r < l.length + 2 → (f r = some p ↔ p < o.length + 2 ∧ trs o p = trs l r)
theorem PlaceOk.nil {l : List Dec} (h : Mk l) : PlaceOk l [] (fun r => if r = 1 then some 1 else if r = 0 then some 0 else none) := by
 intro r p hr
 have z := trs_zero ([] : List Dec)
 have z' := trs_zero l
 by_cases h1 : r = 1
 ·subst h1
  simp only [if_pos, z'.2, List.length_nil]
  constructor
  ·intro e; cases e; exact ⟨by omega, z.2⟩
  ·rintro ⟨hp, e⟩
   have : p = 1 := by
    rcases p with _ | _ | p
    ·rw [z.1] at e; cases e
    ·rfl
    ·omega
   rw [this]
 ·by_cases h0 : r = 0
  ·subst h0
   simp only [if_pos, if_neg h1, z'.1, List.length_nil]
   constructor
   ·intro e; cases e; exact ⟨by omega, z.1⟩
   ·rintro ⟨hp, e⟩
    have : p = 0 := by
     rcases p with _ | _ | p
     ·rfl
     ·rw [z.2] at e; cases e
     ·omega
    rw [this]
  ·simp only [if_neg h1, if_neg h0]
   constructor
   ·intro e; cases e
   ·rintro ⟨hp, e⟩
    exfalso
    simp only [List.length_nil] at hp
    rcases p with _ | _ | p
    ·rw [z.1] at e; have := h.lf hr e.symm; omega
    ·rw [z.2] at e; have := h.lf hr e.symm; omega
    ·omega
theorem PlaceOk.hit {l o : List Dec} {f : Nat → Option Nat} (hm : Mk o) (h : PlaceOk l o f) {r p : Nat} (hr : r < l.length + 2) (hp : f r = some p) : visitT (trs l r) o = (o, p) := by
 obtain ⟨h1, h2⟩ := (h r p hr).1 hp
 cases ht : trs l r with
 | lf b =>
  rw [ht] at h2
  have h3 := hm.lf h1 h2
  have z := trs_zero o
  cases b with
  | false =>
   rcases p with _ | _ | p
   ·rfl
   ·rw [z.2] at h2; cases h2
   ·omega
  | true =>
   rcases p with _ | _ | p
   ·rw [z.1] at h2; cases h2
   ·rfl
   ·omega
 | nd v lo hi =>
  rw [ht] at h2
  unfold visitT
  rw [look_eq hm h1 h2]
theorem PlaceOk.miss {l o : List Dec} {f : Nat → Option Nat} (hl : Mk l) (h : PlaceOk l o f) {r : Nat} (hr : r < l.length + 2) (hp : f r = none) :
  ∃ x, 2 ≤ r ∧ l[r - 2]? = some x ∧ x.2.1 < r ∧ x.2.2 < r ∧ x.1 < 24 ∧ trs l r = .nd x.1 (trs l x.2.1) (trs l x.2.2) ∧ look o (trs l r) = none := by
 have hlook : look o (trs l r) = none := by
  cases hk : look o (trs l r) with
  | none => rfl
  | some p =>
   have := (h r p hr).2 (look_some hk)
   rw [hp] at this; cases this
 have h2 : 2 ≤ r := by
  rcases Nat.lt_or_ge r 2 with h2 | h2
  ·exfalso
   rcases r with _ | _ | r
   ·have := (h 0 0 hr).2 ⟨by omega, by rw [(trs_zero o).1, (trs_zero l).1]⟩
    rw [hp] at this; cases this
   ·have := (h 1 1 hr).2 ⟨by omega, by rw [(trs_zero o).2, (trs_zero l).2]⟩
    rw [hp] at this; cases this
   ·omega
  ·exact h2
 obtain ⟨k, rfl⟩ : ∃ k, r = k + 2 := ⟨r - 2, by omega⟩
 have hk : k < l.length := by omega
 have hx := List.getElem?_eq_getElem hk
 have hb := hl.kid k _ hx
 exact ⟨l[k], h2, hx, hb.2.1, hb.2.2.1, hb.1, hl.at hx, hlook⟩
theorem PlaceOk.step {l o o2 : List Dec} {f2 : Nat → Option Nat} {r v p1 p2 : Nat} {lo hi : BT} (hl : Mk l) (hr : r < l.length + 2) (ht : trs l r = .nd v lo hi) (hlook : look o (.nd v lo hi) = none)
  (ho2 : o2 = (visitT hi (visitT lo o).1).1) (h2 : PlaceOk l o2 f2) (h : trs (o2 ++ [(v, p1, p2)]) (o2.length + 2) = .nd v lo hi) :
  PlaceOk l (o2 ++ [(v, p1, p2)]) (fun q => if q = r then some (o2.length + 2) else f2 q) := by
 have hfresh := visitT_fresh hlook
 rw [← ho2] at hfresh
 intro q p hq
 by_cases hqr : q = r
 ·subst hqr
  simp only [if_pos]
  constructor
  ·intro e; cases e; exact ⟨by simp, by rw [h, ht]⟩
  ·rintro ⟨hp, e⟩
   rw [List.length_append, List.length_singleton] at hp
   by_cases hlt : p < o2.length + 2
   ·rw [trs_snoc_old hlt, ht] at e
    exact absurd e (hfresh p hlt)
   ·rw [show p = o2.length + 2 by omega]
 ·simp only [if_neg hqr]
  rw [h2 q p hq]
  constructor
  ·rintro ⟨hp, e⟩
   exact ⟨by rw [List.length_append, List.length_singleton]; omega, by rw [trs_snoc_old hp, e]⟩
  ·rintro ⟨hp, e⟩
   rw [List.length_append, List.length_singleton] at hp
   by_cases hlt : p < o2.length + 2
   ·rw [trs_snoc_old hlt] at e
    exact ⟨hlt, e⟩
   ·have hpe : p = o2.length + 2 := by omega
    rw [hpe, h, ← ht] at e
    exact absurd (hl.inj hr hq e).symm hqr
end Dg
namespace Go.Eng
open Go Go.RowKit
section
variable {P : Program} {w0 : World} {O : List Nat} {ops : Array Oper} {Q : Exit → Act → World → Prop} {N : Nat} {D : List Deferred} {L : FL} {C : List Chunk} {K : Act → World → Prop}
theorem WA.openB {F : List Nat} {α : Type} {Cs : α → List Chunk} {φ : α → Prop} (h : ∀ x, φ x → (∀ c ∈ Cs x, ∀ k, c.fp k → k ∈ F) → (∀ k ∈ F, ∃ c ∈ Cs x, c.fp k) → WA w0 O K N D L (Cs x ++ C)) : WA w0 O K N D L (bun F Cs φ :: C) := fun a w hF hS => by
 obtain ⟨x, h1, h2, h3, h4⟩ := hS.bunOpen
 exact h x h1 h2 h3 a w hF h4
theorem WC.openB {c : Code} {F : List Nat} {α : Type} {Cs : α → List Chunk} {φ : α → Prop} (h : ∀ x, φ x → (∀ c ∈ Cs x, ∀ k, c.fp k → k ∈ F) → (∀ k ∈ F, ∃ c ∈ Cs x, c.fp k) → WC P w0 O c Q N D L (Cs x ++ C)) : WC P w0 O c Q N D L (bun F Cs φ :: C) := fun a w hF hS => by
 obtain ⟨x, h1, h2, h3, h4⟩ := hS.bunOpen
 exact h x h1 h2 h3 a w hF h4
end
end Go.Eng
namespace Go.Proofs.YtndpdhamadiopaaGreatDoor
open Go Go.Eng Go.Proofs Dg
theorem keyDec : KeyT Tryz.prog 186 enc3 := KeyT.threeOf (by kernel_rfl)
theorem keyInt : KeyT Tryz.prog 3 encI := KeyT.nat (by kernel_rfl)
theorem undMD : Tryz.prog.underlying 238 = some (.map 186 3) := by kernel_rfl
theorem undMI : Tryz.prog.underlying 242 = some (.map 3 3) := by kernel_rfl
theorem zeroInt (w : World) : (zeroValue 3).run Tryz.prog w = .ok (.int .i64 0) w := by kernel_rfl
def decs (l : List Dec) : List Value := l.flatMap fun x => [.int .i64 (x.1 : Int), .int .i64 (x.2.1 : Int), .int .i64 (x.2.2 : Int)]
theorem decs_append (l m : List Dec) : decs (l ++ m) = decs l ++ decs m := by simp [decs]
theorem decs_len : ∀ l : List Dec, (decs l).length = l.length * 3
 | [] => rfl
 | x :: l => by
  have := decs_len l
  simp only [decs, List.flatMap_cons, List.length_append, List.length_cons, List.length_nil] at this ⊢
  omega
theorem decs_at : ∀ {l : List Dec} {k : Nat} {x : Dec}, l[k]? = some x → ∀ j u, [Value.int .i64 (x.1 : Int), .int .i64 (x.2.1 : Int), .int .i64 (x.2.2 : Int)][j]? = some u → (decs l)[k * 3 + j]? = some u
 | [], k, x, h, _, _, _ => by simp at h
 | y :: l, 0, x, h, j, u, hj => by
  simp only [List.getElem?_cons_zero, Option.some.injEq] at h
  subst h
  have hjl := (List.getElem?_eq_some_iff.1 hj).1
  show ([Value.int .i64 (y.1 : Int), .int .i64 (y.2.1 : Int), .int .i64 (y.2.2 : Int)] ++ decs l)[0 * 3 + j]? = _
  rw [Nat.zero_mul, Nat.zero_add, List.getElem?_append_left hjl]
  exact hj
 | y :: l, k + 1, x, h, j, u, hj => by
  simp only [List.getElem?_cons_succ] at h
  have ih := decs_at h j u hj
  show ([Value.int .i64 (y.1 : Int), .int .i64 (y.2.1 : Int), .int .i64 (y.2.2 : Int)] ++ decs l)[(k + 1) * 3 + j]? = _
  rw [List.getElem?_append_right (by simp; omega)]
  simp only [List.length_cons, List.length_nil]
  rw [show (k + 1) * 3 + j - (0 + 1 + 1 + 1) = k * 3 + j by omega]
  exact ih
theorem decs_one (l : List Dec) : ∀ u ∈ decs l, u.oneCell' = true := by
 intro u hu
 simp only [decs, List.mem_flatMap] at hu
 obtain ⟨x, _, hu⟩ := hu
 simp only [List.mem_cons, List.not_mem_nil, or_false] at hu
 rcases hu with rfl | rfl | rfl <;> rfl
def RdDec (w : World) (l : List Dec) (a : Option Addr) : Prop := ∀ j u, (decs l)[j]? = some u → ∃ b off, a = some ⟨b, off, none⟩ ∧ w.cell? ⟨b, off + j, none⟩ = some u
theorem RdDec.next {w0 w : World} {O : List Nat} {C : List Chunk} {l : List Dec} {a : Option Addr} (h : RdDec w0 l a) (hS : St w0 O C w) (hO : ∀ b off, a = some ⟨b, off, none⟩ → b < w0.heap.size → b ∉ O) : RdDec w l a := fun j u hu => by
 obtain ⟨b, off, ha, hc⟩ := h j u hu
 exact ⟨b, off, ha, hS.oldc hc (hO b off ha (World.block_lt_of_cell? w0 _ hc))⟩
theorem RdDec.next0 {w0 w : World} {C : List Chunk} {l : List Dec} {a : Option Addr} (h : RdDec w0 l a) (hS : St w0 [] C w) : RdDec w l a := h.next hS (by simp)
theorem RdDec.ext {wb w : World} {l : List Dec} {a : Option Addr} (h : RdDec wb l a) (hE : Ext wb w) : RdDec w l a := fun j u hu => by
 obtain ⟨b, off, ha, hc⟩ := h j u hu
 exact ⟨b, off, ha, hE.cell hc⟩
theorem RdDec.at {w : World} {l : List Dec} {a : Option Addr} (h : RdDec w l a) {k : Nat} {x : Dec} (hk : l[k]? = some x) : ∃ b off, a = some ⟨b, off, none⟩ ∧ ∀ j u, [Value.int .i64 (x.1 : Int), .int .i64 (x.2.1 : Int), .int .i64 (x.2.2 : Int)][j]? = some u → w.cell? ⟨b, off + k * 3 + j, none⟩ = some u := by
 obtain ⟨b, off, ha, _⟩ := h (k * 3 + 0) _ (decs_at hk 0 _ rfl)
 refine ⟨b, off, ha, fun j u hj => ?_⟩
 obtain ⟨b', off', ha', hc⟩ := h (k * 3 + j) u (decs_at hk j u hj)
 rw [ha] at ha'
 injection ha' with e
 injection e with e1 e2
 subst e1; subst e2
 rw [Nat.add_assoc]; exact hc
theorem RdDec.of_row {w : World} {l : List Dec} {a : Option Addr} {n cap : Nat} {e : TypeId} (hn : n = l.length) (h : (rowc (.slice a n cap) n e 3 (decs l)).ok w) : RdDec w l a := fun j u hu => by
 have hpos : 0 < n := by
  have h1 := (List.getElem?_eq_some_iff.1 hu).1
  rw [decs_len] at h1; omega
 obtain ⟨g, hg, _, _⟩ := rowc_addr h hpos
 subst hg
 exact ⟨g, 0, rfl, by rw [Nat.zero_add]; exact rowc_cells h hu⟩
abbrev dC (a : Option Addr) (c : Nat) (t : BT) : Chunk := rowc (.slice a (canon t).1.length c) (canon t).1.length 186 3 (decs (canon t).1)
abbrev dval (t : BT) (a : Option Addr) (c : Nat) : Value := .agg [.slice a (canon t).1.length c, .int .i64 ((canon t).2 : Int)].toArray
def RdD (w : World) (t : BT) (a : Option Addr) : Prop := t.ok 0 ∧ RdDec w (canon t).1 a
theorem RdD.next0 {w0 w : World} {C : List Chunk} {t : BT} {a : Option Addr} (h : RdD w0 t a) (hS : St w0 [] C w) : RdD w t a := ⟨h.1, h.2.next0 hS⟩
theorem RdD.ext {wb w : World} {t : BT} {a : Option Addr} (h : RdD wb t a) (hE : Ext wb w) : RdD w t a := ⟨h.1, h.2.ext hE⟩
theorem RdD.of_row {w : World} {t : BT} {a : Option Addr} {c : Nat} (ht : t.ok 0) (h : (dC a c t).ok w) : RdD w t a := ⟨ht, RdDec.of_row rfl h⟩
abbrev mkCs (bm : Nat) (l : List Dec) (x : Option Addr × Nat × Nat × (Dec → Option Nat)) : List Chunk :=
 [pt bm [.slice x.1 l.length x.2.1, .map (some x.2.2.1)] 240, rowc (.slice x.1 l.length x.2.1) l.length 186 3 (decs l), mpg enc3 x.2.2.1 (fun y => (x.2.2.2 y).map encI)]
def mkr (F : List Nat) (bm : Nat) (l : List Dec) : Chunk := bun F (mkCs bm l) (fun x => KnowsL l x.2.2.2)
theorem mkr_fp {bm : Nat} {l : List Dec} (x : Option Addr × Nat × Nat × (Dec → Option Nat)) : FpL (mkCs bm l x) ([bm] ++ (ob (.slice x.1 l.length x.2.1) ++ ([x.2.2.1] ++ []))) := .cons FpIs.pt (.cons FpIs.rowc (.cons FpIs.mpg .nil))
theorem St.mkrClose {w0 w : World} {O : List Nat} {C : List Chunk} {bm : Nat} {l : List Dec} {a : Option Addr} {c b n : Nat} {f : Dec → Option Nat} {g : Dec → Option Value} (hf : KnowsL l f) (hg : g = fun y => (f y).map encI) (hn : n = l.length) {xs : List Value} (hx : xs = decs l)
  (h : St w0 O (pt bm [.slice a n c, .map (some b)] 240 :: rowc (.slice a n c) n 186 3 xs :: mpg enc3 b g :: C) w) : St w0 O (mkr ([bm] ++ (ob (.slice a l.length c) ++ ([b] ++ []))) bm l :: C) w := by
 subst hg; subst hn; subst hx
 exact St.bunClose' (Cs := mkCs bm l) (a, c, b, f) hf (mkr_fp (a, c, b, f)) h
theorem newMaker_c (w : World) : Calls Tryz.prog 96 [].toArray w fun e w' => ∃ x : List Nat × Nat, e = .returned (pp x.2) ∧ St w [] [mkr x.1 x.2 []] w' := by
 refine enter Tryz.func96 rfl Tryz.ntmps96 rfl (St.init _) ?_
 refine jN 9 ?_
 refine WL.makeMapG enc3 rfl (fun b1 => ?_)
 refine jN 3 ?_
 refine WL.boxN rfl rfl (fun b3 => ?_)
 refine jN 5 ?_
 refine WQ.ret (rs := [.tmp 0]) rfl (.tmp rfl .nil) (fun w hS => ⟨(_, b3), rfl, St.mkrClose (l := []) (a := none) (c := 0) (b := b1) (n := 0) (f := fun _ => none) KnowsL.nil rfl rfl rfl ?_⟩)
 exact St.pick (hS.rowNil 186 3) (c := pt b3 [.slice none 0 0, .map (some b1)] 240) jR
theorem mnode_c (Fp : List Nat) (bm : Nat) (l : List Dec) (i lo hi : Nat) (w : World) (h24 : i < 24) (hm : Mk l) (hlo : lo < l.length + 2) (hhi : hi < l.length + 2) (hlen : l.length ≤ 16777214) (hS0 : St w Fp [mkr Fp bm l] w) :
  Calls Tryz.prog 97 [pp bm, .int .i64 (i : Int), .int .i64 (lo : Int), .int .i64 (hi : Int)].toArray w fun e w' => ∃ x : { x : List Nat × List Dec × Nat // MadeN l x.2.1 x.2.2 (mkN i (trs l lo) (trs l hi)) ∧ x.2.1.length ≤ l.length + 1 }, e = .returned (.int .i64 (x.1.2.2 : Int)) ∧ St w Fp [mkr x.1.1 bm x.1.2.1] w' := by
 obtain ⟨⟨a, c, bk, fk⟩, hk, h1, h2, hS0⟩ := hS0.bunOpen
 simp only [List.cons_append, List.nil_append] at hS0
 refine enter Tryz.func97 rfl Tryz.ntmps97 rfl (C := [pt bm [.slice a l.length c, .map (some bk)] 240, rowc (.slice a l.length c) l.length 186 3 (decs l), mpg enc3 bk (fun y => (fk y).map encI)]) hS0 ?_
 refine jN 17 ?_
 refine WC.cond rfl (fun h14 => ?_) (fun h14 => ?_)
 ·have he : lo = hi := by simp at h14; omega
  subst he
  refine jN 10 ?_
  refine WQ.ret (rs := [.tmp 8]) rfl (.tmp rfl .nil) (fun w hS => ⟨⟨(Fp, l, lo), MadeN.same hm hlo, Nat.le_succ _⟩, rfl, ?_⟩)
  exact hS.bunClose (Cs := mkCs bm l) (a, c, bk, fk) hk h1 h2
 ·have hne : lo ≠ hi := by simp at h14; omega
  refine jN 13 ?_
  refine WL.alloc F.zero186 rfl (fun b9 => ?_)
  refine jN 5 ?_
  rcases Option.eq_none_or_eq_some (fk (i, lo, hi)) with hf | ⟨p, hf⟩
  ·refine WC.drawsL (by kernel_rfl) (FactsOk.cons (ds := []) (LoadOk.one (t := 0) (off := 1) rfl jM rfl) (FactsOk.cons (ds := []) (LoadOk.whole (t := 9) rfl jM) (FactsOk.cons (ds := []) (LoadOk.by (Y := fun w => (mpg enc3 bk (fun y => (fk y).map encI)).ok w) (fun w hS => hS.ok _ jM)) (FactsOk.nil)))) ?_
   refine jT 0 rfl (Yl.move rfl) ?_
   refine jT 1 rfl (Yl.nilCheck rfl) ?_
   refine jT 2 rfl (Yl.fieldAddr0 F.fld240_1 rfl) ?_
   refine jF 3 0 rfl rfl (Yl.load1 F.one238 rfl) ?_
   refine jF 4 1 rfl rfl (Yl.loadN F.agg186 rfl rfl) ?_
   refine jF 5 2 rfl rfl (Yl.lookupMiss (f := fun y => (fk y).map encI) (i, lo, hi) undMD keyDec zeroInt rfl rfl rfl (by rw [hf]; rfl)) ?_
   refine jT 6 rfl (Yl.move rfl) ?_
   refine jT 7 rfl (Yl.extract rfl rfl) ?_
   refine jT 8 rfl (Yl.extract rfl rfl) ?_
   refine jT 9 rfl (Yl.assign rfl) ?_
   refine jT 10 rfl (Yl.assign rfl) ?_
   refine jD ?_
   refine jN 12 ?_
   refine WC.drawsL (by kernel_rfl) (FactsOk.cons (ds := [7, 10]) (LoadOk.one (t := 0) (off := 0) rfl jM rfl) (FactsOk.cons (ds := [6, 7, 10]) (LoadOk.whole (t := 9) rfl jM) (FactsOk.nil))) ?_
   refine jT 0 rfl (Yl.move rfl) ?_
   refine jT 1 rfl (Yl.move rfl) ?_
   refine jT 2 rfl (Yl.nilCheck rfl) ?_
   refine jT 3 rfl (Yl.fieldAddr0 F.fld240_0 rfl) ?_
   refine jF 4 0 rfl rfl (Yl.load1 F.one48 rfl) ?_
   refine jF 5 1 rfl rfl (Yl.loadN F.agg186 rfl rfl) ?_
   refine jA 6 rfl ?_
   refine WL.buildSlice F.sl48 F.ez48 rfl rfl rfl rfl jB rfl (fun b37 => ?_)
   refine WD.on (closed_of (by kernel_rfl)) (fun w hS => Sx.keep (hS.cell jM rfl) (Sx.gone rfl (Sx.none))) ?_
   refine jA 7 rfl ?_
   refine WL.appendE (news := decs [(i, lo, hi)]) F.el48 rfl rfl rfl jR (fun w hS jj u hu => by rw [Nat.zero_add]; exact hS.cell (cs := [.int .i64 (i : Int), .int .i64 (lo : Int), .int .i64 (hi : Int)]) jM hu) rfl (decs_one _) (Nat.le_trans (m := 16777216) (by omega) (by decide)) (by omega) (fun a2 c2 => ?_)
   refine jG ?_
   refine jT 8 rfl (Yl.nilCheck rfl) ?_
   refine jT 9 rfl (Yl.fieldAddr0 F.fld240_0 rfl) ?_
   refine jA 10 rfl ?_
   refine WL.store1 F.one48 rfl rfl rfl jU jS ?_
   refine jG ?_
   refine jD ?_
   refine jN 19 ?_
   refine WC.drawsL (by kernel_rfl) (FactsOk.cons (ds := [6]) (LoadOk.one (t := 0) (off := 1) rfl jM rfl) (FactsOk.cons (ds := [6]) (LoadOk.whole (t := 9) rfl jM) (FactsOk.nil))) ?_
   refine jT 0 rfl (Yl.move rfl) ?_
   refine jT 1 rfl (Yl.nilCheck rfl) ?_
   refine jT 2 rfl (Yl.fieldAddr0 F.fld240_1 rfl) ?_
   refine jF 3 0 rfl rfl (Yl.load1 F.one238 rfl) ?_
   refine jF 4 1 rfl rfl (Yl.loadN F.agg186 rfl rfl) ?_
   refine jT 5 rfl (Yl.move rfl) ?_
   refine jA 6 rfl ?_
   refine WL.mapPutG (f := fun y => (fk y).map encI) (i, lo, hi) undMD keyDec rfl rfl rfl rfl jU ?_
   refine jG ?_
   refine jD ?_
   refine jN 10 ?_
   have hlen2 : (l ++ [(i, lo, hi)]).length = l.length + 1 := by simp
   refine WQ.ret (rs := [.tmp 8]) rfl (.tmp rfl .nil) (fun w hS => ⟨⟨([bm] ++ (ob (.slice a2 (l ++ [(i, lo, hi)]).length c2) ++ ([bk] ++ [])), l ++ [(i, lo, hi)], l.length + 2), MadeN.new hm hk h24 hne hlo hhi hf, by simp⟩, rfl, ?_⟩)
   refine St.mkrClose (a := a2) (c := c2) (b := bk) (n := l.length + 1) (hk.snoc (i, lo, hi) hf) ?_ hlen2.symm (decs_append _ _).symm (jK hS)
   funext q
   by_cases hq : q = (i, lo, hi)
   ·simp only [if_pos hq, Option.map_some, encI]; rfl
   ·simp only [if_neg hq]
  ·refine WC.drawsL (by kernel_rfl) (FactsOk.cons (ds := []) (LoadOk.one (t := 0) (off := 1) rfl jM rfl) (FactsOk.cons (ds := []) (LoadOk.whole (t := 9) rfl jM) (FactsOk.cons (ds := []) (LoadOk.by (Y := fun w => (mpg enc3 bk (fun y => (fk y).map encI)).ok w) (fun w hS => hS.ok _ jM)) (FactsOk.nil)))) ?_
   refine jT 0 rfl (Yl.move rfl) ?_
   refine jT 1 rfl (Yl.nilCheck rfl) ?_
   refine jT 2 rfl (Yl.fieldAddr0 F.fld240_1 rfl) ?_
   refine jF 3 0 rfl rfl (Yl.load1 F.one238 rfl) ?_
   refine jF 4 1 rfl rfl (Yl.loadN F.agg186 rfl rfl) ?_
   refine jF 5 2 rfl rfl (Yl.lookupHit (f := fun y => (fk y).map encI) (v := encI p) (i, lo, hi) undMD keyDec zeroInt rfl rfl rfl (by rw [hf]; rfl)) ?_
   refine jT 6 rfl (Yl.move rfl) ?_
   refine jT 7 rfl (Yl.extract rfl rfl) ?_
   refine jT 8 rfl (Yl.extract rfl rfl) ?_
   refine jT 9 rfl (Yl.assign rfl) ?_
   refine jT 10 rfl (Yl.assign rfl) ?_
   refine jD ?_
   refine jN 22 ?_
   refine WQ.ret (rs := [.tmp 8]) rfl (.tmp rfl .nil) (fun w hS => ⟨⟨(Fp, l, p), MadeN.known hm hk hne hlo hhi hf, Nat.le_succ _⟩, rfl, ?_⟩)
   exact St.bunClose (Cs := mkCs bm l) (a, c, bk, fk) hk h1 h2 (jK hS)
theorem place_map {f : Nat → Option Nat} {r n : Nat} {z : Int} (hz : z = (n : Int)) : (fun q : Nat => if q = r then some (Value.int .i64 z) else (f q).map encI) = (fun y => (if y = r then some n else f y).map encI) := by
 funext q
 by_cases h : q = r
 ·rw [if_pos h, if_pos h, hz]; rfl
 ·rw [if_neg h, if_neg h]
theorem place_map0 : (fun q : Nat => if q = 1 then some (Value.int .i64 1) else if q = 0 then some (Value.int .i64 0) else none) = (fun y => (if y = 1 then some 1 else if y = 0 then some 0 else none : Option Nat).map encI) := by
 funext q
 by_cases h : q = 1
 ·rw [if_pos h, if_pos h]; rfl
 ·rw [if_neg h, if_neg h]
  by_cases h0 : q = 0
  ·rw [if_pos h0, if_pos h0]; rfl
  ·rw [if_neg h0, if_neg h0]; rfl
abbrev viCs (bo bk : Nat) (o : List Dec) (x : Option Addr × Nat × (Nat → Option Nat)) : List Chunk :=
 [pt bo [.slice x.1 o.length x.2.1] 48, rowc (.slice x.1 o.length x.2.1) o.length 186 3 (decs o), mpg encI bk (fun r => (x.2.2 r).map encI)]
def vis (F : List Nat) (bo bk : Nat) (l o : List Dec) : Chunk := bun F (viCs bo bk o) (fun x => PlaceOk l o x.2.2)
theorem vis_fp {bo bk : Nat} {o : List Dec} (x : Option Addr × Nat × (Nat → Option Nat)) : FpL (viCs bo bk o x) ([bo] ++ (ob (.slice x.1 o.length x.2.1) ++ ([bk] ++ []))) := .cons FpIs.pt (.cons FpIs.rowc (.cons FpIs.mpg .nil))
theorem St.visClose {w0 w : World} {O : List Nat} {C : List Chunk} {bo bk n c : Nat} {l o : List Dec} {a : Option Addr} {f : Nat → Option Nat} {g : Nat → Option Value} (hf : PlaceOk l o f) (hg : g = fun y => (f y).map encI) (hn : n = o.length) {xs : List Value} (hx : xs = decs o)
  (h : St w0 O (pt bo [.slice a n c] 48 :: rowc (.slice a n c) n 186 3 xs :: mpg encI bk g :: C) w) : ∃ F, St w0 O (vis F bo bk l o :: C) w := by
 subst hg; subst hn; subst hx
 refine ⟨_, St.bunClose' (Cs := viCs bo bk o) (a, c, f) hf (vis_fp (a, c, f)) h⟩
abbrev visF (bp bm bv bo : Nat) : Value := .func (.func 137) [].toArray [pp bp, pp bm, pp bv, pp bo].toArray
def RdDecO (w : World) (l : List Dec) (a : Option Addr) (F : List Nat) : Prop := ∀ j u, (decs l)[j]? = some u → ∃ b off, a = some ⟨b, off, none⟩ ∧ w.cell? ⟨b, off + j, none⟩ = some u ∧ b ∉ F
theorem RdDecO.at {w : World} {l : List Dec} {a : Option Addr} {F : List Nat} (h : RdDecO w l a F) {k : Nat} {x : Dec} (hk : l[k]? = some x) : ∃ b off, a = some ⟨b, off, none⟩ ∧ b ∉ F ∧ ∀ j u, [Value.int .i64 (x.1 : Int), .int .i64 (x.2.1 : Int), .int .i64 (x.2.2 : Int)][j]? = some u → w.cell? ⟨b, off + k * 3 + j, none⟩ = some u := by
 obtain ⟨b, off, ha, _, hb⟩ := h (k * 3 + 0) _ (decs_at hk 0 _ rfl)
 refine ⟨b, off, ha, hb, fun j u hj => ?_⟩
 obtain ⟨b', off', ha', hc, _⟩ := h (k * 3 + j) u (decs_at hk j u hj)
 rw [ha] at ha'
 injection ha' with e
 injection e with e1 e2
 subst e1; subst e2
 rw [Nat.add_assoc]; exact hc
structure VEnv (w : World) (F : List Nat) (bp bmv bv bo bk bm : Nat) (l : List Dec) (a : Option Addr) (c : Nat) : Prop where
 pl : w.cell? ⟨bp, 0, none⟩ = some (.map (some bk))
 pl' : bp ∉ F
 mv : w.cell? ⟨bmv, 0, none⟩ = some (pp bm)
 mv' : bmv ∉ F
 vi : w.cell? ⟨bv, 0, none⟩ = some (visF bp bmv bv bo)
 vi' : bv ∉ F
 li : w.cell? ⟨bm, 0, none⟩ = some (.slice a l.length c)
 li' : bm ∉ F
 rd : RdDecO w l a F
theorem VEnv.next {w0 w : World} {F F' : List Nat} {C1 : List Chunk} {bp bmv bv bo bk bm c : Nat} {l o : List Dec} {a : Option Addr} (h : VEnv w0 F bp bmv bv bo bk bm l a c) (hS : St w0 F ([vis F' bo bk l o] ++ C1) w) : VEnv w F' bp bmv bv bo bk bm l a c := by
 have hap := fun {z : Nat} (h1 : z < w0.heap.size) (h2 : z ∉ F) => hS.apart (F := F') bun_O2 h1 h2
 refine ⟨hS.oldc h.pl h.pl', hap (World.block_lt_of_cell? w0 _ h.pl) h.pl', hS.oldc h.mv h.mv', hap (World.block_lt_of_cell? w0 _ h.mv) h.mv', hS.oldc h.vi h.vi', hap (World.block_lt_of_cell? w0 _ h.vi) h.vi', hS.oldc h.li h.li', hap (World.block_lt_of_cell? w0 _ h.li) h.li', fun j u hu => ?_⟩
 obtain ⟨b, off, e1, e2, e3⟩ := h.rd j u hu
 exact ⟨b, off, e1, hS.oldc e2 e3, hap (World.block_lt_of_cell? w0 _ e2) e3⟩
theorem visit_c (bp bmv bv bo bk bm : Nat) (l : List Dec) (a : Option Addr) (c : Nat) (hl : Mk l) (hll : l.length ≤ 16777216) : ∀ (n r : Nat), r < n → ∀ (Fp : List Nat) (o : List Dec) (w : World), r < l.length + 2 → Mk o → (∃ m, (trs l r).ok m) → (visitT (trs l r) o).1.length ≤ 16777216 → VEnv w Fp bp bmv bv bo bk bm l a c → St w Fp [vis Fp bo bk l o] w →
  Calls Tryz.prog 137 [.int .i64 (r : Int), pp bp, pp bmv, pp bv, pp bo].toArray w fun e w' => ∃ x : List Nat, e = .returned (.int .i64 ((visitT (trs l r) o).2 : Int)) ∧ St w Fp [vis x bo bk l (visitT (trs l r) o).1] w' := by
 intro n
 induction n with
 | zero => intro r hr; omega
 | succ n hrec =>
 intro r hrn Fp o w hr ho ⟨mo, hok⟩ hb hE hS0
 obtain ⟨⟨a2, c2, fk⟩, hk, h1, h2, hS0⟩ := hS0.bunOpen
 have hk : PlaceOk l o fk := hk
 simp only [List.cons_append, List.nil_append] at hS0
 refine enter Tryz.func137 rfl Tryz.ntmps137 rfl (C := [pt bo [.slice a2 o.length c2] 48, rowc (.slice a2 o.length c2) o.length 186 3 (decs o), mpg encI bk (fun y => (fk y).map encI)]) hS0 ?_
 refine jN 8 ?_
 rcases Option.eq_none_or_eq_some (fk r) with hf | ⟨p, hf⟩
 ·obtain ⟨x, hr2, hx, hlo, hhi, hx24, htr, hlk⟩ := hk.miss hl hr hf
  rw [htr] at hlk hok hb
  have hvt : visitT (trs l r) o = ((visitT (trs l x.2.2) (visitT (trs l x.2.1) o).1).1 ++ [(x.1, (visitT (trs l x.2.1) o).2, (visitT (trs l x.2.2) (visitT (trs l x.2.1) o).1).2)], (visitT (trs l x.2.2) (visitT (trs l x.2.1) o).1).1.length + 2) := by rw [htr]; show visitT (.nd x.1 (trs l x.2.1) (trs l x.2.2)) o = _; conv => lhs; unfold visitT; rw [hlk]
  have hb0 : (visitT (.nd x.1 (trs l x.2.1) (trs l x.2.2)) o).1.length = (visitT (trs l x.2.2) (visitT (trs l x.2.1) o).1).1.length + 1 := by rw [← htr, hvt]; simp
  have hb2 := visitT_len (trs l x.2.2) (visitT (trs l x.2.1) o).1
  have hb1 := visitT_len (trs l x.2.1) o
  have hm1 := visitT_mk hok.2.2.2.1 ho
  have hm2 := visitT_mk hok.2.2.2.2 hm1
  obtain ⟨bl, off, rfl, hbl, hcx⟩ := hE.rd.at hx
  have hri : ((r - 2 : Nat) : Int) = (r : Int) - 2 := by omega
  refine jN 2 ?_
  refine WL.load1 F.one242 rfl rfl (v := .map (some bk)) (fun w hS => hS.oldc hE.pl hE.pl') ?_
  refine jN 3 ?_
  refine WL.lookupMiss (f := fun y => (fk y).map encI) r undMI keyInt zeroInt rfl rfl rfl rfl jM (by rw [hf]; rfl) ?_
  refine jN 24 ?_
  refine WL.load1 F.one187 rfl rfl (v := pp bm) (fun w hS => hS.oldc hE.mv hE.mv') ?_
  refine jN 5 ?_
  refine WL.load1 F.one48 rfl rfl (v := .slice (some ⟨bl, off, none⟩) l.length c) (fun w hS => hS.oldc hE.li hE.li') ?_
  refine jN 4 ?_
  refine WA.say 25 (.int .i64 ((r - 2 : Nat) : Int)) (by rw [hri]; rfl) ?_
  refine jN 1 ?_
  refine WL.indexAddr F.sl48 rfl rfl rfl (List.getElem?_eq_some_iff.1 hx).1 ?_
  refine jN 1 ?_
  refine WL.loadN F.agg186 rfl rfl (vs := [Value.int .i64 (x.1 : Int), .int .i64 (x.2.1 : Int), .int .i64 (x.2.2 : Int)]) rfl (fun w hS j v hv => hS.oldc (hcx j v hv) hbl) ?_
  refine jN 1 ?_
  refine WL.alloc F.zero186 rfl (fun b9 => ?_)
  refine jN 7 ?_
  refine WL.load1 F.one243 rfl rfl (v := visF bp bmv bv bo) (fun w hS => hS.oldc hE.vi hE.vi') ?_
  refine jN 4 ?_
  refine WA.chunks (C' := [vis Fp bo bk l o, pt b9 [Value.int .i64 (x.1 : Int), .int .i64 (x.2.1 : Int), .int .i64 (x.2.2 : Int)] 186]) (fun w hS => St.bunClose (Cs := viCs bo bk o) (a2, c2, fk) hk h1 h2 (jK hS)) ?_
  refine jN 1 ?_
  refine WL.callFC (β := List Nat) (us := []) (cap := [pp bp, pp bmv, pp bv, pp bo]) (res := fun y => .int .i64 ((visitT (trs l x.2.1) o).2 : Int)) (cs := fun y => [vis y bo bk l (visitT (trs l x.2.1) o).1]) (Cs := [vis Fp bo bk l o]) (C1 := [pt b9 [Value.int .i64 (x.1 : Int), .int .i64 (x.2.1 : Int), .int .i64 (x.2.2 : Int)] 186]) (O' := Fp) F.fun137 (fun d h => by cases h; rfl) rfl rfl (List.Perm.refl _) bun_O1 bun_O2 (fun w hS hS2 => hrec x.2.1 (by omega) Fp o w (by omega) ho ⟨_, hok.2.2.2.1⟩ (by omega) (hE.next hS) hS2) (fun Fp1 => ?_)
  refine jN 7 ?_
  refine WL.load1 F.one243 rfl rfl (v := visF bp bmv bv bo) (fun w hS => hS.oldc hE.vi hE.vi') ?_
  refine jN 5 ?_
  refine WL.callFC (β := List Nat) (us := []) (cap := [pp bp, pp bmv, pp bv, pp bo]) (res := fun y => .int .i64 ((visitT (trs l x.2.2) (visitT (trs l x.2.1) o).1).2 : Int)) (cs := fun y => [vis y bo bk l (visitT (trs l x.2.2) (visitT (trs l x.2.1) o).1).1]) (Cs := [vis Fp1 bo bk l (visitT (trs l x.2.1) o).1]) (C1 := [pt b9 [Value.int .i64 (x.1 : Int), .int .i64 (x.2.1 : Int), .int .i64 (x.2.2 : Int)] 186]) (O' := Fp1) F.fun137 (fun d h => by cases h; rfl) rfl rfl (List.Perm.refl _) bun_O1 bun_O2 (fun w hS hS2 => hrec x.2.2 (by omega) Fp1 (visitT (trs l x.2.1) o).1 w (by omega) hm1 ⟨_, hok.2.2.2.2⟩ (by omega) (hE.next hS) hS2) (fun Fp2 => ?_)
  refine jN 6 ?_
  refine WA.openB (fun x3 hk3 h13 h23 => ?_)
  obtain ⟨a3, c3, f3⟩ := x3
  have hk3 : PlaceOk l (visitT (trs l x.2.2) (visitT (trs l x.2.1) o).1).1 f3 := hk3
  simp only [viCs, List.cons_append, List.nil_append]
  refine jN 13 ?_
  refine WL.buildSlice F.sl48 F.ez48 rfl rfl rfl rfl jB rfl (fun b42 => ?_)
  refine jN 1 ?_
  refine WL.appendE (news := decs [(x.1, (visitT (trs l x.2.1) o).2, (visitT (trs l x.2.2) (visitT (trs l x.2.1) o).1).2)]) F.el48 rfl rfl rfl jR (fun w hS jj u hu => by rw [Nat.zero_add]; exact hS.cell (cs := [.int .i64 (x.1 : Int), .int .i64 ((visitT (trs l x.2.1) o).2 : Int), .int .i64 ((visitT (trs l x.2.2) (visitT (trs l x.2.1) o).1).2 : Int)]) jM hu) rfl (decs_one _) (Nat.le_trans (m := 16777217) (by omega) (by decide)) (by omega) (fun a4 c4 => ?_)
  refine jN 7 ?_
  refine WL.load1 F.one242 rfl rfl (v := .map (some bk)) (fun w hS => hS.oldc hE.pl hE.pl') ?_
  refine jN 9 ?_
  refine WL.mapPutG (f := fun y => (f3 y).map encI) r undMI keyInt rfl rfl rfl rfl jU ?_
  refine jN 15 ?_
  have htn := visitT_at (trs l r) o
  rw [hvt, htr] at htn
  have hst := hk3.step hl hr htr hlk rfl (v := x.1) (p1 := (visitT (trs l x.2.1) o).2) (p2 := (visitT (trs l x.2.2) (visitT (trs l x.2.1) o).1).2) htn.2
  refine WQ.ret (rs := [.tmp 6]) rfl (.tmp rfl .nil) (fun w hS => ?_)
  obtain ⟨F9, hF9⟩ := St.visClose (a := a4) (c := c4) (bk := bk) (bo := bo) (n := (visitT (trs l x.2.2) (visitT (trs l x.2.1) o).1).1.length + 1) hst (place_map (z := ((((visitT (trs l x.2.2) (visitT (trs l x.2.1) o).1).1.length + 1 : Nat) : Int) + 1)) (by omega)) (by simp) (decs_append _ _).symm (((St.pick (St.pick (St.pick hS (c := mpg encI bk (fun q => if q = r then some (.int .i64 ((((visitT (trs l x.2.2) (visitT (trs l x.2.1) o).1).1.length + 1 : Nat) : Int) + 1)) else (f3 q).map encI)) (by repeat (first | exact Rem.here | apply Rem.there))) (c := rowc (.slice a4 ((visitT (trs l x.2.2) (visitT (trs l x.2.1) o).1).1.length + 1) c4) ((visitT (trs l x.2.2) (visitT (trs l x.2.1) o).1).1.length + 1) 186 3 (decs (visitT (trs l x.2.2) (visitT (trs l x.2.1) o).1).1 ++ decs [(x.1, (visitT (trs l x.2.1) o).2, (visitT (trs l x.2.2) (visitT (trs l x.2.1) o).1).2)])) (by repeat (first | exact Rem.here | apply Rem.there))) (c := pt bo [.slice a4 ((visitT (trs l x.2.2) (visitT (trs l x.2.1) o).1).1.length + 1) c4] 48) (by repeat (first | exact Rem.here | apply Rem.there)))).sublist (List.Sublist.cons_cons _ (List.Sublist.cons_cons _ (List.Sublist.cons_cons _ (List.nil_sublist _)))))
  exact ⟨F9, by rw [hvt]; rfl, by rw [hvt]; exact hF9⟩
 ·refine jN 2 ?_
  refine WL.load1 F.one242 rfl rfl (v := .map (some bk)) (fun w hS => hS.oldc hE.pl hE.pl') ?_
  refine jN 3 ?_
  refine WL.lookupHit (f := fun y => (fk y).map encI) (v := encI p) r undMI keyInt zeroInt rfl rfl rfl rfl jM (by rw [hf]; rfl) ?_
  refine jN 29 ?_
  have hh := hk.hit ho hr hf
  refine WQ.ret (rs := [.tmp 6]) rfl (.tmp rfl .nil) (fun w hS => ⟨Fp, by rw [hh]; rfl, ?_⟩)
  rw [hh]
  exact hS.bunClose (Cs := viCs bo bk o) (a2, c2, fk) hk h1 h2
end Go.Proofs.YtndpdhamadiopaaGreatDoor
namespace Go.Eng
open Go Go.RowKit
theorem SetN.append {cs cs' vs : List Value} {off : Nat} (ys : List Value) (h : SetN cs off vs cs') : SetN (cs ++ ys) off vs (cs' ++ ys) := by
 induction h with
 | nil => exact .done
 | done => exact .done
 | put _ ih => exact .put ih
 | skip _ ih => exact .skip ih
theorem SetN.len {cs cs' vs : List Value} {off : Nat} (h : SetN cs off vs cs') : cs'.length = cs.length := by
 obtain ⟨h1, h2⟩ := h.eq
 rw [← h1]; simp; omega
section
variable {P : Program} {w0 : World} {O : List Nat} {ops : Array Oper} {Q : Exit → Act → World → Prop} {N : Nat} {D : List Deferred} {L : FL} {C : List Chunk} {K : Act → World → Prop}
variable {d : Nat} {ty : TypeId} {pos : String} {af : Array Edge}
theorem St.rowUpd {w : World} {C' : List Chunk} {b : Nat} {c0 c1 : Chunk} {cs : Array Value} (h : St w0 O C w) (hu : Upd c0 c1 C C') (hf : ∀ k, c0.fp k ↔ k = b) (hf' : ∀ k, c1.fp k ↔ k = b) (hok : c1.ok (w.setRow b cs)) : St w0 O C' (w.setRow b cs) := by
 obtain ⟨R, p1, p2⟩ := hu.perm
 have h1 := h.perm p1
 refine St.perm ?_ p2.symm
 have hbO := (h1.bnd _ (List.mem_cons_self ..) b ((hf b).2 rfl))
 have hoth : ∀ k, k ≠ b → (w.setRow b cs).heap[k]? = w.heap[k]? := fun k hk => setRow_other w b k _ hk
 have hdis := List.pairwise_cons.1 h1.disj
 refine ⟨h.os, h.tape, h.output, by simpa using h.size, fun k hk ho => ?_, ?_, ?_, ?_⟩
 ·by_cases hkb : k = b
  ·subst hkb; exact absurd (hbO.2 hk) ho
  ·rw [hoth k hkb]; exact h.old k hk ho
 ·intro c hc
  rcases List.mem_cons.1 hc with rfl | hc
  ·exact hok
  ·refine c.loc w _ (fun k hk => hoth k (fun e => ?_)) (h1.ok c (List.mem_cons_of_mem _ hc))
   exact hdis.1 c hc k ((hf k).2 e) hk
 ·intro c hc k hk
  rcases List.mem_cons.1 hc with rfl | hc
  ·have : k = b := (hf' k).1 hk
   subst this
   exact ⟨by simpa using hbO.1, hbO.2⟩
  ·simpa using h1.bnd c (List.mem_cons_of_mem _ hc) k hk
 ·exact List.Pairwise.cons (fun c hc k hk hk' => hdis.1 c hc k ((hf k).2 ((hf' k).1 hk)) hk') hdis.2
theorem WL.storeRow {t : TypeId} {n m sz cap : Nat} {x y : Operand} {g off : Nat} {xs xs' vs : List Value} {e : TypeId} {C' : List Chunk} (ht : Agg P t m) (hx : ev L x = some (.pointer (some ⟨g, off, none⟩))) (hy : ev L y = some (.agg vs.toArray)) (hl : vs.length = m)
  (hv : ∀ u ∈ vs, u.oneCell' = true) (hpos : 0 < n) (hu : Upd (rowc (.slice (some ⟨g, 0, none⟩) n cap) n e sz xs) (rowc (.slice (some ⟨g, 0, none⟩) n cap) n e sz xs') C C') (hn : SetN xs off vs xs') (h : WA w0 O K N D L C') :
  WK P w0 O ops Q ⟨none, .store t x y, ty, pos, af, none⟩ K N D L C := fun a w hF hS => by
 subst hl
 obtain ⟨hlen, hr⟩ := (show w.ownsRow 0 e sz (.slice (some ⟨g, 0, none⟩) n cap) n xs from hS.ok _ hu.mem)
 rcases hr with ⟨h1, _⟩ | ⟨g', cap', cur, h1, _, hh, hnc, hcm, hcs, htk⟩
 ·cases h1
 ·injection h1 with h1 h2 h3
  injection h1 with h1
  injection h1 with h1
  subst h1; subst h3
  have hsplit : cur.toList = xs ++ cur.toList.drop (n * sz) := by rw [← htk, List.take_append_drop]
  have hn' : SetN cur.toList off vs (xs' ++ cur.toList.drop (n * sz)) := by
   have := hn.append (cur.toList.drop (n * sz))
   rw [← hsplit] at this
   exact this
  have hh' : w.heap[g]? = some (.cells cur.toList.toArray e (0, 0)) := by rw [Array.toArray_toList]; exact hh
  have hr := run_storeN (P := P) (t := t) (v := .agg vs.toArray) ht.size rfl hv hh' hn'
  have hxl : xs'.length = xs.length := hn.len
  have hSt : St w0 O C' (w.setRow g (xs' ++ cur.toList.drop (n * sz)).toArray) := by
   refine hS.rowUpd (b := g) hu (fun k => ?_) (fun k => ?_) ?_
   ·constructor
    ·intro hk; exact (Option.some.inj hk).symm
    ·intro hk; rw [hk]; rfl
   ·constructor
    ·intro hk; exact (Option.some.inj hk).symm
    ·intro hk; rw [hk]; rfl
   ·refine ⟨by rw [hxl, hlen], .inr ⟨g, cap, (xs' ++ cur.toList.drop (n * sz)).toArray, rfl, Nat.zero_le _, setRow_heap w g _ _ e _ hh', hnc, hcm, ?_, ?_⟩⟩
    ·have := congrArg List.length hsplit
     simp at this ⊢
     omega
    ·have e2 : xs'.length = n * sz := by rw [hxl, hlen]
     show (xs' ++ cur.toList.drop (n * sz)).take (n * sz) = xs'
     rw [List.take_left' e2]
  exact wpo_skip rfl (by simp [execOp, hF.ev hx, hF.ev hy, hr]) (h _ _ hF hSt)
end
open Go Go.RowKit
def Keeps (wb w : World) (F : List Nat) (w' : World) : Prop := (∀ k ∈ F, w'.heap[k]? = w.heap[k]?) ∧ ∀ k, k < wb.heap.size → w'.heap[k]? = wb.heap[k]?
def shr (wb : World) (F : List Nat) (t : Tree) (v : Value) : Chunk where
 fp k := k ∈ F
 ok w := ∃ G, ∀ w', Keeps wb w F w' → rdT w' t G v
 loc w w' h := fun ⟨G, hG⟩ => ⟨G, fun w2 hk => hG w2 ⟨fun k hkF => (hk.1 k hkF).trans (h k hkF), hk.2⟩⟩
def shrL (wb : World) (F : List Nat) (ts : List Tree) (vs : List Value) : Chunk where
 fp k := k ∈ F
 ok w := ∃ G, ∀ w', Keeps wb w F w' → rdL w' ts G vs
 loc w w' h := fun ⟨G, hG⟩ => ⟨G, fun w2 hk => hG w2 ⟨fun k hkF => (hk.1 k hkF).trans (h k hkF), hk.2⟩⟩
section
variable {w0 : World} {O : List Nat} {C : List Chunk}
end
open Go Go.RowKit
section
variable {P : Program} {w0 : World} {O : List Nat} {ops : Array Oper} {Q : Exit → Act → World → Prop} {N : Nat} {D : List Deferred} {L : FL} {C : List Chunk} {K : Act → World → Prop}
variable {Fs : List (List Nat × (World → Prop))}
theorem WD.three {i j l fuel : Nat} {oi oj ol : Oper} {listed : Array Bool} (hr : Region.ready .any ops listed = [i, j, l]) (hi : ops[i]? = some oi) (hj : ops[j]? = some oj) (hl : ops[l]? = some ol)
  (h : WK P w0 O ops Q oi (fun a w => Sx Fs (listed.setIfInBounds i true) w ∧ wpAnyT P ops Q Fs fuel (listed.setIfInBounds i true) a w) N D L C)
  (h' : WK P w0 O ops Q oj (fun a w => Sx Fs (listed.setIfInBounds j true) w ∧ wpAnyT P ops Q Fs fuel (listed.setIfInBounds j true) a w) N D L C)
  (h'' : WK P w0 O ops Q ol (fun a w => Sx Fs (listed.setIfInBounds l true) w ∧ wpAnyT P ops Q Fs fuel (listed.setIfInBounds l true) a w) N D L C) : WD P w0 O ops Q Fs (fuel + 1) listed N D L C := fun hc a w hFr hS hSx => by
 refine ⟨fun h => (by rw [h] at hr; cases hr), fun k hk => ?_⟩
 rw [hr] at hk
 simp only [List.mem_cons, List.not_mem_nil, or_false] at hk
 rcases hk with rfl | rfl | rfl
 ·have := h a w hFr hS
  unfold wpOp
  simp only [hi]
  exact this
 ·have := h' a w hFr hS
  unfold wpOp
  simp only [hj]
  exact this
 ·have := h'' a w hFr hS
  unfold wpOp
  simp only [hl]
  exact this
end
open Go Go.RowKit
section
variable {P : Program} {w0 : World} {O : List Nat} {ops : Array Oper} {Q : Exit → Act → World → Prop} {N : Nat} {D : List Deferred} {L : FL} {C : List Chunk} {K : Act → World → Prop}
variable {d : Nat} {ty : TypeId} {pos : String} {af : Array Edge}
variable {κ : Type} [DecidableEq κ] {enc : κ → Value} {kt : TypeId}
theorem WL.insertG {t et : TypeId} {x y z : Operand} {b : Nat} {f : κ → Option Value} {vy v : Value} {C' : List Chunk} (k : κ) (hm : P.underlying t = some (.map kt et)) (hk : KeyT P kt enc)
  (hx : ev L x = some (.map (some b))) (hy : ev L y = some vy) (hvy : vy = enc k) (hz : ev L z = some v) (hu : Upd (mpg enc b f) (mpg enc b (fun q => if q = k then some v else f q)) C C') (h : WA w0 O K N D L C') :
  WK P w0 O ops Q ⟨none, .insert t x y z, ty, pos, af, none⟩ K N D L C := fun a w hF hS => by
 subst hvy
 obtain ⟨es, clock, kvs, h1, h2, h3, hI⟩ := hS.ok _ hu.mem
 have hb : b < w.heap.size := ((hS.bnd _ hu.mem) b rfl).1
 have hf := hk.find w k es.toList kvs h2
 cases hh : kidx kvs k 0 with
 | none =>
  rw [hh] at hf
  have hr : (Instr.mapUpdate t (.map (some b)) (enc k) v).run P w = .ok () { w with heap := w.heap.setIfInBounds b (.map (es.push { key := enc k, val := v, born := clock }) (clock + 1)) } := by
   simp [Instr.mapUpdate, run_underlying hm, MapKept.run_getObj_map h1, hk.check, hf, MapKept.run_setObj_map _ h1, Result.andThen]
  refine wpo_skip rfl (w' := { w with heap := w.heap.setIfInBounds b (.map (es.push { key := enc k, val := v, born := clock }) (clock + 1)) }) ?_ (h _ _ hF (hS.setObj hu (fun k => Iff.rfl) (fun k => Iff.rfl) ⟨es.push { key := enc k, val := v, born := clock }, clock + 1, kvs ++ [(k, v)], ?_, ?_, ?_, ?_⟩))
  ·simp [execOp, hF.ev hx, hF.ev hy, hF.ev hz, hr]
  ·show (w.heap.setIfInBounds b _)[b]? = _
   rw [Array.getElem?_setIfInBounds_self_of_lt hb]
  ·simp [h2]
  ·intro q
   rw [kfind_snoc (kidx_none.1 hh) q]
   simp only [h3]
  ·have := hI.push (kfind_mem (kidx_none.1 hh)) (enc k) v
   simpa using this
 | some p =>
  obtain ⟨j, u⟩ := p
  rw [hh] at hf
  obtain ⟨_, g2, g3, g4⟩ := kidx_some hh
  simp only [Nat.sub_zero] at g2 g4
  have hlen : es.toList.length = kvs.length := by have := congrArg List.length h2; simpa using this
  have hjl : j < es.toList.length := by rw [hlen]; exact (List.getElem?_eq_some_iff.1 g2).1
  have hej : es.toList[j]? = some es.toList[j] := List.getElem?_eq_getElem hjl
  have hkey : es.toList[j].key = enc k := by
   have e1 : (es.toList.map (fun e => (e.key, e.val)))[j]? = some (es.toList[j].key, es.toList[j].val) := by rw [List.getElem?_map, hej]; rfl
   rw [h2, List.getElem?_map, g2] at e1
   simp only [Option.map_some, Option.some.injEq, Prod.mk.injEq] at e1
   exact e1.1.symm
  have hej' : es[j]? = some es.toList[j] := by rw [← Array.getElem?_toList]; exact hej
  have hkey2 := hkey
  simp only [Array.getElem_toList] at hkey2
  have hr : (Instr.mapUpdate t (.map (some b)) (enc k) v).run P w = .ok () { w with heap := w.heap.setIfInBounds b (.map (es.modify j fun e => { e with key := enc k, val := v }) clock) } := by
   simp [Instr.mapUpdate, run_underlying hm, MapKept.run_getObj_map h1, hk.check, hf, MapKept.run_setObj_map _ h1, Result.andThen, hej', hkey, hkey2, hk.stays]
  refine wpo_skip rfl (w' := { w with heap := w.heap.setIfInBounds b (.map (es.modify j fun e => { e with key := enc k, val := v }) clock) }) ?_ (h _ _ hF (hS.setObj hu (fun k => Iff.rfl) (fun k => Iff.rfl) ⟨es.modify j fun e => { e with key := enc k, val := v }, clock, kvs.set j (k, v), ?_, ?_, ?_, ?_⟩))
  ·simp [execOp, hF.ev hx, hF.ev hy, hF.ev hz, hr]
  ·show (w.heap.setIfInBounds b _)[b]? = _
   rw [Array.getElem?_setIfInBounds_self_of_lt hb]
  ·rw [Array.toList_modify, map_modify_set _ _ _ _ _ hej, h2, List.map_set]
  ·intro q
   rw [g4 v q]
   simp only [h3]
  ·rw [Array.toList_modify]
   have e1 : (kvs.set j (k, v)).map Prod.fst = kvs.map Prod.fst := by
    rw [List.map_set]
    refine List.ext_getElem? fun i => ?_
    rw [List.getElem?_set]
    split
    ·rename_i e
     subst e
     have hj : j < kvs.length := (List.getElem?_eq_some_iff.1 g2).1
     rw [if_pos (by simpa using hj), List.getElem?_map, g2]; rfl
    ·rfl
   rw [e1]
   exact hI.modify (fun e => { e with key := enc k, val := v }) (fun _ => rfl) j
theorem WC.cutQ {c : Code} (M : FL) (C' : List Chunk) (hq : NoLook Q) (hx : ∀ Q', NoLook Q' → WQ w0 O Q' .normal N D M C' → WC P w0 O c Q' N D L C) (hy : WQ w0 O Q .normal N D M C') : WC P w0 O c Q N D L C := hx Q hq hy
theorem Yl.minI {F : World → Prop} {x y : Operand} {k k' : IntKind} {m n r : Int} {ts : Array TypeId} (hx : ev L x = some (.int k m)) (hy : ev L y = some (.int k' n)) (hr : (if n < m then n else m) = r) :
  Yl P N D L F ⟨some d, .call { callee := .builtin .min, args := #[x, y], argTypes := ts }, ty, pos, af, none⟩ (.int k r) := fun a w hF _ => by
 subst hr
 simp [execOp, resolve, invoke, builtin, hF.ev hx, hF.ev hy, Builtin.min_, Builtin.min2]
theorem WL.minI {x y : Operand} {k k' : IntKind} {m n r : Int} {ts : Array TypeId} (hd : Nat.blt d N = true) (hx : ev L x = some (.int k m)) (hy : ev L y = some (.int k' n)) (hr : (if n < m then n else m) = r)
  (h : WA w0 O K N D ((d, .int k r) :: L) C) :
  WK P w0 O ops Q ⟨some d, .call { callee := .builtin .min, args := #[x, y], argTypes := ts }, ty, pos, af, none⟩ K N D L C :=
 WL.y (F := fun _ => True) (Yl.minI hx hy hr) hd (fun _ _ => trivial) h
theorem WL.min3 {x y z : Operand} {k k' k'' : IntKind} {m n o r : Int} {ts : Array TypeId} (hd : Nat.blt d N = true) (hx : ev L x = some (.int k m)) (hy : ev L y = some (.int k' n)) (hz : ev L z = some (.int k'' o)) (hr : (if o < (if n < m then n else m) then o else (if n < m then n else m)) = r)
  (h : WA w0 O K N D ((d, .int k r) :: L) C) :
  WK P w0 O ops Q ⟨some d, .call { callee := .builtin .min, args := #[x, y, z], argTypes := ts }, ty, pos, af, none⟩ K N D L C := by
 subst hr
 refine WL.y (F := fun _ => True) (fun a w hF _ => ?_) hd (fun _ _ => trivial) h
 simp [execOp, resolve, invoke, builtin, hF.ev hx, hF.ev hy, hF.ev hz, Builtin.min_, Builtin.min2]
end
end Go.Eng
namespace Go.Proofs.YtndpdhamadiopaaGreatDoor
open Go Go.Eng Go.Proofs Dg
theorem venv_of {w0 w : World} {O : List Nat} {Fv : List Nat} {b2 b4 b5 b6 b7 b9 bm bk c : Nat} {l : List Dec} {a : Option Addr} {fk : Dec → Option Nat} (hS : St w0 O [vis Fv b5 b9 l [], pt b7 [visF b6 b2 b7 b5] 243, pt b6 [.map (some b9)] 242, pt b2 [pp bm] 187, pt b4 [.slice none 0 0, .int .i64 0] 50, pt bm [.slice a l.length c, .map (some bk)] 240, rowc (.slice a l.length c) l.length 186 3 (decs l), mpg enc3 bk (fun y => (fk y).map encI)] w) : VEnv w Fv b6 b2 b7 b5 b9 bm l a c := by
 have hd := hS.disj
 simp only [List.pairwise_cons, List.mem_cons, List.not_mem_nil, or_false, forall_eq_or_imp, forall_eq] at hd
 obtain ⟨⟨d1, d2, d3, d4, d5, d6, d7⟩, _⟩ := hd
 have hap : ∀ {b : Nat} {cs : List Value} {e : TypeId}, (∀ k, (vis Fv b5 b9 l []).fp k → ¬ (pt b cs e).fp k) → b ∉ Fv := fun h hb => h _ hb rfl
 refine ⟨hS.cell jM rfl, hap d2, hS.cell jM rfl, hap d3, hS.cell jM rfl, hap d1, hS.cell (cs := [.slice a l.length c, .map (some bk)]) jM rfl, hap d5, fun j u hu => ?_⟩
 obtain ⟨b, off, e1, e2⟩ := RdDec.of_row (l := l) (a := a) (cap := c) rfl (hS.ok (rowc (.slice a l.length c) l.length 186 3 (decs l)) jM) j u hu
 refine ⟨b, off, e1, e2, fun hb => d6 b hb ?_⟩
 show (Value.slice a l.length c).ownBlock = some b
 have hpos : 0 < l.length := by
  have h1 := (List.getElem?_eq_some_iff.1 hu).1
  rw [decs_len] at h1; omega
 obtain ⟨g, hg, _, _⟩ := rowc_addr (hS.ok (rowc (.slice a l.length c) l.length 186 3 (decs l)) jM) hpos
 subst hg
 injection e1 with e
 injection e with e _
 rw [← e]; rfl
theorem done_c (Fp : List Nat) (bm : Nat) (l : List Dec) (r : Nat) (w : World) (hm : Mk l) (hr : r < l.length + 2) (ho : (trs l r).ok 0) (hlen : l.length ≤ 16777216) (hS0 : St w Fp [mkr Fp bm l] w) :
  Calls Tryz.prog 98 [pp bm, .int .i64 (r : Int)].toArray w fun e w' => ∃ x : Option Addr × Nat, e = .returned (dval (trs l r) x.1 x.2) ∧ St w Fp [dC x.1 x.2 (trs l r)] w' := by
 obtain ⟨⟨a, c, bk, fk⟩, hk, h1, h2, hS0⟩ := hS0.bunOpen
 simp only [List.cons_append, List.nil_append] at hS0
 refine enter Tryz.func98 rfl Tryz.ntmps98 rfl (C := [pt bm [.slice a l.length c, .map (some bk)] 240, rowc (.slice a l.length c) l.length 186 3 (decs l), mpg enc3 bk (fun y => (fk y).map encI)]) hS0 ?_
 refine jN 3 ?_
 refine WL.box1 rfl rfl rfl (fun b2 => ?_)
 refine jN 1 ?_
 refine WL.alloc F.zero50 rfl (fun b4 => ?_)
 refine jN 5 ?_
 refine WL.alloc F.zero48 rfl (fun b5 => ?_)
 refine jN 5 ?_
 refine WL.makeMapG encI rfl (fun b9 => ?_)
 refine jN 1 ?_
 refine WL.insertG (f := fun _ : Nat => none) 0 undMI keyInt rfl rfl rfl rfl jU ?_
 refine jN 1 ?_
 refine WL.insertG (f := fun q : Nat => if q = 0 then some (.int .i64 0) else none) 1 undMI keyInt rfl rfl rfl rfl jU ?_
 refine jN 3 ?_
 refine WL.alloc F.zero242 rfl (fun b6 => ?_)
 refine jN 7 ?_
 refine WL.alloc F.zero243 rfl (fun b7 => ?_)
 refine jN 12 ?_
 refine WA.chunksE (C' := fun Fv => [vis Fv b5 b9 l [], pt b7 [visF b6 b2 b7 b5] 243, pt b6 [.map (some b9)] 242, pt b2 [pp bm] 187, pt b4 [.slice none 0 0, .int .i64 0] 50, pt bm [.slice a l.length c, .map (some bk)] 240, rowc (.slice a l.length c) l.length 186 3 (decs l), mpg enc3 bk (fun y => (fk y).map encI)]) (fun w hS => ?_) (fun Fv => ?_)
 ·exact St.visClose (l := l) (o := []) (a := none) (c := 0) (bk := b9) (bo := b5) (n := 0) (PlaceOk.nil hm) place_map0 rfl rfl (jK (hS.rowNil 186 3))
 refine jN 5 ?_
 refine WL.callFC (β := List Nat) (us := []) (cap := [pp b6, pp b2, pp b7, pp b5]) (res := fun y => .int .i64 ((visitT (trs l r) []).2 : Int)) (cs := fun y => [vis y b5 b9 l (visitT (trs l r) []).1]) (Cs := [vis Fv b5 b9 l []]) (C1 := [pt b7 [visF b6 b2 b7 b5] 243, pt b6 [.map (some b9)] 242, pt b2 [pp bm] 187, pt b4 [.slice none 0 0, .int .i64 0] 50, pt bm [.slice a l.length c, .map (some bk)] 240, rowc (.slice a l.length c) l.length 186 3 (decs l), mpg enc3 bk (fun y => (fk y).map encI)]) (O' := Fv) F.fun137 (fun d h => by cases h; rfl) rfl rfl (List.Perm.refl _) bun_O1 bun_O2 (fun w hS hS2 => visit_c b6 b2 b7 b5 b9 bm l a c hm (by omega) (r + 1) r (Nat.lt_succ_self _) Fv [] w hr Mk.nil ⟨_, ho⟩ (Nat.le_of_lt (canon_len ho)) (venv_of hS) hS2) (fun F2 => ?_)
 refine jN 6 ?_
 refine WA.openB (fun x3 hk3 h13 h23 => ?_)
 obtain ⟨a3, c3, f3⟩ := x3
 simp only [viCs, List.cons_append, List.nil_append]
 refine jN 11 ?_
 refine WQ.ret (rs := [.cell 4 50]) rfl (.cellN F.agg50 rfl jM rfl .nil) (fun w hS => ⟨(a3, c3), rfl, (jK hS)⟩)
structure FoldG (σ : Type) where
 i : Nat
 out : List Int
 ad : Option Addr
 ac : Nat
 s : σ
theorem Fold_c {σ : Type} (ch : σ → Chunk) (Fs : σ → List Nat) (hF : ∀ s, FpIs (ch s) (Fs s)) (fj : Nat) (hg : funB Tryz.prog fj = some true) (us cap : List Value) (l : List Dec) (a : Option Addr) (c root : Nat) (e0 e1 : Int) (I : List Int → σ → Prop)
  (hll : l.length ≤ 16777216) (hkid : ∀ k x, l[k]? = some x → x.2.1 < k + 2 ∧ x.2.2 < k + 2) (hroot : root < l.length + 2) (s0 : σ) (h0 : I [e0, e1] s0)
  (hj : ∀ (out : List Int) (s : σ) (x : Dec) (z1 z2 : Int) (w : World), l[out.length - 2]? = some x → I out s → out[x.2.1]? = some z1 → out[x.2.2]? = some z2 → St w (Fs s) [ch s] w →
   Calls Tryz.prog fj (us ++ [Value.int .i64 (x.1 : Int), .int .i64 z1, .int .i64 z2] ++ cap).toArray w fun e w' => ∃ y : { y : σ × Int // I (out ++ [y.2]) y.1 }, e = .returned (.int .i64 y.1.2) ∧ St w (Fs s) [ch y.1.1] w')
  (w : World) (hrd : RdDecO w l a (Fs s0)) (hS0 : St w (Fs s0) [ch s0] w) :
  Calls Tryz.prog 117 [.agg [.slice a l.length c, .int .i64 (root : Int)].toArray, .int .i64 e0, .int .i64 e1, Value.func (.func fj) us.toArray cap.toArray].toArray w fun e w' =>
   ∃ y : { y : List Int × σ × Int // I y.1 y.2.1 ∧ y.1.length = l.length + 2 ∧ y.1[root]? = some y.2.2 }, e = .returned (.int .i64 y.1.2.2) ∧ St w (Fs s0) [ch y.1.2.1] w' := by
 refine enter Tryz.func117 rfl Tryz.ntmps117 rfl (C := [ch s0]) hS0 ?_
 refine jN 3 ?_
 refine WL.boxN rfl rfl (fun b4 => ?_)
 refine jN 11 ?_
 refine WL.buildSlice F.sl70 F.ez70 rfl rfl rfl rfl jB rfl (fun b14 => ?_)
 refine jN 18 ?_
 refine WC.chunks (fun w hS => St.rowOf (n := 2) (sz := 1) (cs := [e0, e1].map (Value.int .i64)) (hS.pick (c := pt b14 [.int .i64 e0, .int .i64 e1] 3) jR) rfl (by decide)) ?_
 refine WC.chunks (C' := [ch s0, rowc (.slice (some ⟨b14, 0, none⟩) 2 2) 2 3 1 ([e0, e1].map (Value.int .i64)), pt b4 [.slice a l.length c, .int .i64 (root : Int)] 50]) (fun w hS => (jK hS)) ?_
 refine WC.loop (α := FoldG σ) (fun g => g.i ≤ l.length ∧ g.out.length = g.i + 2 ∧ I g.out g.s) (fun g => [(3, Value.func (.func fj) us.toArray cap.toArray), (4, pp b4), (9, .slice g.ad (g.i + 2) g.ac), (16, .slice a l.length c), (17, .int .i64 (l.length : Int)), (18, .int .i64 (g.i : Int))]) (fun g => [ch g.s, rowc (.slice g.ad (g.i + 2) g.ac) (g.i + 2) 3 1 (g.out.map (Value.int .i64)), pt b4 [.slice a l.length c, .int .i64 (root : Int)] 50]) (fun g => l.length - g.i) (⟨0, [e0, e1], some ⟨b14, 0, none⟩, 2, s0⟩) ?_ ?_ ?_ ?_
 ·exact ⟨Nat.zero_le _, rfl, h0⟩
 ·exact ⟨rfl, rfl, rfl, rfl, rfl, rfl, trivial⟩
 ·rfl
 rintro ⟨i, out, ad, ac, s⟩ ⟨hi, hol, hI⟩
 dsimp only at hi hol hI
 show WC _ _ _ _ _ _ _ [(3, Value.func (.func fj) us.toArray cap.toArray), (4, pp b4), (9, .slice ad (i + 2) ac), (16, .slice a l.length c), (17, .int .i64 (l.length : Int)), (18, .int .i64 (i : Int))] [ch s, rowc (.slice ad (i + 2) ac) (i + 2) 3 1 (out.map (Value.int .i64)), pt b4 [.slice a l.length c, .int .i64 (root : Int)] 50]
 refine jN 7 ?_
 refine WC.cond rfl (fun h19 => ?_) (fun h19 => ?_)
 ·have hlt : i < l.length := by simpa using h19
  obtain ⟨x, hx⟩ : ∃ x, l[i]? = some x := ⟨_, List.getElem?_eq_getElem hlt⟩
  obtain ⟨k1, k2⟩ := hkid i x hx
  obtain ⟨bl, off, rfl, hbl, hcx⟩ := hrd.at hx
  obtain ⟨z1, hz1⟩ : ∃ z, out[x.2.1]? = some z := ⟨_, List.getElem?_eq_getElem (by omega)⟩
  obtain ⟨z2, hz2⟩ : ∃ z, out[x.2.2]? = some z := ⟨_, List.getElem?_eq_getElem (by omega)⟩
  refine jN 7 ?_
  refine WL.indexAddr F.sl48 rfl rfl rfl hlt ?_
  refine jN 1 ?_
  refine WL.loadN F.agg186 rfl rfl (vs := [Value.int .i64 (x.1 : Int), .int .i64 (x.2.1 : Int), .int .i64 (x.2.2 : Int)]) rfl (fun w hS j v hv => hS.oldc (hcx j v hv) hbl) ?_
  refine jN 1 ?_
  refine WL.alloc F.zero186 rfl (fun b11 => ?_)
  refine jN 4 ?_
  refine WC.know (φ := ∃ g2, ad = some ⟨g2, 0, none⟩ ∧ i + 2 = i + 2 ∧ i + 2 ≤ ac) (fun w hS => rowc_addr (hS.ok (rowc (.slice ad (i + 2) ac) (i + 2) 3 1 (out.map (Value.int .i64))) jM) (by omega)) (fun ⟨g2, hg2, _, _⟩ => ?_)
  ·subst hg2
   refine WC.drawsL (by kernel_rfl) (FactsOk.cons (ds := [14, 15, 16]) (LoadOk.one (t := 11) (off := 0) rfl jM rfl) (FactsOk.cons (ds := [14, 15, 16]) (LoadOk.one (t := 11) (off := 1) rfl jM rfl) (FactsOk.cons (ds := [14, 15, 16]) (LoadOk.by (Y := fun w => w.cell? ⟨g2, 0 + x.2.1 * 1, none⟩ = some (.int .i64 z1)) (fun w hS => by rw [Nat.zero_add, Nat.mul_one]; exact rowc_cell (hS.ok (rowc (.slice (some ⟨g2, 0, none⟩) (i + 2) ac) (i + 2) 3 1 (out.map (Value.int .i64))) jM) (by simp [hz1]))) (FactsOk.cons (ds := [14, 15, 16]) (LoadOk.one (t := 11) (off := 2) rfl jM rfl) (FactsOk.cons (ds := [14, 15, 16]) (LoadOk.by (Y := fun w => w.cell? ⟨g2, 0 + x.2.2 * 1, none⟩ = some (.int .i64 z2)) (fun w hS => by rw [Nat.zero_add, Nat.mul_one]; exact rowc_cell (hS.ok (rowc (.slice (some ⟨g2, 0, none⟩) (i + 2) ac) (i + 2) 3 1 (out.map (Value.int .i64))) jM) (by simp [hz2]))) (FactsOk.nil)))))) ?_
   refine jT 0 rfl (Yl.move rfl) ?_
   refine jT 1 rfl (Yl.move rfl) ?_
   refine jT 2 rfl (Yl.fieldAddr0 F.fld186_0 rfl) ?_
   refine jF 3 0 rfl rfl (Yl.load1 F.one3 rfl) ?_
   refine jT 4 rfl (Yl.move rfl) ?_
   refine jT 5 rfl (Yl.fieldAddr0 F.fld186_1 rfl) ?_
   refine jF 6 1 rfl rfl (Yl.load1 F.one3 rfl) ?_
   refine jT 7 rfl (Yl.indexAddr F.sl70 rfl rfl (by omega)) ?_
   refine jF 8 2 rfl rfl (Yl.load1 F.one3 rfl) ?_
   refine jT 9 rfl (Yl.move rfl) ?_
   refine jT 10 rfl (Yl.fieldAddr0 F.fld186_2 rfl) ?_
   refine jF 11 3 rfl rfl (Yl.load1 F.one3 rfl) ?_
   refine jT 12 rfl (Yl.indexAddr F.sl70 rfl rfl (by omega)) ?_
   refine jF 13 4 rfl rfl (Yl.load1 F.one3 rfl) ?_
   refine jA 14 rfl ?_
   refine WL.callFC (β := { y : σ × Int // I (out ++ [y.2]) y.1 }) (us := us) (cap := cap) (res := fun y => .int .i64 y.1.2) (cs := fun y => [ch y.1.1]) (Cs := [ch s]) (C1 := [pt b11 [Value.int .i64 (x.1 : Int), .int .i64 (x.2.1 : Int), .int .i64 (x.2.2 : Int)] 186, rowc (.slice (some ⟨g2, 0, none⟩) (i + 2) ac) (i + 2) 3 1 (out.map (Value.int .i64)), pt b4 [.slice (some ⟨bl, off, none⟩) l.length c, .int .i64 (root : Int)] 50]) (O' := Fs s) hg (fun d h => by cases h; rfl) rfl rfl ?_ (fun c hc k hk => (by rw [List.mem_singleton.1 hc] at hk; exact (hF s k).1 hk)) (fun k hk => ⟨_, List.mem_singleton.2 rfl, (hF s k).2 hk⟩) (fun w hS hS2 => hj out s x z1 z2 w (by rw [hol]; simpa using hx) hI hz1 hz2 hS2) (fun y36 => ?_)
   ·exact ((List.Perm.swap _ _ _).trans (List.Perm.refl _))
   refine jG ?_
   refine jA 15 rfl ?_
   refine WL.buildSlice F.sl70 F.ez70 rfl rfl rfl rfl jB rfl (fun b37 => ?_)
   refine jG ?_
   refine jA 16 rfl ?_
   refine WL.appendE (news := [.int .i64 y36.1.2]) F.el70 rfl rfl rfl jR (fun w hS jj u hu => by rw [Nat.zero_add]; exact hS.cell (cs := [.int .i64 y36.1.2]) jM hu) rfl jO (Nat.le_trans (m := 33554432) (by omega) (by decide)) (by omega) (fun ad2 ac2 => ?_)
   refine jG ?_
   refine jT 17 rfl (Yl.assign rfl) ?_
   refine jD ?_
   refine jN 8 ?_
   refine WQ.chunks (C' := [ch y36.1.1, rowc (.slice ad2 (i + 1 + 2) ac2) (i + 1 + 2) 3 1 ((out ++ [y36.1.2]).map (Value.int .i64)), pt b4 [.slice (some ⟨bl, off, none⟩) l.length c, .int .i64 (root : Int)] 50]) (fun w hS => ?_) ?_
   ·rw [List.map_append]
    exact (jK hS)
   refine WQ.back (⟨i + 1, out ++ [y36.1.2], ad2, ac2, y36.1.1⟩) ?_ ?_ ?_ ?_
   ·exact ⟨by show i + 1 ≤ _; omega, by simp [hol], y36.2⟩
   ·(show l.length - (i + 1) < l.length - i; omega)
   ·exact ⟨rfl, rfl, rfl, rfl, rfl, rfl, trivial⟩
   ·rfl
 ·have hie : i = l.length := by simp at h19; omega
  subst hie
  obtain ⟨z, hz⟩ : ∃ z, out[root]? = some z := ⟨_, List.getElem?_eq_getElem (by omega)⟩
  refine jN 7 ?_
  refine WA.know (φ := ∃ g2, ad = some ⟨g2, 0, none⟩ ∧ l.length + 2 = l.length + 2 ∧ l.length + 2 ≤ ac) (fun w hS => rowc_addr (hS.ok (rowc (.slice ad (l.length + 2) ac) (l.length + 2) 3 1 (out.map (Value.int .i64))) jM) (by omega)) (fun ⟨g2, hg2, _, _⟩ => ?_)
  subst hg2
  refine jN 7 ?_
  refine WL.indexAddr F.sl70 rfl rfl rfl (by omega) ?_
  refine jN 1 ?_
  refine WL.load1 F.one3 rfl rfl (v := .int .i64 z) (fun w hS => by rw [Nat.zero_add, Nat.mul_one]; exact rowc_cell (hS.ok (rowc (.slice (some ⟨g2, 0, none⟩) (l.length + 2) ac) (l.length + 2) 3 1 (out.map (Value.int .i64))) jM) (by simp [hz])) ?_
  refine jN 5 ?_
  refine WQ.ret (rs := [.tmp 8]) rfl (.tmp rfl .nil) (fun w hS => ⟨⟨(out, s, z), hI, hol, hz⟩, rfl, (jK hS)⟩)
end Go.Proofs.YtndpdhamadiopaaGreatDoor
namespace Dg
def atD (l : List Dec) (r : Nat) : Dec := if r < 2 then (24, r, r) else l.getD (r - 2) (24, r, r)
theorem atD_ge {l : List Dec} {r : Nat} {x : Dec} (h2 : 2 ≤ r) (hx : l[r - 2]? = some x) : atD l r = x := by
 unfold atD
 rw [if_neg (by omega)]
 simp [List.getD, hx]
def loP (l : List Dec) (r i : Nat) : Nat := if (atD l r).1 = i then (atD l r).2.1 else r
def hiP (l : List Dec) (r i : Nat) : Nat := if (atD l r).1 = i then (atD l r).2.2 else r
theorem half_at {l : List Dec} (h : Mk l) {r i : Nat} (hr : r < l.length + 2) {m : Nat} (ho : (trs l r).ok m) (hi : i ≤ (atD l r).1) (hi24 : i < 24) :
  loP l r i < l.length + 2 ∧ hiP l r i < l.length + 2 ∧ (trs l (loP l r i)).ok (i + 1) ∧ (trs l (hiP l r i)).ok (i + 1) ∧ (∀ c, (trs l r).ev c = bif c i then (trs l (hiP l r i)).ev c else (trs l (loP l r i)).ev c) ∧ ((atD l r).1 = i → m ≤ i) ∧ ((atD l r).1 = i → 2 ≤ r) := by
 unfold loP hiP
 rcases Nat.lt_or_ge r 2 with h2 | h2
 ·have e : atD l r = (24, r, r) := by unfold atD; rw [if_pos h2]
  rw [e]
  have hne : ¬ ((24, r, r) : Dec).1 = i := by simp only; omega
  simp only [if_neg hne]
  have hlf : ∃ b, trs l r = .lf b := by
   rcases r with _ | _ | r
   ·exact ⟨_, (trs_zero l).1⟩
   ·exact ⟨_, (trs_zero l).2⟩
   ·omega
  obtain ⟨b, hb⟩ := hlf
  rw [hb]
  exact ⟨hr, hr, trivial, trivial, fun c => by cases c i <;> rfl, fun h => absurd h hne, fun h => absurd h hne⟩
 ·obtain ⟨k, rfl⟩ : ∃ k, r = k + 2 := ⟨r - 2, by omega⟩
  have hk : k < l.length := by omega
  have hx := List.getElem?_eq_getElem hk
  have e : atD l (k + 2) = l[k] := atD_ge h2 hx
  have hb := h.kid k _ hx
  have ht := h.at hx
  rw [e] at hi ⊢
  rw [ht] at ho ⊢
  by_cases hv : l[k].1 = i
  ·simp only [if_pos hv]
   refine ⟨by omega, by omega, hv ▸ ho.2.2.2.1, hv ▸ ho.2.2.2.2, fun c => ?_, fun _ => hv ▸ ho.1, fun _ => h2⟩
   simp only [BT.ev, hv]
  ·simp only [if_neg hv]
   have hok : (BT.nd l[k].1 (trs l l[k].2.1) (trs l l[k].2.2)).ok (i + 1) := ⟨by omega, ho.2⟩
   rw [ht]
   exact ⟨hr, hr, hok, hok, fun c => by cases c i <;> rfl, fun h => absurd h hv, fun h => absurd h hv⟩
theorem atD_lt {l : List Dec} (h : Mk l) {r : Nat} (hr : r < l.length + 2) (h2 : 2 ≤ r) : (atD l r).1 < 24 := by
 obtain ⟨k, rfl⟩ : ∃ k, r = k + 2 := ⟨r - 2, by omega⟩
 have hk : k < l.length := by omega
 rw [atD_ge h2 (List.getElem?_eq_getElem hk)]
 exact (h.kid k _ (List.getElem?_eq_getElem hk)).1
theorem atD_ok {l : List Dec} (h : Mk l) {r m : Nat} (hr : r < l.length + 2) (ho : (trs l r).ok m) (hm : m ≤ 24) : m ≤ (atD l r).1 := by
 rcases Nat.lt_or_ge r 2 with h2 | h2
 ·unfold atD; rw [if_pos h2]; exact hm
 ·obtain ⟨k, rfl⟩ : ∃ k, r = k + 2 := ⟨r - 2, by omega⟩
  have hk : k < l.length := by omega
  rw [atD_ge h2 (List.getElem?_eq_getElem hk)]
  rw [h.at (List.getElem?_eq_getElem hk)] at ho
  exact ho.1
structure JR (bop : Bool → Bool → Bool) (l : List Dec) (r : Nat) (s t : BT) : Prop where
 lt : r < l.length + 2
 ok : ∀ j, s.ok j → t.ok j → (trs l r).ok j
 ev : ∀ c, (trs l r).ev c = bop (s.ev c) (t.ev c)
theorem JR.ext {bop : Bool → Bool → Bool} {l : List Dec} {r : Nat} {s t : BT} (h : JR bop l r s t) {l' : List Dec} (hp : ∃ z, l' = l ++ z) : JR bop l' r s t := by
 obtain ⟨z, rfl⟩ := hp
 have e := trs_append (m := z) h.lt
 exact ⟨by rw [List.length_append]; have := h.lt; omega, fun j hs ht => by rw [e]; exact h.ok j hs ht, fun c => by rw [e]; exact h.ev c⟩
def SeenOk (bop : Bool → Bool → Bool) (la lb l : List Dec) (f : Nat × Nat → Option Nat) : Prop := ∀ x y r, f (x, y) = some r → JR bop l r (trs la x) (trs lb y)
theorem SeenOk.ext {bop : Bool → Bool → Bool} {la lb l l' : List Dec} {f : Nat × Nat → Option Nat} (h : SeenOk bop la lb l f) (hp : ∃ z, l' = l ++ z) : SeenOk bop la lb l' f := fun x y r hr => (h x y r hr).ext hp
theorem SeenOk.put {bop : Bool → Bool → Bool} {la lb l : List Dec} {f : Nat × Nat → Option Nat} (h : SeenOk bop la lb l f) {x y r : Nat} (hr : JR bop l r (trs la x) (trs lb y)) : SeenOk bop la lb l (fun q => if q = (x, y) then some r else f q) := by
 intro x' y' r' h'
 by_cases e : (x', y') = (x, y)
 ·simp only [if_pos e, Option.some.injEq] at h'
  cases e
  rw [← h']; exact hr
 ·simp only [if_neg e] at h'
  exact h x' y' r' h'
structure OpSpec (bop : Bool → Bool → Bool) (opf : Nat → Nat → Nat × Bool) : Prop where
 stop : ∀ x y, (opf x y).2 = true → ∃ b : Bool, (opf x y).1 = (bif b then 1 else 0) ∧ ∀ p q : Bool, (x = 0 → p = false) → (x = 1 → p = true) → (y = 0 → q = false) → (y = 1 → q = true) → bop p q = b
 go : ∀ x y, (opf x y).2 = false → 2 ≤ x ∨ 2 ≤ y
theorem OpSpec.done {bop : Bool → Bool → Bool} {opf : Nat → Nat → Nat × Bool} (h : OpSpec bop opf) {la lb l : List Dec} {x y : Nat} (hs : (opf x y).2 = true) : JR bop l (opf x y).1 (trs la x) (trs lb y) := by
 obtain ⟨b, h1, h2⟩ := h.stop x y hs
 have hb : trs l (opf x y).1 = .lf b := by
  rw [h1]; cases b
  ·exact (trs_zero l).1
  ·exact (trs_zero l).2
 refine ⟨by rw [h1]; cases b <;> simp, fun j _ _ => by rw [hb]; trivial, fun c => ?_⟩
 rw [hb]
 symm
 refine h2 _ _ (fun e => ?_) (fun e => ?_) (fun e => ?_) (fun e => ?_)
 ·rw [e, (trs_zero la).1]; rfl
 ·rw [e, (trs_zero la).2]; rfl
 ·rw [e, (trs_zero lb).1]; rfl
 ·rw [e, (trs_zero lb).2]; rfl
theorem JR.node {bop : Bool → Bool → Bool} {la lb l1 l2 l3 : List Dec} {x y i p q r m : Nat} (ha : Mk la) (hb : Mk lb) (hx : x < la.length + 2) (hy : y < lb.length + 2) (hox : (trs la x).ok m) (hoy : (trs lb y).ok m) (hi : i = min (atD la x).1 (atD lb y).1) (hi24 : i < 24)
  (h1 : JR bop l1 p (trs la (loP la x i)) (trs lb (loP lb y i))) (h2 : JR bop l2 q (trs la (hiP la x i)) (trs lb (hiP lb y i))) (he : ∃ z, l2 = l1 ++ z) (h3 : MadeN l2 l3 r (mkN i (trs l2 p) (trs l2 q))) : JR bop l3 r (trs la x) (trs lb y) := by
 have hix : i ≤ (atD la x).1 := by omega
 have hiy : i ≤ (atD lb y).1 := by omega
 obtain ⟨a1, a2, a3, a4, a5, a6, _⟩ := half_at ha hx hox hix hi24
 obtain ⟨b1, b2, b3, b4, b5, b6, _⟩ := half_at hb hy hoy hiy hi24
 have h1' := h1.ext he
 refine ⟨h3.lt, fun j hs ht => ?_, fun c => ?_⟩
 ·rw [h3.tree]
  refine mkN_ok ?_ hi24 (h1'.ok _ a3 b3) (h2.ok _ a4 b4)
  have e : (atD la x).1 = i ∨ (atD lb y).1 = i := by omega
  rcases e with e | e
  ·exact (half_at ha hx hs hix hi24).2.2.2.2.2.1 e
  ·exact (half_at hb hy ht hiy hi24).2.2.2.2.2.1 e
 ·rw [h3.tree, mkN_ev, a5 c, b5 c, h1'.ev c, h2.ev c]
  cases c i <;> rfl
def andF (x y : Nat) : Nat × Bool := (min (min x y) 1, x == 0 || y == 0 || (x == 1 && y == 1))
def orF (x y : Nat) : Nat × Bool := if x = 1 ∨ y = 1 then (1, true) else (0, x == 0 && y == 0)
def xorF (x y : Nat) : Nat × Bool := (x ^^^ y, decide (x < 2) && decide (y < 2))
theorem and_spec : OpSpec (fun p q => p && q) andF where
 stop x y h := by
  unfold andF at h ⊢
  simp only [Bool.or_eq_true, Bool.and_eq_true, beq_iff_eq] at h
  rcases h with (h | h) | ⟨h, h'⟩
  ·refine ⟨false, by simp only [cond_false]; omega, fun p q h1 _ _ _ => by rw [h1 h]; rfl⟩
  ·refine ⟨false, by simp only [cond_false]; omega, fun p q _ _ h1 _ => by rw [h1 h]; simp⟩
  ·refine ⟨true, by simp only [cond_true]; omega, fun p q _ h1 _ h2 => by rw [h1 h, h2 h']; rfl⟩
 go x y h := by
  unfold andF at h
  simp at h
  omega
theorem or_spec : OpSpec (fun p q => p || q) orF where
 stop x y h := by
  unfold orF at h ⊢
  split at h
  ·rename_i h1
   rw [if_pos h1]
   refine ⟨true, rfl, fun p q _ a _ b => ?_⟩
   rcases h1 with e | e
   ·rw [a e]; rfl
   ·rw [b e]; simp
  ·rename_i h1
   rw [if_neg h1]
   simp only [Bool.and_eq_true, beq_iff_eq] at h
   exact ⟨false, rfl, fun p q a _ b _ => by rw [a h.1, b h.2]; rfl⟩
 go x y h := by
  unfold orF at h
  split at h
  ·cases h
  ·simp at h
   omega
end Dg
namespace Go.Proofs.YtndpdhamadiopaaGreatDoor
open Go Go.Eng Go.Proofs Dg
theorem at_c (l : List Dec) (a : Option Addr) (c root r : Nat) (w : World) (hll : l.length ≤ 16777216) (hr : r < l.length + 2) (hrd : RdDec w l a) :
  Pure Tryz.prog 180 [.agg [.slice a l.length c, .int .i64 (root : Int)].toArray, .int .i64 (r : Int)] w (.agg [.int .i64 ((atD l r).1 : Int), .int .i64 ((atD l r).2.1 : Int), .int .i64 ((atD l r).2.2 : Int)].toArray) := by
 refine enter Tryz.func180 rfl Tryz.ntmps180 rfl (St.init _) ?_
 refine jN 3 ?_
 refine WL.boxN rfl rfl (fun b2 => ?_)
 refine jN 1 ?_
 refine WL.alloc F.zero186 rfl (fun b4 => ?_)
 refine jN 11 ?_
 refine WC.cond rfl (fun h6 => ?_) (fun h6 => ?_)
 ·have h2 : r < 2 := by simp at h6; omega
  have ha : atD l r = (24, r, r) := by unfold atD; rw [if_pos h2]
  refine jN 14 ?_
  exact WQ.ret (rs := [.cell 4 186]) rfl (.cellN F.agg186 rfl jM rfl .nil) (fun w hS => ⟨by rw [ha]; rfl, hS.sublist (List.nil_sublist _)⟩)
 ·have h2 : 2 ≤ r := by simp at h6; omega
  obtain ⟨x, hx⟩ : ∃ x, l[r - 2]? = some x := ⟨_, List.getElem?_eq_getElem (by omega)⟩
  have ha : atD l r = x := atD_ge h2 hx
  obtain ⟨bl, off, rfl, hcx⟩ := hrd.at hx
  have hri : ((r - 2 : Nat) : Int) = (r : Int) - 2 := by omega
  refine jN 12 ?_
  refine WA.say 13 (.int .i64 ((r - 2 : Nat) : Int)) (by rw [hri]; rfl) ?_
  refine jN 1 ?_
  refine WL.indexAddr F.sl48 rfl rfl rfl (List.getElem?_eq_some_iff.1 hx).1 ?_
  refine jN 1 ?_
  refine WL.loadN F.agg186 rfl rfl (vs := [Value.int .i64 (x.1 : Int), .int .i64 (x.2.1 : Int), .int .i64 (x.2.2 : Int)]) rfl (fun w hS j v hv => hS.oldc (hcx j v hv) (by simp)) ?_
  refine jN 5 ?_
  exact WQ.ret (rs := [.cell 4 186]) rfl (.cellN F.agg186 rfl jM rfl .nil) (fun w hS => ⟨by rw [ha]; rfl, hS.sublist (List.nil_sublist _)⟩)
structure OpOk (g : Nat) (bop : Bool → Bool → Bool) (opf : Nat → Nat → Nat × Bool) : Prop where
 fn : funB Tryz.prog g = some true
 spec : OpSpec bop opf
 call : ∀ (x y : Nat) (w : World), x ≤ 1099511627776 → y ≤ 1099511627776 → Pure Tryz.prog g [.int .i64 (x : Int), .int .i64 (y : Int)] w (.tuple #[.int .i64 ((opf x y).1 : Int), .bool (opf x y).2])
theorem both_c (x y : Nat) (w : World) (hx : x ≤ 1099511627776) (hy : y ≤ 1099511627776) : Pure Tryz.prog 106 [.int .i64 (x : Int), .int .i64 (y : Int)] w (.tuple #[.int .i64 ((andF x y).1 : Int), .bool (andF x y).2]) := by
 refine enter Tryz.func106 rfl Tryz.ntmps106 rfl (St.init _) ?_
 refine jN 15 ?_
 refine WL.min3 (r := ((min (min x y) 1 : Nat) : Int)) rfl rfl rfl rfl (by (repeat split) <;> omega) ?_
 refine jN 6 ?_
 refine WA.splitB (i := 11) rfl (fun g11 => ?_) (fun g11 => ?_)
 ·refine jN 29 ?_
  refine WQ.ret (rs := [.tmp 4, .tmp 5]) rfl (.tmp rfl (.tmp rfl .nil)) (fun w hS => ⟨?_, hS⟩)
  have e : ∀ b : Bool, b = (andF x y).2 → Ending.returned (tup [.int .i64 ((min (min x y) 1 : Nat) : Int), .bool b]) = .returned (.tuple #[.int .i64 ((andF x y).1 : Int), .bool (andF x y).2]) := fun b hb => by rw [hb]; rfl
  refine e _ ?_
  unfold andF
  simp at *
  first | done | omega | (simp [*]; done) | (rw [Bool.eq_iff_iff]; simp; omega)
 ·refine jN 10 ?_
  refine WA.splitB (i := 15) rfl (fun g15 => ?_) (fun g15 => ?_)
  ·refine jN 21 ?_
   refine WQ.ret (rs := [.tmp 4, .tmp 5]) rfl (.tmp rfl (.tmp rfl .nil)) (fun w hS => ⟨?_, hS⟩)
   have e : ∀ b : Bool, b = (andF x y).2 → Ending.returned (tup [.int .i64 ((min (min x y) 1 : Nat) : Int), .bool b]) = .returned (.tuple #[.int .i64 ((andF x y).1 : Int), .bool (andF x y).2]) := fun b hb => by rw [hb]; rfl
   refine e _ ?_
   unfold andF
   simp at *
   first | done | omega | (simp [*]; done) | (rw [Bool.eq_iff_iff]; simp; omega)
  ·refine jN 9 ?_
   refine WA.splitB (i := 18) rfl (fun g18 => ?_) (fun g18 => ?_)
   ·refine jN 18 ?_
    refine WQ.ret (rs := [.tmp 4, .tmp 5]) rfl (.tmp rfl (.tmp rfl .nil)) (fun w hS => ⟨?_, hS⟩)
    have e : ∀ b : Bool, b = (andF x y).2 → Ending.returned (tup [.int .i64 ((min (min x y) 1 : Nat) : Int), .bool b]) = .returned (.tuple #[.int .i64 ((andF x y).1 : Int), .bool (andF x y).2]) := fun b hb => by rw [hb]; rfl
    refine e _ ?_
    unfold andF
    simp at *
    first | done | omega | (simp [*]; done) | (rw [Bool.eq_iff_iff]; simp; omega)
   ·refine jN 16 ?_
    refine WQ.ret (rs := [.tmp 4, .tmp 5]) rfl (.tmp rfl (.tmp rfl .nil)) (fun w hS => ⟨?_, hS⟩)
    have e : ∀ b : Bool, b = (andF x y).2 → Ending.returned (tup [.int .i64 ((min (min x y) 1 : Nat) : Int), .bool b]) = .returned (.tuple #[.int .i64 ((andF x y).1 : Int), .bool (andF x y).2]) := fun b hb => by rw [hb]; rfl
    refine e _ ?_
    unfold andF
    simp at *
    first | done | omega | (simp [*]; done) | (rw [Bool.eq_iff_iff]; simp; omega)
theorem both_ok : OpOk 106 (fun p q => p && q) andF := ⟨F.fun106, and_spec, both_c⟩
theorem either_c (x y : Nat) (w : World) (hx : x ≤ 1099511627776) (hy : y ≤ 1099511627776) : Pure Tryz.prog 107 [.int .i64 (x : Int), .int .i64 (y : Int)] w (.tuple #[.int .i64 ((orF x y).1 : Int), .bool (orF x y).2]) := by
 refine enter Tryz.func107 rfl Tryz.ntmps107 rfl (St.init _) ?_
 refine jN 17 ?_
 refine WA.splitB (i := 8) rfl (fun g8 => ?_) (fun g8 => ?_)
 ·have hor : x = 1 ∨ y = 1 := by (simp at g8; omega)
  have ho : orF x y = (1, true) := by (unfold orF; rw [if_pos hor])
  refine jN 19 ?_
  refine WQ.ret (rs := [.tmp 4, .tmp 5]) rfl (.tmp rfl (.tmp rfl .nil)) (fun w hS => ⟨?_, hS⟩)
  rw [ho]; rfl
 ·refine jN 10 ?_
  refine WC.cond rfl (fun h11 => ?_) (fun h11 => ?_)
  ·have hor : x = 1 ∨ y = 1 := by (first | (simp at g8; omega) | (simp at h11; omega) | (simp at *; omega))
   have ho : orF x y = (1, true) := by (unfold orF; rw [if_pos hor])
   refine jN 10 ?_
   refine WQ.ret (rs := [.tmp 4, .tmp 5]) rfl (.tmp rfl (.tmp rfl .nil)) (fun w hS => ⟨?_, hS⟩)
   rw [ho]; rfl
  ·have hor : ¬ (x = 1 ∨ y = 1) := by (simp at g8 h11; omega)
   have ho : orF x y = (0, x == 0 && y == 0) := by (unfold orF; rw [if_neg hor])
   refine jN 10 ?_
   refine WA.splitB (i := 14) rfl (fun g14 => ?_) (fun g14 => ?_)
   ·refine jN 15 ?_
    refine WQ.ret (rs := [.tmp 4, .tmp 5]) rfl (.tmp rfl (.tmp rfl .nil)) (fun w hS => ⟨?_, hS⟩)
    rw [ho]
    have e : ∀ b : Bool, b = (x == 0 && y == 0) → Ending.returned (tup [.int .i64 0, .bool b]) = .returned (.tuple #[.int .i64 ((0 : Nat) : Int), .bool (x == 0 && y == 0)]) := fun b hb => by rw [hb]; rfl
    refine e _ ?_
    simp at *
    first | done | omega | (simp [*]; done) | (rw [Bool.eq_iff_iff]; simp; omega)
   ·refine jN 13 ?_
    refine WQ.ret (rs := [.tmp 4, .tmp 5]) rfl (.tmp rfl (.tmp rfl .nil)) (fun w hS => ⟨?_, hS⟩)
    rw [ho]
    have e : ∀ b : Bool, b = (x == 0 && y == 0) → Ending.returned (tup [.int .i64 0, .bool b]) = .returned (.tuple #[.int .i64 ((0 : Nat) : Int), .bool (x == 0 && y == 0)]) := fun b hb => by rw [hb]; rfl
    refine e _ ?_
    simp at *
    first | done | omega | (simp [*]; done) | (rw [Bool.eq_iff_iff]; simp; omega)
theorem either_ok : OpOk 107 (fun p q => p || q) orF := ⟨F.fun107, or_spec, either_c⟩
theorem keyPair : KeyT Tryz.prog 139 enc2 := KeyT.twoOf (by kernel_rfl)
theorem undMP : Tryz.prog.underlying 249 = some (.map 139 3) := by kernel_rfl
abbrev jnCs (bm bs : Nat) (l : List Dec) (f : Nat × Nat → Option Nat) (F1 : List Nat) : List Chunk := [mkr F1 bm l, mpg enc2 bs (fun q => (f q).map encI)]
def jns (F : List Nat) (bm bs : Nat) (l : List Dec) (f : Nat × Nat → Option Nat) : Chunk := bun F (jnCs bm bs l f) (fun _ => True)
theorem St.jnsClose {w0 w : World} {O : List Nat} {C : List Chunk} {F1 : List Nat} {bm bs : Nat} {l : List Dec} {f : Nat × Nat → Option Nat} (h : St w0 O (mkr F1 bm l :: mpg enc2 bs (fun q => (f q).map encI) :: C) w) : St w0 O (jns (F1 ++ ([bs] ++ [])) bm bs l f :: C) w :=
 St.bunClose' (Cs := jnCs bm bs l f) F1 trivial (.cons FpIs.bun (.cons FpIs.mpg .nil)) h
theorem pair_map {f : Nat × Nat → Option Nat} {k : Nat × Nat} {n : Nat} {z : Int} (hz : z = (n : Int)) : (fun q : Nat × Nat => if q = k then some (Value.int .i64 z) else (f q).map encI) = (fun y => (if y = k then some n else f y).map encI) := by
 funext q
 by_cases h : q = k
 ·rw [if_pos h, if_pos h, hz]; rfl
 ·rw [if_neg h, if_neg h]
theorem RdDecO.now {w0 w : World} {F : List Nat} {C : List Chunk} {l : List Dec} {a : Option Addr} (h : RdDecO w0 l a F) (hS : St w0 F C w) : RdDec w l a := fun j u hu => by
 obtain ⟨b, off, e1, e2, e3⟩ := h j u hu
 exact ⟨b, off, e1, hS.oldc e2 e3⟩
structure JEnv (w : World) (F : List Nat) (bp bm bs : Nat) (la lb : List Dec) (aa ab : Option Addr) (ca cb ra rb : Nat) : Prop where
 ce : ∀ j v, [pp bm, .slice aa la.length ca, .int .i64 (ra : Int), .slice ab lb.length cb, .int .i64 (rb : Int), .map (some bs)][j]? = some v → w.cell? ⟨bp, j, none⟩ = some v
 ce' : bp ∉ F
 rda : RdDecO w la aa F
 rdb : RdDecO w lb ab F
theorem JEnv.next {w0 w : World} {F F' : List Nat} {C1 : List Chunk} {bp bm bs ca cb ra rb : Nat} {la lb l : List Dec} {aa ab : Option Addr} {f : Nat × Nat → Option Nat} (h : JEnv w0 F bp bm bs la lb aa ab ca cb ra rb) (hS : St w0 F ([jns F' bm bs l f] ++ C1) w) : JEnv w F' bp bm bs la lb aa ab ca cb ra rb := by
 have hap := fun {z : Nat} (h1 : z < w0.heap.size) (h2 : z ∉ F) => hS.apart (F := F') bun_O2 h1 h2
 refine ⟨fun j v hv => hS.oldc (h.ce j v hv) h.ce', hap (World.block_lt_of_cell? w0 _ (h.ce 0 _ rfl)) h.ce', fun j u hu => ?_, fun j u hu => ?_⟩
 ·obtain ⟨b, off, e1, e2, e3⟩ := h.rda j u hu
  exact ⟨b, off, e1, hS.oldc e2 e3, hap (World.block_lt_of_cell? w0 _ e2) e3⟩
 ·obtain ⟨b, off, e1, e2, e3⟩ := h.rdb j u hu
  exact ⟨b, off, e1, hS.oldc e2 e3, hap (World.block_lt_of_cell? w0 _ e2) e3⟩
abbrev JT := List Nat × List Dec × (Nat × Nat → Option Nat) × Nat
structure JPost (bop : Bool → Bool → Bool) (la lb l : List Dec) (m x y : Nat) (z : JT) : Prop where
 ismk : Mk z.2.1
 pre : ∃ t, z.2.1 = l ++ t
 len : z.2.1.length + 1 ≤ l.length + 2 ^ (24 - m)
 jr : JR bop z.2.1 z.2.2.2 (trs la x) (trs lb y)
 seen : SeenOk bop la lb z.2.1 z.2.2.1
set_option maxRecDepth 100000 in
theorem join_c (g : Nat) (bop : Bool → Bool → Bool) (opf : Nat → Nat → Nat × Bool) (hop : OpOk g bop opf) (bp bm bs : Nat) (la lb : List Dec) (aa ab : Option Addr) (ca cb ra rb : Nat) (ha : Mk la) (hb : Mk lb) (hla : la.length ≤ 16777216) (hlb : lb.length ≤ 16777216) : ∀ (n m : Nat), m ≤ 24 → 24 - m < n →
  ∀ (Fp : List Nat) (l : List Dec) (f : Nat × Nat → Option Nat) (x y : Nat) (w : World), x < la.length + 2 → y < lb.length + 2 → (trs la x).ok m → (trs lb y).ok m → Mk l → SeenOk bop la lb l f → l.length + 2 ^ (24 - m) ≤ 16777216 → JEnv w Fp bp bm bs la lb aa ab ca cb ra rb → St w Fp [jns Fp bm bs l f] w →
  Calls Tryz.prog 142 [pp bp, .int .i64 (x : Int), .int .i64 (y : Int), Value.func (.func g) [].toArray [].toArray].toArray w fun e w' => ∃ z : { z : JT // JPost bop la lb l m x y z }, e = .returned (.int .i64 (z.1.2.2.2 : Int)) ∧ St w Fp [jns z.1.1 bm bs z.1.2.1 z.1.2.2.1] w' := by
 intro n
 induction n with
 | zero => intro m; omega
 | succ n hrec =>
 intro m hm24 hmn Fp l f x y w hx hy hox hoy hm hsn hsz hE hS0
 have hpow : l.length + 1 ≤ l.length + 2 ^ (24 - m) := by have := Nat.one_le_two_pow (n := 24 - m); omega
 obtain ⟨F1, _, h1, h2, hS0⟩ := hS0.bunOpen
 simp only [jnCs, List.cons_append, List.nil_append] at hS0
 refine enter Tryz.func142 rfl Tryz.ntmps142 rfl (C := [mkr F1 bm l, mpg enc2 bs (fun q => (f q).map encI)]) hS0 ?_
 refine jN 16 ?_
 refine WL.callF0 (β := Unit) (res := fun _ => .returned (.tuple #[.int .i64 ((opf x y).1 : Int), .bool (opf x y).2])) (cs := fun _ => []) (ψ := fun _ => True) (us := []) (cap := []) hop.fn (fun d h => by cases h; rfl) rfl rfl (fun w hS => (hop.call x y w (by omega) (by omega)).mono (fun e w2 h => ⟨(), trivial, h.1, h.2⟩)) (fun _ _ => ?_)
 refine WL.step ?_
 refine WL.move rfl rfl ?_
 refine WL.step ?_
 refine WL.extract rfl rfl rfl ?_
 refine WL.step ?_
 refine WL.extract rfl rfl rfl ?_
 refine WL.step ?_
 refine WL.assign rfl rfl ?_
 refine WL.step ?_
 refine WL.assign rfl rfl ?_
 refine WL.nil ?_
 refine WQ.then_normal ?_
 refine WC.seq ?_
 refine WC.region ?_
 refine WL.step ?_
 refine WL.move rfl rfl ?_
 refine WL.nil ?_
 refine WQ.then_normal ?_
 refine WC.cond rfl (fun h28 => ?_) (fun h28 => ?_)
 ·refine jN 10 ?_
  refine WQ.ret (rs := [.tmp 8]) rfl (.tmp rfl .nil) (fun w hS => ⟨⟨(_, l, f, (opf x y).1), ⟨hm, ⟨[], by simp⟩, hpow, hop.spec.done h28, hsn⟩⟩, rfl, St.jnsClose hS⟩)
 ·refine jN 9 ?_
  refine WL.buildA F.arT139 rfl jB rfl ?_
  refine jN 1 ?_
  refine WL.alloc F.zero139 rfl (fun b11 => ?_)
  refine jN 6 ?_
  rcases Option.eq_none_or_eq_some (f (x, y)) with hf | ⟨r, hf⟩
  ·refine WC.drawsL (by kernel_rfl) (FactsOk.cons (ds := []) (LoadOk.by (Y := fun w => w.cell? ⟨bp, 5, none⟩ = some (.map (some bs))) (fun w hS => hS.oldc (hE.ce 5 _ rfl) hE.ce')) (FactsOk.cons (ds := []) (LoadOk.whole (t := 11) rfl jM) (FactsOk.cons (ds := []) (LoadOk.by (Y := fun w => (mpg enc2 bs (fun q => (f q).map encI)).ok w) (fun w hS => hS.ok _ jM)) (FactsOk.nil)))) ?_
   refine jT 0 rfl (Yl.move rfl) ?_
   refine jT 1 rfl (Yl.nilCheck rfl) ?_
   refine jT 2 rfl (Yl.fieldAddr0 F.fld251_3 rfl) ?_
   refine jF 3 0 rfl rfl (Yl.load1 F.one249 rfl) ?_
   refine jF 4 1 rfl rfl (Yl.loadN F.agg139 rfl rfl) ?_
   refine jF 5 2 rfl rfl (Yl.lookupMiss (f := fun q => (f q).map encI) (x, y) undMP keyPair zeroInt rfl rfl rfl (by rw [hf]; rfl)) ?_
   refine jT 6 rfl (Yl.move rfl) ?_
   refine jT 7 rfl (Yl.extract rfl rfl) ?_
   refine jT 8 rfl (Yl.extract rfl rfl) ?_
   refine jT 9 rfl (Yl.assign rfl) ?_
   refine jT 10 rfl (Yl.assign rfl) ?_
   refine jD ?_
   refine jN 11 ?_
   refine WC.cutPE (α := Nat × Nat) (fun z => [(0, pp bp), (1, .int .i64 (x : Int)), (2, .int .i64 (y : Int)), (3, Value.func (.func g) [].toArray [].toArray), (11, pp b11), (14, pp z.1), (15, pp z.2)]) (fun z => [pt z.1 [Value.int .i64 ((atD la x).1 : Int), .int .i64 ((atD la x).2.1 : Int), .int .i64 ((atD la x).2.2 : Int)] 186, pt z.2 [Value.int .i64 ((atD lb y).1 : Int), .int .i64 ((atD lb y).2.1 : Int), .int .i64 ((atD lb y).2.2 : Int)] 186, pt b11 [Value.int .i64 (x : Int), .int .i64 (y : Int)] 139, mkr F1 bm l, mpg enc2 bs (fun q => (f q).map encI)]) (fun c a d v w h => by cases d <;> exact h) (fun Q' hP hQ => ?_) (fun xE => ?_)
   ·refine WC.drawsL (by kernel_rfl) (FactsOk.cons (ds := [5, 11, 14, 15]) (LoadOk.by (Y := fun w => ∀ j v, [Value.slice aa la.length ca, .int .i64 (ra : Int)][j]? = some v → w.cell? ⟨bp, 1 + j, none⟩ = some v) (fun w hS => fun j v hv => hS.oldc (hE.ce (1 + j) v (by rw [Nat.add_comm]; rcases j with _ | _ | j <;> first | exact hv | simp at hv)) hE.ce')) (FactsOk.cons (ds := [11, 14, 15]) (LoadOk.by (Y := fun w => ∀ j v, [Value.slice ab lb.length cb, .int .i64 (rb : Int)][j]? = some v → w.cell? ⟨bp, 3 + j, none⟩ = some v) (fun w hS => fun j v hv => hS.oldc (hE.ce (3 + j) v (by rw [Nat.add_comm]; rcases j with _ | _ | j <;> first | exact hv | simp at hv)) hE.ce')) (FactsOk.nil))) ?_
    refine jT 0 rfl (Yl.move rfl) ?_
    refine jT 1 rfl (Yl.nilCheck rfl) ?_
    refine jT 2 rfl (Yl.fieldAddr0 F.fld251_1 rfl) ?_
    refine jF 3 0 rfl rfl (Yl.loadN F.agg50 rfl rfl) ?_
    refine jT 4 rfl (Yl.move rfl) ?_
    refine jT 6 rfl (Yl.move rfl) ?_
    refine jT 7 rfl (Yl.nilCheck rfl) ?_
    refine jT 8 rfl (Yl.fieldAddr0 F.fld251_2 rfl) ?_
    refine jF 9 1 rfl rfl (Yl.loadN F.agg50 rfl rfl) ?_
    refine jT 10 rfl (Yl.move rfl) ?_
    refine WD.three (i := 5) (j := 12) (l := 13) (by kernel_rfl) rfl rfl rfl ?_ ?_ ?_
    ·refine WL.callV F.fun180 rfl rfl (fun w hS => at_c la aa ca ra x w (by omega) hx (hE.rda.now hS)) ?_
     refine WD.on (closed_of (by kernel_rfl)) (fun w hS => Sx.gone rfl (Sx.keep (fun j v hv => hS.oldc (hE.ce (3 + j) v (by rw [Nat.add_comm]; rcases j with _ | _ | j <;> first | exact hv | simp at hv)) hE.ce') (Sx.none))) ?_
     refine WD.three (i := 11) (j := 12) (l := 13) (by kernel_rfl) rfl rfl rfl ?_ ?_ ?_
     ·refine WL.callV F.fun180 rfl rfl (fun w hS => at_c lb ab cb rb y w (by omega) hy (hE.rdb.now hS)) ?_
      refine jG ?_
      refine WD.two (i := 12) (j := 13) (by kernel_rfl) rfl rfl ?_ ?_
      ·refine WL.alloc F.zero186 rfl (fun b14 => ?_)
       refine jG ?_
       refine jA 13 rfl ?_
       refine WL.alloc F.zero186 rfl (fun b15 => ?_)
       refine jG ?_
       refine jA 14 rfl ?_
       refine WL.storeN F.agg186 rfl rfl rfl jO jU jS ?_
       refine jG ?_
       refine jA 15 rfl ?_
       refine WL.storeN F.agg186 rfl rfl rfl jO jU jS ?_
       refine jG ?_
       refine jD ?_
       refine WQ.chunks (C' := [pt (b14, b15).1 [Value.int .i64 ((atD la x).1 : Int), .int .i64 ((atD la x).2.1 : Int), .int .i64 ((atD la x).2.2 : Int)] 186, pt (b14, b15).2 [Value.int .i64 ((atD lb y).1 : Int), .int .i64 ((atD lb y).2.1 : Int), .int .i64 ((atD lb y).2.2 : Int)] 186, pt b11 [Value.int .i64 (x : Int), .int .i64 (y : Int)] 139, mkr F1 bm l, mpg enc2 bs (fun q => (f q).map encI)]) (fun w hS => (jK hS)) ?_
       exact WQ.byCut (hQ (b14, b15)) ⟨rfl, rfl, rfl, rfl, rfl, rfl, rfl, trivial⟩
      ·refine WL.alloc F.zero186 rfl (fun b15 => ?_)
       refine jG ?_
       refine jA 12 rfl ?_
       refine WL.alloc F.zero186 rfl (fun b14 => ?_)
       refine jG ?_
       refine jA 14 rfl ?_
       refine WL.storeN F.agg186 rfl rfl rfl jO jU jS ?_
       refine jG ?_
       refine jA 15 rfl ?_
       refine WL.storeN F.agg186 rfl rfl rfl jO jU jS ?_
       refine jG ?_
       refine jD ?_
       refine WQ.chunks (C' := [pt (b14, b15).1 [Value.int .i64 ((atD la x).1 : Int), .int .i64 ((atD la x).2.1 : Int), .int .i64 ((atD la x).2.2 : Int)] 186, pt (b14, b15).2 [Value.int .i64 ((atD lb y).1 : Int), .int .i64 ((atD lb y).2.1 : Int), .int .i64 ((atD lb y).2.2 : Int)] 186, pt b11 [Value.int .i64 (x : Int), .int .i64 (y : Int)] 139, mkr F1 bm l, mpg enc2 bs (fun q => (f q).map encI)]) (fun w hS => (jK hS)) ?_
       exact WQ.byCut (hQ (b14, b15)) ⟨rfl, rfl, rfl, rfl, rfl, rfl, rfl, trivial⟩
     ·refine WL.alloc F.zero186 rfl (fun b14 => ?_)
      refine WD.on (closed_of (by kernel_rfl)) (fun w hS => Sx.gone rfl (Sx.keep (fun j v hv => hS.oldc (hE.ce (3 + j) v (by rw [Nat.add_comm]; rcases j with _ | _ | j <;> first | exact hv | simp at hv)) hE.ce') (Sx.none))) ?_
      refine WD.two (i := 11) (j := 13) (by kernel_rfl) rfl rfl ?_ ?_
      ·refine WL.callV F.fun180 rfl rfl (fun w hS => at_c lb ab cb rb y w (by omega) hy (hE.rdb.now hS)) ?_
       refine jG ?_
       refine jA 13 rfl ?_
       refine WL.alloc F.zero186 rfl (fun b15 => ?_)
       refine jG ?_
       refine jA 14 rfl ?_
       refine WL.storeN F.agg186 rfl rfl rfl jO jU jS ?_
       refine jG ?_
       refine jA 15 rfl ?_
       refine WL.storeN F.agg186 rfl rfl rfl jO jU jS ?_
       refine jG ?_
       refine jD ?_
       refine WQ.chunks (C' := [pt (b14, b15).1 [Value.int .i64 ((atD la x).1 : Int), .int .i64 ((atD la x).2.1 : Int), .int .i64 ((atD la x).2.2 : Int)] 186, pt (b14, b15).2 [Value.int .i64 ((atD lb y).1 : Int), .int .i64 ((atD lb y).2.1 : Int), .int .i64 ((atD lb y).2.2 : Int)] 186, pt b11 [Value.int .i64 (x : Int), .int .i64 (y : Int)] 139, mkr F1 bm l, mpg enc2 bs (fun q => (f q).map encI)]) (fun w hS => (jK hS)) ?_
       exact WQ.byCut (hQ (b14, b15)) ⟨rfl, rfl, rfl, rfl, rfl, rfl, rfl, trivial⟩
      ·refine WL.alloc F.zero186 rfl (fun b15 => ?_)
       refine WD.on (closed_of (by kernel_rfl)) (fun w hS => Sx.gone rfl (Sx.keep (fun j v hv => hS.oldc (hE.ce (3 + j) v (by rw [Nat.add_comm]; rcases j with _ | _ | j <;> first | exact hv | simp at hv)) hE.ce') (Sx.none))) ?_
       refine jA 11 rfl ?_
       refine WL.callV F.fun180 rfl rfl (fun w hS => at_c lb ab cb rb y w (by omega) hy (hE.rdb.now hS)) ?_
       refine jG ?_
       refine jA 14 rfl ?_
       refine WL.storeN F.agg186 rfl rfl rfl jO jU jS ?_
       refine jG ?_
       refine jA 15 rfl ?_
       refine WL.storeN F.agg186 rfl rfl rfl jO jU jS ?_
       refine jG ?_
       refine jD ?_
       refine WQ.chunks (C' := [pt (b14, b15).1 [Value.int .i64 ((atD la x).1 : Int), .int .i64 ((atD la x).2.1 : Int), .int .i64 ((atD la x).2.2 : Int)] 186, pt (b14, b15).2 [Value.int .i64 ((atD lb y).1 : Int), .int .i64 ((atD lb y).2.1 : Int), .int .i64 ((atD lb y).2.2 : Int)] 186, pt b11 [Value.int .i64 (x : Int), .int .i64 (y : Int)] 139, mkr F1 bm l, mpg enc2 bs (fun q => (f q).map encI)]) (fun w hS => (jK hS)) ?_
       exact WQ.byCut (hQ (b14, b15)) ⟨rfl, rfl, rfl, rfl, rfl, rfl, rfl, trivial⟩
     ·refine WL.alloc F.zero186 rfl (fun b15 => ?_)
      refine WD.on (closed_of (by kernel_rfl)) (fun w hS => Sx.gone rfl (Sx.keep (fun j v hv => hS.oldc (hE.ce (3 + j) v (by rw [Nat.add_comm]; rcases j with _ | _ | j <;> first | exact hv | simp at hv)) hE.ce') (Sx.none))) ?_
      refine WD.two (i := 11) (j := 12) (by kernel_rfl) rfl rfl ?_ ?_
      ·refine WL.callV F.fun180 rfl rfl (fun w hS => at_c lb ab cb rb y w (by omega) hy (hE.rdb.now hS)) ?_
       refine jG ?_
       refine jA 12 rfl ?_
       refine WL.alloc F.zero186 rfl (fun b14 => ?_)
       refine jG ?_
       refine jA 14 rfl ?_
       refine WL.storeN F.agg186 rfl rfl rfl jO jU jS ?_
       refine jG ?_
       refine jA 15 rfl ?_
       refine WL.storeN F.agg186 rfl rfl rfl jO jU jS ?_
       refine jG ?_
       refine jD ?_
       refine WQ.chunks (C' := [pt (b14, b15).1 [Value.int .i64 ((atD la x).1 : Int), .int .i64 ((atD la x).2.1 : Int), .int .i64 ((atD la x).2.2 : Int)] 186, pt (b14, b15).2 [Value.int .i64 ((atD lb y).1 : Int), .int .i64 ((atD lb y).2.1 : Int), .int .i64 ((atD lb y).2.2 : Int)] 186, pt b11 [Value.int .i64 (x : Int), .int .i64 (y : Int)] 139, mkr F1 bm l, mpg enc2 bs (fun q => (f q).map encI)]) (fun w hS => (jK hS)) ?_
       exact WQ.byCut (hQ (b14, b15)) ⟨rfl, rfl, rfl, rfl, rfl, rfl, rfl, trivial⟩
      ·refine WL.alloc F.zero186 rfl (fun b14 => ?_)
       refine WD.on (closed_of (by kernel_rfl)) (fun w hS => Sx.gone rfl (Sx.keep (fun j v hv => hS.oldc (hE.ce (3 + j) v (by rw [Nat.add_comm]; rcases j with _ | _ | j <;> first | exact hv | simp at hv)) hE.ce') (Sx.none))) ?_
       refine jA 11 rfl ?_
       refine WL.callV F.fun180 rfl rfl (fun w hS => at_c lb ab cb rb y w (by omega) hy (hE.rdb.now hS)) ?_
       refine jG ?_
       refine jA 14 rfl ?_
       refine WL.storeN F.agg186 rfl rfl rfl jO jU jS ?_
       refine jG ?_
       refine jA 15 rfl ?_
       refine WL.storeN F.agg186 rfl rfl rfl jO jU jS ?_
       refine jG ?_
       refine jD ?_
       refine WQ.chunks (C' := [pt (b14, b15).1 [Value.int .i64 ((atD la x).1 : Int), .int .i64 ((atD la x).2.1 : Int), .int .i64 ((atD la x).2.2 : Int)] 186, pt (b14, b15).2 [Value.int .i64 ((atD lb y).1 : Int), .int .i64 ((atD lb y).2.1 : Int), .int .i64 ((atD lb y).2.2 : Int)] 186, pt b11 [Value.int .i64 (x : Int), .int .i64 (y : Int)] 139, mkr F1 bm l, mpg enc2 bs (fun q => (f q).map encI)]) (fun w hS => (jK hS)) ?_
       exact WQ.byCut (hQ (b14, b15)) ⟨rfl, rfl, rfl, rfl, rfl, rfl, rfl, trivial⟩
    ·refine WL.alloc F.zero186 rfl (fun b14 => ?_)
     refine WD.on (closed_of (by kernel_rfl)) (fun w hS => Sx.keep (fun j v hv => hS.oldc (hE.ce (1 + j) v (by rw [Nat.add_comm]; rcases j with _ | _ | j <;> first | exact hv | simp at hv)) hE.ce') (Sx.keep (fun j v hv => hS.oldc (hE.ce (3 + j) v (by rw [Nat.add_comm]; rcases j with _ | _ | j <;> first | exact hv | simp at hv)) hE.ce') (Sx.none))) ?_
     refine WD.two (i := 5) (j := 13) (by kernel_rfl) rfl rfl ?_ ?_
     ·refine WL.callV F.fun180 rfl rfl (fun w hS => at_c la aa ca ra x w (by omega) hx (hE.rda.now hS)) ?_
      refine WD.on (closed_of (by kernel_rfl)) (fun w hS => Sx.gone rfl (Sx.keep (fun j v hv => hS.oldc (hE.ce (3 + j) v (by rw [Nat.add_comm]; rcases j with _ | _ | j <;> first | exact hv | simp at hv)) hE.ce') (Sx.none))) ?_
      refine WD.two (i := 11) (j := 13) (by kernel_rfl) rfl rfl ?_ ?_
      ·refine WL.callV F.fun180 rfl rfl (fun w hS => at_c lb ab cb rb y w (by omega) hy (hE.rdb.now hS)) ?_
       refine jG ?_
       refine jA 13 rfl ?_
       refine WL.alloc F.zero186 rfl (fun b15 => ?_)
       refine jG ?_
       refine jA 14 rfl ?_
       refine WL.storeN F.agg186 rfl rfl rfl jO jU jS ?_
       refine jG ?_
       refine jA 15 rfl ?_
       refine WL.storeN F.agg186 rfl rfl rfl jO jU jS ?_
       refine jG ?_
       refine jD ?_
       refine WQ.chunks (C' := [pt (b14, b15).1 [Value.int .i64 ((atD la x).1 : Int), .int .i64 ((atD la x).2.1 : Int), .int .i64 ((atD la x).2.2 : Int)] 186, pt (b14, b15).2 [Value.int .i64 ((atD lb y).1 : Int), .int .i64 ((atD lb y).2.1 : Int), .int .i64 ((atD lb y).2.2 : Int)] 186, pt b11 [Value.int .i64 (x : Int), .int .i64 (y : Int)] 139, mkr F1 bm l, mpg enc2 bs (fun q => (f q).map encI)]) (fun w hS => (jK hS)) ?_
       exact WQ.byCut (hQ (b14, b15)) ⟨rfl, rfl, rfl, rfl, rfl, rfl, rfl, trivial⟩
      ·refine WL.alloc F.zero186 rfl (fun b15 => ?_)
       refine WD.on (closed_of (by kernel_rfl)) (fun w hS => Sx.gone rfl (Sx.keep (fun j v hv => hS.oldc (hE.ce (3 + j) v (by rw [Nat.add_comm]; rcases j with _ | _ | j <;> first | exact hv | simp at hv)) hE.ce') (Sx.none))) ?_
       refine jA 11 rfl ?_
       refine WL.callV F.fun180 rfl rfl (fun w hS => at_c lb ab cb rb y w (by omega) hy (hE.rdb.now hS)) ?_
       refine jG ?_
       refine jA 14 rfl ?_
       refine WL.storeN F.agg186 rfl rfl rfl jO jU jS ?_
       refine jG ?_
       refine jA 15 rfl ?_
       refine WL.storeN F.agg186 rfl rfl rfl jO jU jS ?_
       refine jG ?_
       refine jD ?_
       refine WQ.chunks (C' := [pt (b14, b15).1 [Value.int .i64 ((atD la x).1 : Int), .int .i64 ((atD la x).2.1 : Int), .int .i64 ((atD la x).2.2 : Int)] 186, pt (b14, b15).2 [Value.int .i64 ((atD lb y).1 : Int), .int .i64 ((atD lb y).2.1 : Int), .int .i64 ((atD lb y).2.2 : Int)] 186, pt b11 [Value.int .i64 (x : Int), .int .i64 (y : Int)] 139, mkr F1 bm l, mpg enc2 bs (fun q => (f q).map encI)]) (fun w hS => (jK hS)) ?_
       exact WQ.byCut (hQ (b14, b15)) ⟨rfl, rfl, rfl, rfl, rfl, rfl, rfl, trivial⟩
     ·refine WL.alloc F.zero186 rfl (fun b15 => ?_)
      refine WD.on (closed_of (by kernel_rfl)) (fun w hS => Sx.keep (fun j v hv => hS.oldc (hE.ce (1 + j) v (by rw [Nat.add_comm]; rcases j with _ | _ | j <;> first | exact hv | simp at hv)) hE.ce') (Sx.keep (fun j v hv => hS.oldc (hE.ce (3 + j) v (by rw [Nat.add_comm]; rcases j with _ | _ | j <;> first | exact hv | simp at hv)) hE.ce') (Sx.none))) ?_
      refine jA 5 rfl ?_
      refine WL.callV F.fun180 rfl rfl (fun w hS => at_c la aa ca ra x w (by omega) hx (hE.rda.now hS)) ?_
      refine WD.on (closed_of (by kernel_rfl)) (fun w hS => Sx.gone rfl (Sx.keep (fun j v hv => hS.oldc (hE.ce (3 + j) v (by rw [Nat.add_comm]; rcases j with _ | _ | j <;> first | exact hv | simp at hv)) hE.ce') (Sx.none))) ?_
      refine jA 11 rfl ?_
      refine WL.callV F.fun180 rfl rfl (fun w hS => at_c lb ab cb rb y w (by omega) hy (hE.rdb.now hS)) ?_
      refine jG ?_
      refine jA 14 rfl ?_
      refine WL.storeN F.agg186 rfl rfl rfl jO jU jS ?_
      refine jG ?_
      refine jA 15 rfl ?_
      refine WL.storeN F.agg186 rfl rfl rfl jO jU jS ?_
      refine jG ?_
      refine jD ?_
      refine WQ.chunks (C' := [pt (b14, b15).1 [Value.int .i64 ((atD la x).1 : Int), .int .i64 ((atD la x).2.1 : Int), .int .i64 ((atD la x).2.2 : Int)] 186, pt (b14, b15).2 [Value.int .i64 ((atD lb y).1 : Int), .int .i64 ((atD lb y).2.1 : Int), .int .i64 ((atD lb y).2.2 : Int)] 186, pt b11 [Value.int .i64 (x : Int), .int .i64 (y : Int)] 139, mkr F1 bm l, mpg enc2 bs (fun q => (f q).map encI)]) (fun w hS => (jK hS)) ?_
      exact WQ.byCut (hQ (b14, b15)) ⟨rfl, rfl, rfl, rfl, rfl, rfl, rfl, trivial⟩
    ·refine WL.alloc F.zero186 rfl (fun b15 => ?_)
     refine WD.on (closed_of (by kernel_rfl)) (fun w hS => Sx.keep (fun j v hv => hS.oldc (hE.ce (1 + j) v (by rw [Nat.add_comm]; rcases j with _ | _ | j <;> first | exact hv | simp at hv)) hE.ce') (Sx.keep (fun j v hv => hS.oldc (hE.ce (3 + j) v (by rw [Nat.add_comm]; rcases j with _ | _ | j <;> first | exact hv | simp at hv)) hE.ce') (Sx.none))) ?_
     refine WD.two (i := 5) (j := 12) (by kernel_rfl) rfl rfl ?_ ?_
     ·refine WL.callV F.fun180 rfl rfl (fun w hS => at_c la aa ca ra x w (by omega) hx (hE.rda.now hS)) ?_
      refine WD.on (closed_of (by kernel_rfl)) (fun w hS => Sx.gone rfl (Sx.keep (fun j v hv => hS.oldc (hE.ce (3 + j) v (by rw [Nat.add_comm]; rcases j with _ | _ | j <;> first | exact hv | simp at hv)) hE.ce') (Sx.none))) ?_
      refine WD.two (i := 11) (j := 12) (by kernel_rfl) rfl rfl ?_ ?_
      ·refine WL.callV F.fun180 rfl rfl (fun w hS => at_c lb ab cb rb y w (by omega) hy (hE.rdb.now hS)) ?_
       refine jG ?_
       refine jA 12 rfl ?_
       refine WL.alloc F.zero186 rfl (fun b14 => ?_)
       refine jG ?_
       refine jA 14 rfl ?_
       refine WL.storeN F.agg186 rfl rfl rfl jO jU jS ?_
       refine jG ?_
       refine jA 15 rfl ?_
       refine WL.storeN F.agg186 rfl rfl rfl jO jU jS ?_
       refine jG ?_
       refine jD ?_
       refine WQ.chunks (C' := [pt (b14, b15).1 [Value.int .i64 ((atD la x).1 : Int), .int .i64 ((atD la x).2.1 : Int), .int .i64 ((atD la x).2.2 : Int)] 186, pt (b14, b15).2 [Value.int .i64 ((atD lb y).1 : Int), .int .i64 ((atD lb y).2.1 : Int), .int .i64 ((atD lb y).2.2 : Int)] 186, pt b11 [Value.int .i64 (x : Int), .int .i64 (y : Int)] 139, mkr F1 bm l, mpg enc2 bs (fun q => (f q).map encI)]) (fun w hS => (jK hS)) ?_
       exact WQ.byCut (hQ (b14, b15)) ⟨rfl, rfl, rfl, rfl, rfl, rfl, rfl, trivial⟩
      ·refine WL.alloc F.zero186 rfl (fun b14 => ?_)
       refine WD.on (closed_of (by kernel_rfl)) (fun w hS => Sx.gone rfl (Sx.keep (fun j v hv => hS.oldc (hE.ce (3 + j) v (by rw [Nat.add_comm]; rcases j with _ | _ | j <;> first | exact hv | simp at hv)) hE.ce') (Sx.none))) ?_
       refine jA 11 rfl ?_
       refine WL.callV F.fun180 rfl rfl (fun w hS => at_c lb ab cb rb y w (by omega) hy (hE.rdb.now hS)) ?_
       refine jG ?_
       refine jA 14 rfl ?_
       refine WL.storeN F.agg186 rfl rfl rfl jO jU jS ?_
       refine jG ?_
       refine jA 15 rfl ?_
       refine WL.storeN F.agg186 rfl rfl rfl jO jU jS ?_
       refine jG ?_
       refine jD ?_
       refine WQ.chunks (C' := [pt (b14, b15).1 [Value.int .i64 ((atD la x).1 : Int), .int .i64 ((atD la x).2.1 : Int), .int .i64 ((atD la x).2.2 : Int)] 186, pt (b14, b15).2 [Value.int .i64 ((atD lb y).1 : Int), .int .i64 ((atD lb y).2.1 : Int), .int .i64 ((atD lb y).2.2 : Int)] 186, pt b11 [Value.int .i64 (x : Int), .int .i64 (y : Int)] 139, mkr F1 bm l, mpg enc2 bs (fun q => (f q).map encI)]) (fun w hS => (jK hS)) ?_
       exact WQ.byCut (hQ (b14, b15)) ⟨rfl, rfl, rfl, rfl, rfl, rfl, rfl, trivial⟩
     ·refine WL.alloc F.zero186 rfl (fun b14 => ?_)
      refine WD.on (closed_of (by kernel_rfl)) (fun w hS => Sx.keep (fun j v hv => hS.oldc (hE.ce (1 + j) v (by rw [Nat.add_comm]; rcases j with _ | _ | j <;> first | exact hv | simp at hv)) hE.ce') (Sx.keep (fun j v hv => hS.oldc (hE.ce (3 + j) v (by rw [Nat.add_comm]; rcases j with _ | _ | j <;> first | exact hv | simp at hv)) hE.ce') (Sx.none))) ?_
      refine jA 5 rfl ?_
      refine WL.callV F.fun180 rfl rfl (fun w hS => at_c la aa ca ra x w (by omega) hx (hE.rda.now hS)) ?_
      refine WD.on (closed_of (by kernel_rfl)) (fun w hS => Sx.gone rfl (Sx.keep (fun j v hv => hS.oldc (hE.ce (3 + j) v (by rw [Nat.add_comm]; rcases j with _ | _ | j <;> first | exact hv | simp at hv)) hE.ce') (Sx.none))) ?_
      refine jA 11 rfl ?_
      refine WL.callV F.fun180 rfl rfl (fun w hS => at_c lb ab cb rb y w (by omega) hy (hE.rdb.now hS)) ?_
      refine jG ?_
      refine jA 14 rfl ?_
      refine WL.storeN F.agg186 rfl rfl rfl jO jU jS ?_
      refine jG ?_
      refine jA 15 rfl ?_
      refine WL.storeN F.agg186 rfl rfl rfl jO jU jS ?_
      refine jG ?_
      refine jD ?_
      refine WQ.chunks (C' := [pt (b14, b15).1 [Value.int .i64 ((atD la x).1 : Int), .int .i64 ((atD la x).2.1 : Int), .int .i64 ((atD la x).2.2 : Int)] 186, pt (b14, b15).2 [Value.int .i64 ((atD lb y).1 : Int), .int .i64 ((atD lb y).2.1 : Int), .int .i64 ((atD lb y).2.2 : Int)] 186, pt b11 [Value.int .i64 (x : Int), .int .i64 (y : Int)] 139, mkr F1 bm l, mpg enc2 bs (fun q => (f q).map encI)]) (fun w hS => (jK hS)) ?_
      exact WQ.byCut (hQ (b14, b15)) ⟨rfl, rfl, rfl, rfl, rfl, rfl, rfl, trivial⟩
   obtain ⟨b14, b15⟩ := xE
   show WQ _ _ _ _ _ _ [(0, pp bp), (1, .int .i64 (x : Int)), (2, .int .i64 (y : Int)), (3, Value.func (.func g) [].toArray [].toArray), (11, pp b11), (14, pp b14), (15, pp b15)] [pt b14 [Value.int .i64 ((atD la x).1 : Int), .int .i64 ((atD la x).2.1 : Int), .int .i64 ((atD la x).2.2 : Int)] 186, pt b15 [Value.int .i64 ((atD lb y).1 : Int), .int .i64 ((atD lb y).2.1 : Int), .int .i64 ((atD lb y).2.2 : Int)] 186, pt b11 [Value.int .i64 (x : Int), .int .i64 (y : Int)] 139, mkr F1 bm l, mpg enc2 bs (fun q => (f q).map encI)]
   obtain ⟨i, hi⟩ : ∃ i, i = min (atD la x).1 (atD lb y).1 := ⟨_, rfl⟩
   have hgo := hop.spec.go x y h28
   have hi24 : i < 24 := by
    rcases hgo with h | h
    ·have := atD_lt ha hx h; omega
    ·have := atD_lt hb hy h; omega
   have hmi : m ≤ i := by have e1 := atD_ok ha hx hox hm24; have e2 := atD_ok hb hy hoy hm24; omega
   obtain ⟨a1, a2, a3, a4, _, _, a7⟩ := half_at ha hx hox (i := i) (by omega) hi24
   obtain ⟨c1, c2, c3, c4, _, _, c7⟩ := half_at hb hy hoy (i := i) (by omega) hi24
   have hp2 : 2 ^ (24 - (i + 1)) + 2 ^ (24 - (i + 1)) ≤ 2 ^ (24 - m) := by (have e1 : 2 ^ (24 - i) = 2 ^ (24 - (i + 1)) * 2 := by (rw [← Nat.pow_succ]; congr 1; omega)); (have e2 : 2 ^ (24 - i) ≤ 2 ^ (24 - m) := Nat.pow_le_pow_right (by decide) (by omega)); omega
   refine jN 12 ?_
   refine WL.minI (r := (i : Int)) rfl rfl rfl (by (split) <;> omega) ?_
   refine jN 11 ?_
   refine WL.buildA F.arT139 rfl jB rfl ?_
   refine jN 5 ?_
   refine WL.buildA F.arT139 rfl jB rfl ?_
   refine jN 1 ?_
   refine WL.alloc F.zero139 rfl (fun b17 => ?_)
   refine jN 1 ?_
   refine WL.alloc F.zero139 rfl (fun b18 => ?_)
   refine jN 19 ?_
   refine WC.cutQ ([(0, pp bp), (1, .int .i64 (x : Int)), (2, .int .i64 (y : Int)), (3, Value.func (.func g) [].toArray [].toArray), (11, pp b11), (14, pp b14), (15, pp b15), (16, .int .i64 (i : Int)), (17, pp b17), (18, pp b18)]) ([pt b17 [.int .i64 (loP la x i : Int), .int .i64 (y : Int)] 139, pt b18 [.int .i64 (hiP la x i : Int), .int .i64 (y : Int)] 139, pt b15 [Value.int .i64 ((atD lb y).1 : Int), .int .i64 ((atD lb y).2.1 : Int), .int .i64 ((atD lb y).2.2 : Int)] 186, pt b11 [Value.int .i64 (x : Int), .int .i64 (y : Int)] 139, mkr F1 bm l, mpg enc2 bs (fun q => (f q).map encI)]) (fun c a d v w h => by cases d <;> exact h) (fun Q' hP hQ => ?_) ?_
   ·refine WC.cond rfl (fun h70 => ?_) (fun h70 => ?_)
    ·have h70n : (atD la x).1 = i := by simp at h70; omega
     have e70 : loP la x i = (atD la x).2.1 ∧ hiP la x i = (atD la x).2.2 := by unfold loP hiP; rw [if_pos h70n, if_pos h70n]; exact ⟨rfl, rfl⟩
     refine WC.drawsL (by kernel_rfl) (FactsOk.cons (ds := [5, 7]) (LoadOk.one (t := 14) (off := 1) rfl jM rfl) (FactsOk.cons (ds := [7]) (LoadOk.one (t := 14) (off := 2) rfl jM rfl) (FactsOk.nil))) ?_
     refine jT 0 rfl (Yl.fieldAddr0 F.fld186_1 rfl) ?_
     refine jF 1 0 rfl rfl (Yl.load1 F.one3 rfl) ?_
     refine jT 2 rfl (Yl.fieldAddr0 F.fld186_2 rfl) ?_
     refine jF 3 1 rfl rfl (Yl.load1 F.one3 rfl) ?_
     refine jT 4 rfl (Yl.indexAddrA (i := 0) F.arT139 rfl rfl (by decide)) ?_
     refine jA 5 rfl ?_
     refine WL.store1 F.one3 rfl rfl rfl jU jS ?_
     refine WD.on (closed_of (by kernel_rfl)) (fun w hS => Sx.gone rfl (Sx.keep (hS.cell jM rfl) (Sx.none))) ?_
     refine jT 6 rfl (Yl.indexAddrA (i := 0) F.arT139 rfl rfl (by decide)) ?_
     refine jA 7 rfl ?_
     refine WL.store1 F.one3 rfl rfl rfl jU jS ?_
     refine jG ?_
     refine jD ?_
     refine WQ.chunks (C' := [pt b17 [.int .i64 (loP la x i : Int), .int .i64 (y : Int)] 139, pt b18 [.int .i64 (hiP la x i : Int), .int .i64 (y : Int)] 139, pt b15 [Value.int .i64 ((atD lb y).1 : Int), .int .i64 ((atD lb y).2.1 : Int), .int .i64 ((atD lb y).2.2 : Int)] 186, pt b11 [Value.int .i64 (x : Int), .int .i64 (y : Int)] 139, mkr F1 bm l, mpg enc2 bs (fun q => (f q).map encI)]) (fun w hS => ?_) (WQ.byCut hQ ⟨rfl, rfl, rfl, rfl, rfl, rfl, rfl, rfl, rfl, rfl, trivial⟩)
     rw [e70.1, e70.2]
     first | exact (jK hS) | exact (jK hS)
    ·have h70n : ¬ (atD la x).1 = i := by simp at h70; omega
     have e70 : loP la x i = x ∧ hiP la x i = x := by unfold loP hiP; rw [if_neg h70n, if_neg h70n]; exact ⟨rfl, rfl⟩
     refine jN 1 ?_
     refine WQ.chunks (C' := [pt b17 [.int .i64 (loP la x i : Int), .int .i64 (y : Int)] 139, pt b18 [.int .i64 (hiP la x i : Int), .int .i64 (y : Int)] 139, pt b15 [Value.int .i64 ((atD lb y).1 : Int), .int .i64 ((atD lb y).2.1 : Int), .int .i64 ((atD lb y).2.2 : Int)] 186, pt b11 [Value.int .i64 (x : Int), .int .i64 (y : Int)] 139, mkr F1 bm l, mpg enc2 bs (fun q => (f q).map encI)]) (fun w hS => ?_) (WQ.byCut hQ ⟨rfl, rfl, rfl, rfl, rfl, rfl, rfl, rfl, rfl, rfl, trivial⟩)
     rw [e70.1, e70.2]
     first | exact (jK hS) | exact (jK hS)
   refine jN 14 ?_
   refine WC.cutQ ([(0, pp bp), (3, Value.func (.func g) [].toArray [].toArray), (11, pp b11), (14, pp b14), (15, pp b15), (16, .int .i64 (i : Int)), (17, pp b17), (18, pp b18)]) ([pt b17 [.int .i64 (loP la x i : Int), .int .i64 (loP lb y i : Int)] 139, pt b18 [.int .i64 (hiP la x i : Int), .int .i64 (hiP lb y i : Int)] 139, pt b11 [Value.int .i64 (x : Int), .int .i64 (y : Int)] 139, mkr F1 bm l, mpg enc2 bs (fun q => (f q).map encI)]) (fun c a d v w h => by cases d <;> exact h) (fun Q' hP hQ => ?_) ?_
   ·refine WC.cond rfl (fun h80 => ?_) (fun h80 => ?_)
    ·have h80n : (atD lb y).1 = i := by simp at h80; omega
     have e80 : loP lb y i = (atD lb y).2.1 ∧ hiP lb y i = (atD lb y).2.2 := by unfold loP hiP; rw [if_pos h80n, if_pos h80n]; exact ⟨rfl, rfl⟩
     refine WC.drawsL (by kernel_rfl) (FactsOk.cons (ds := [5, 7]) (LoadOk.one (t := 15) (off := 1) rfl jM rfl) (FactsOk.cons (ds := [7]) (LoadOk.one (t := 15) (off := 2) rfl jM rfl) (FactsOk.nil))) ?_
     refine jT 0 rfl (Yl.fieldAddr0 F.fld186_1 rfl) ?_
     refine jF 1 0 rfl rfl (Yl.load1 F.one3 rfl) ?_
     refine jT 2 rfl (Yl.fieldAddr0 F.fld186_2 rfl) ?_
     refine jF 3 1 rfl rfl (Yl.load1 F.one3 rfl) ?_
     refine jT 4 rfl (Yl.indexAddrA (i := 1) F.arT139 rfl rfl (by decide)) ?_
     refine jA 5 rfl ?_
     refine WL.store1 F.one3 rfl rfl rfl jU jS ?_
     refine WD.on (closed_of (by kernel_rfl)) (fun w hS => Sx.gone rfl (Sx.keep (hS.cell jM rfl) (Sx.none))) ?_
     refine jT 6 rfl (Yl.indexAddrA (i := 1) F.arT139 rfl rfl (by decide)) ?_
     refine jA 7 rfl ?_
     refine WL.store1 F.one3 rfl rfl rfl jU jS ?_
     refine jG ?_
     refine jD ?_
     refine WQ.chunks (C' := [pt b17 [.int .i64 (loP la x i : Int), .int .i64 (loP lb y i : Int)] 139, pt b18 [.int .i64 (hiP la x i : Int), .int .i64 (hiP lb y i : Int)] 139, pt b11 [Value.int .i64 (x : Int), .int .i64 (y : Int)] 139, mkr F1 bm l, mpg enc2 bs (fun q => (f q).map encI)]) (fun w hS => ?_) (WQ.byCut hQ ⟨rfl, rfl, rfl, rfl, rfl, rfl, rfl, rfl, trivial⟩)
     rw [e80.1, e80.2]
     first | exact (jK hS) | exact (jK hS)
    ·have h80n : ¬ (atD lb y).1 = i := by simp at h80; omega
     have e80 : loP lb y i = y ∧ hiP lb y i = y := by unfold loP hiP; rw [if_neg h80n, if_neg h80n]; exact ⟨rfl, rfl⟩
     refine jN 1 ?_
     refine WQ.chunks (C' := [pt b17 [.int .i64 (loP la x i : Int), .int .i64 (loP lb y i : Int)] 139, pt b18 [.int .i64 (hiP la x i : Int), .int .i64 (hiP lb y i : Int)] 139, pt b11 [Value.int .i64 (x : Int), .int .i64 (y : Int)] 139, mkr F1 bm l, mpg enc2 bs (fun q => (f q).map encI)]) (fun w hS => ?_) (WQ.byCut hQ ⟨rfl, rfl, rfl, rfl, rfl, rfl, rfl, rfl, trivial⟩)
     rw [e80.1, e80.2]
     first | exact (jK hS) | exact (jK hS)
   refine jN 6 ?_
   refine WL.indexAddrA (i := 0) F.arT139 rfl rfl rfl (by decide) ?_
   refine jN 3 ?_
   refine WL.indexAddrA (i := 1) F.arT139 rfl rfl rfl (by decide) ?_
   refine jN 4 ?_
   refine WA.chunks (C' := [jns (F1 ++ ([bs] ++ [])) bm bs l f, pt b17 [.int .i64 (loP la x i : Int), .int .i64 (loP lb y i : Int)] 139, pt b18 [.int .i64 (hiP la x i : Int), .int .i64 (hiP lb y i : Int)] 139, pt b11 [Value.int .i64 (x : Int), .int .i64 (y : Int)] 139]) (fun w hS => St.jnsClose (jK hS)) ?_
   refine jN 1 ?_
   refine WL.callC (β := { z : JT // JPost bop la lb l (i + 1) (loP la x i) (loP lb y i) z }) (res := fun z => .int .i64 (z.1.2.2.2 : Int)) (cs := fun z => [jns z.1.1 bm bs z.1.2.1 z.1.2.2.1]) (Cs := [jns (F1 ++ ([bs] ++ [])) bm bs l f]) (C1 := [pt b17 [.int .i64 (loP la x i : Int), .int .i64 (loP lb y i : Int)] 139, pt b18 [.int .i64 (hiP la x i : Int), .int .i64 (hiP lb y i : Int)] 139, pt b11 [Value.int .i64 (x : Int), .int .i64 (y : Int)] 139]) (O' := (F1 ++ ([bs] ++ []))) F.fun142 (fun d h => by cases h; rfl) rfl (List.Perm.refl _) bun_O1 bun_O2 (fun w hS hS2 => hrec (i + 1) (by omega) (by omega) (F1 ++ ([bs] ++ [])) l f (loP la x i) (loP lb y i) w a1 c1 a3 c3 hm hsn (by omega) (hE.next hS) hS2) (fun ⟨z1, hz1⟩ => ?_)
   obtain ⟨G1, l1, f1, p1⟩ := z1
   obtain ⟨j1, j2, j3, j4, j5⟩ := hz1
   dsimp only at j1 j2 j3 j4 j5 ⊢
   refine jN 5 ?_
   refine WC.drawsL (by kernel_rfl) (FactsOk.cons (ds := [13]) (LoadOk.by (Y := fun w => w.cell? ⟨bp, 0, none⟩ = some (pp bm)) (fun w hS => hS.oldc (hE.ce 0 _ rfl) hE.ce')) (FactsOk.cons (ds := [12, 13]) (LoadOk.by (Y := fun w => w.cell? ⟨b18, 0 + 0 * 1, none⟩ = some (.int .i64 (hiP la x i : Int))) (fun w hS => hS.cell (cs := [.int .i64 (hiP la x i : Int), .int .i64 (hiP lb y i : Int)]) jM rfl)) (FactsOk.cons (ds := [12, 13]) (LoadOk.by (Y := fun w => w.cell? ⟨b18, 0 + 1 * 1, none⟩ = some (.int .i64 (hiP lb y i : Int))) (fun w hS => hS.cell (cs := [.int .i64 (hiP la x i : Int), .int .i64 (hiP lb y i : Int)]) jM rfl)) (FactsOk.nil)))) ?_
   refine jT 0 rfl (Yl.move rfl) ?_
   refine jT 1 rfl (Yl.nilCheck rfl) ?_
   refine jT 2 rfl (Yl.fieldAddr0 F.fld251_0 rfl) ?_
   refine jF 3 0 rfl rfl (Yl.load1 F.one187 rfl) ?_
   refine jT 4 rfl (Yl.move rfl) ?_
   refine jT 5 rfl (Yl.move rfl) ?_
   refine jT 6 rfl (Yl.move rfl) ?_
   refine jT 7 rfl (Yl.indexAddrA (i := 0) F.arT139 rfl rfl (by decide)) ?_
   refine jF 8 1 rfl rfl (Yl.load1 F.one3 rfl) ?_
   refine jT 9 rfl (Yl.indexAddrA (i := 1) F.arT139 rfl rfl (by decide)) ?_
   refine jF 10 2 rfl rfl (Yl.load1 F.one3 rfl) ?_
   refine jT 11 rfl (Yl.move rfl) ?_
   refine jA 12 rfl ?_
   refine WL.callC (β := { z : JT // JPost bop la lb l1 (i + 1) (hiP la x i) (hiP lb y i) z }) (res := fun z => .int .i64 (z.1.2.2.2 : Int)) (cs := fun z => [jns z.1.1 bm bs z.1.2.1 z.1.2.2.1]) (Cs := [jns G1 bm bs l1 f1]) (C1 := [pt b17 [.int .i64 (loP la x i : Int), .int .i64 (loP lb y i : Int)] 139, pt b18 [.int .i64 (hiP la x i : Int), .int .i64 (hiP lb y i : Int)] 139, pt b11 [Value.int .i64 (x : Int), .int .i64 (y : Int)] 139]) (O' := G1) F.fun142 (fun d h => by cases h; rfl) rfl (List.Perm.refl _) bun_O1 bun_O2 (fun w hS hS2 => hrec (i + 1) (by omega) (by omega) G1 l1 f1 (hiP la x i) (hiP lb y i) w a2 c2 a4 c4 j1 j5 (by omega) (hE.next hS) hS2) (fun ⟨z2, hz2⟩ => ?_)
   refine WD.on (closed_of (by kernel_rfl)) (fun w hS => Sx.keep (hS.oldc (hE.ce 0 _ rfl) hE.ce') (Sx.gone rfl (Sx.gone rfl (Sx.none)))) ?_
   obtain ⟨G2, l2, f2, p2⟩ := z2
   obtain ⟨k1, k2, k3, k4, k5⟩ := hz2
   dsimp only at k1 k2 k3 k4 k5 ⊢
   refine jA 13 rfl ?_
   refine WA.openB (fun G3 _ _ _ => ?_)
   simp only [jnCs, List.cons_append, List.nil_append]
   refine WL.callC (β := { z : List Nat × List Dec × Nat // MadeN l2 z.2.1 z.2.2 (mkN i (trs l2 p1) (trs l2 p2)) ∧ z.2.1.length ≤ l2.length + 1 }) (res := fun z => .int .i64 (z.1.2.2 : Int)) (cs := fun z => [mkr z.1.1 bm z.1.2.1]) (Cs := [mkr G3 bm l2]) (C1 := [mpg enc2 bs (fun q => (f2 q).map encI), pt b17 [.int .i64 (loP la x i : Int), .int .i64 (loP lb y i : Int)] 139, pt b18 [.int .i64 (hiP la x i : Int), .int .i64 (hiP lb y i : Int)] 139, pt b11 [Value.int .i64 (x : Int), .int .i64 (y : Int)] 139]) (O' := G3) F.fun97 (fun d h => by cases h; rfl) rfl (List.Perm.refl _) bun_O1 bun_O2 (fun w hS hS2 => mnode_c G3 bm l2 i p1 p2 w hi24 k1 (j4.ext k2).lt k4.lt (by omega) hS2) (fun ⟨z3, hz3, hz3l⟩ => ?_)
   refine jG ?_
   obtain ⟨G4, l3, r3⟩ := z3
   dsimp only at hz3 hz3l ⊢
   refine jT 14 rfl (Yl.assign rfl) ?_
   refine jD ?_
   refine jN 2 ?_
   refine WC.drawsL (by kernel_rfl) (FactsOk.cons (ds := [6]) (LoadOk.by (Y := fun w => w.cell? ⟨bp, 5, none⟩ = some (.map (some bs))) (fun w hS => hS.oldc (hE.ce 5 _ rfl) hE.ce')) (FactsOk.cons (ds := [6]) (LoadOk.whole (t := 11) rfl jM) (FactsOk.nil))) ?_
   refine jT 0 rfl (Yl.move rfl) ?_
   refine jT 1 rfl (Yl.nilCheck rfl) ?_
   refine jT 2 rfl (Yl.fieldAddr0 F.fld251_3 rfl) ?_
   refine jF 3 0 rfl rfl (Yl.load1 F.one249 rfl) ?_
   refine jF 4 1 rfl rfl (Yl.loadN F.agg139 rfl rfl) ?_
   refine jT 5 rfl (Yl.move rfl) ?_
   refine jA 6 rfl ?_
   refine WL.mapPutG (f := fun q => (f2 q).map encI) (x, y) undMP keyPair rfl rfl rfl rfl jU ?_
   refine jG ?_
   refine jD ?_
   refine jN 10 ?_
   have hjr := JR.node ha hb hx hy hox hoy hi hi24 j4 k4 k2 hz3
   have hpre : ∃ t, l3 = l ++ t := by (obtain ⟨t1, e1⟩ := j2; obtain ⟨t2, e2⟩ := k2; obtain ⟨t3, e3⟩ := hz3.pre; exact ⟨t1 ++ t2 ++ t3, by rw [e3, e2, e1]; simp⟩)
   refine WQ.ret (rs := [.tmp 8]) rfl (.tmp rfl .nil) (fun w hS => ⟨⟨(G4 ++ ([bs] ++ []), l3, fun q => if q = (x, y) then some r3 else f2 q, r3), ⟨hz3.ismk, hpre, by dsimp only; omega, hjr, (k5.ext hz3.pre).put hjr⟩⟩, rfl, ?_⟩)
   refine St.jnsClose (F1 := G4) ?_
   rw [← pair_map (z := (r3 : Int)) rfl]
   exact (jK hS)
  ·refine WC.drawsL (by kernel_rfl) (FactsOk.cons (ds := []) (LoadOk.by (Y := fun w => w.cell? ⟨bp, 5, none⟩ = some (.map (some bs))) (fun w hS => hS.oldc (hE.ce 5 _ rfl) hE.ce')) (FactsOk.cons (ds := []) (LoadOk.whole (t := 11) rfl jM) (FactsOk.cons (ds := []) (LoadOk.by (Y := fun w => (mpg enc2 bs (fun q => (f q).map encI)).ok w) (fun w hS => hS.ok _ jM)) (FactsOk.nil)))) ?_
   refine jT 0 rfl (Yl.move rfl) ?_
   refine jT 1 rfl (Yl.nilCheck rfl) ?_
   refine jT 2 rfl (Yl.fieldAddr0 F.fld251_3 rfl) ?_
   refine jF 3 0 rfl rfl (Yl.load1 F.one249 rfl) ?_
   refine jF 4 1 rfl rfl (Yl.loadN F.agg139 rfl rfl) ?_
   refine jF 5 2 rfl rfl (Yl.lookupHit (f := fun q => (f q).map encI) (v := encI r) (x, y) undMP keyPair zeroInt rfl rfl rfl (by rw [hf]; rfl)) ?_
   refine jT 6 rfl (Yl.move rfl) ?_
   refine jT 7 rfl (Yl.extract rfl rfl) ?_
   refine jT 8 rfl (Yl.extract rfl rfl) ?_
   refine jT 9 rfl (Yl.assign rfl) ?_
   refine jT 10 rfl (Yl.assign rfl) ?_
   refine jD ?_
   refine jN 18 ?_
   refine WQ.ret (rs := [.tmp 8]) rfl (.tmp rfl .nil) (fun w hS => ⟨⟨(_, l, f, r), ⟨hm, ⟨[], by simp⟩, hpow, hsn x y r hf, hsn⟩⟩, rfl, St.jnsClose (jK hS)⟩)
abbrev DRes (f : Cf → Bool) : Type := { z : BT × Option Addr × Nat // z.1.ok 0 ∧ ∀ c, z.1.ev c = f c }
abbrev DRes.v {f : Cf → Bool} (z : DRes f) : Value := dval z.1.1 z.1.2.1 z.1.2.2
abbrev DRes.ch {f : Cf → Bool} (z : DRes f) : Chunk := dC z.1.2.1 z.1.2.2 z.1.1
def DPost (f : Cf → Bool) (w : World) (e : Ending) (w' : World) : Prop := ∃ z : DRes f, e = .returned z.v ∧ St w [] [z.ch] w'
theorem DRes.rd {f : Cf → Bool} (z : DRes f) {w0 w : World} {O : List Nat} {C : List Chunk} (hS : St w0 O C w) (hm : z.ch ∈ C) : RdD w z.1.1 z.1.2.1 := RdD.of_row z.2.1 (hS.ok _ hm)
theorem jenv_of {w0 w : World} {C : List Chunk} {F : List Nat} {bp bm bs ca cb ra rb : Nat} {la lb l : List Dec} {aa ab : Option Addr} {f : Nat × Nat → Option Nat} {e : TypeId}
  (hS : St w0 [] (jns F bm bs l f :: pt bp [pp bm, .slice aa la.length ca, .int .i64 (ra : Int), .slice ab lb.length cb, .int .i64 (rb : Int), .map (some bs)] e :: C) w) (hra : RdDec w0 la aa) (hrb : RdDec w0 lb ab) : JEnv w F bp bm bs la lb aa ab ca cb ra rb := by
 have hd := (List.pairwise_cons.1 hS.disj).1
 have hnew : ∀ b, b < w0.heap.size → b ∉ F := fun b hb hF => by
  have := (hS.bnd _ (List.mem_cons_self ..) b hF).2 hb
  simp at this
 refine ⟨fun j v hv => hS.cell (List.mem_cons_of_mem _ (List.mem_cons_self ..)) hv, fun hF => hd _ (List.mem_cons_self ..) bp hF rfl, fun j u hu => ?_, fun j u hu => ?_⟩
 ·obtain ⟨b, off, e1, e2⟩ := hra j u hu
  exact ⟨b, off, e1, hS.oldc e2 (by simp), hnew b (World.block_lt_of_cell? w0 _ e2)⟩
 ·obtain ⟨b, off, e1, e2⟩ := hrb j u hu
  exact ⟨b, off, e1, hS.oldc e2 (by simp), hnew b (World.block_lt_of_cell? w0 _ e2)⟩
end Go.Proofs.YtndpdhamadiopaaGreatDoor
namespace Go.Eng
open Go Go.RowKit Go.Proofs.YtndpdhamadiopaaGreatDoor
abbrev FR (l : Nat) : Fence := Fence.wide.inRound l
def isDefer : Op → Bool
 | .defer _ => true
 | _ => false
theorem not_defer {op : Op} (h : isDefer op = false) : ∀ c, op ≠ .defer c := fun c e => by rw [e] at h; cases h
section
variable {P : Program} {ops : Array Oper} {Q : Exit → Act → World → Prop} {n : Nat}
theorem rowsIn_wide {row : String} {args : Array Value} {w : World} {R : Value → World → Prop} (h : Rows P row args w R) : RowsIn Fence.wide n P row args w R := fun c cs _ => by
 obtain ⟨v, w', h1, h2⟩ := h c cs
 exact ⟨v, w', h1, stepsIn_wide.2 h2⟩
theorem upon_in {F : Fence} (hF : F = Fence.wide ∨ ∃ l, F = FR l) {o : Oper} {a : Act} {K : Act → World → Prop} {r : Result Next} (h : o.upon P a K Q r) : o.uponIn F n P a K Q r := by
 have hc : ∀ {m : Nat} {f : FuncId} {args : Array Value} {w : World} {R : Ending → World → Prop}, Calls P f args w R → CallsIn F m P f args w R := fun {m} {f} {args} {w} {R} h => by
  rcases hF with rfl | ⟨l, rfl⟩
  ·exact callsIn_wide.2 h
  ·exact callsIn_wide.2 h
 have hr : ∀ {m : Nat} {row : String} {args : Array Value} {w : World} {R : Value → World → Prop}, Rows P row args w R → RowsIn F m P row args w R := fun {m} {row} {args} {w} {R} h => by
  rcases hF with rfl | ⟨l, rfl⟩
  ·exact rowsIn_wide h
  ·exact rowsIn_wide h
 have hd : F.depth.isSome = true → 1 ≤ n := by
  rcases hF with rfl | ⟨l, rfl⟩ <;> (intro h; cases h)
 cases r with
 | ok x w' =>
  cases x <;> simp only [Oper.upon] at h <;> first
   | exact h
   | exact ⟨hd, hc h⟩
   | exact ⟨hd, hr h⟩
   | exact h.elim
 | halt x w' => cases x <;> first | exact h | exact h.elim
theorem semAt_nd {ρ : Operand → Value} {o : Oper} {ro : Option Nat} (h : isDefer o.op = false) : Oper.semAt ro ρ o = execOp ρ o := Oper.semAt_eq ro ρ o (not_defer h)
theorem fn_in {F : Fence} (hF : F = Fence.wide ∨ ∃ l, F = FR l) (f : FuncId) : F.fn f := by
 rcases hF with rfl | ⟨l, rfl⟩ <;> trivial
theorem oper_in {F : Fence} (hF : F = Fence.wide ∨ ∃ l, F = FR l) {o : Oper} {a : Act} {w : World} {K : Act → World → Prop} (hd : isDefer o.op = false) (h : o.wp P a w K Q) : o.wpIn F n P a w K Q :=
 ⟨fun f _ => fn_in hF f, by rw [semAt_nd hd]; exact upon_in hF h⟩
theorem wpO_in {F : Fence} (hF : F = Fence.wide ∨ ∃ l, F = FR l) {o : Oper} {rest : List Oper} {a : Act} {w : World} (hd : isDefer o.op = false) (hQ : ¬ LetsOut Q) (h : wpO P ops Q o (wpListIn F n P ops Q rest) a w) : wpListIn F n P ops Q (o :: rest) a w := by
 unfold wpO at h
 unfold wpListIn
 split at h
 ·rename_i hw
  rw [if_pos hw]
  rcases h with h | ⟨_, h⟩
  ·exact oper_in hF hd h
  ·exact absurd h hQ
 ·rename_i hw
  rw [if_neg hw]
  exact ⟨fun f _ => fn_in hF f, h⟩
theorem list_in {F : Fence} (hF : F = Fence.wide ∨ ∃ l, F = FR l) (hQ : ¬ LetsOut Q) : ∀ (l : List Oper) (a : Act) (w : World), (l.all fun o => !isDefer o.op) = true → wpList P ops Q l a w → wpListIn F n P ops Q l a w
 | [], _, _, _, h => h
 | o :: rest, a, w, hd, h => by
  simp only [List.all_cons, Bool.and_eq_true, Bool.not_eq_true'] at hd
  unfold wpListIn
  unfold wpList at h
  split at h
  ·rename_i hw
   rw [if_pos hw]
   rcases h with h | ⟨_, h⟩
   ·exact Oper.wpIn_mono (fun a w h => list_in hF hQ rest a w hd.2 h) (oper_in hF hd.1 h)
   ·exact absurd h hQ
  ·rename_i hw
   rw [if_neg hw]
   exact ⟨fun f _ => fn_in hF f, list_in hF hQ rest _ _ hd.2 h⟩
theorem any_in {F : Fence} (hF : F = Fence.wide ∨ ∃ l, F = FR l) (hQ : ¬ LetsOut Q) (hd : (ops.toList.all fun o => !isDefer o.op) = true) : ∀ (fuel : Nat) (listed : Array Bool) (a : Act) (w : World), wpAny P .any ops Q fuel listed a w → wpAnyIn F n P .any ops Q fuel listed a w
 | 0, _, _, _, h => h
 | fuel + 1, listed, a, w, h => ⟨h.1, fun i hi => by
  have h1 := h.2 i hi
  unfold wpOp at h1
  unfold wpOpIn
  split at h1
  ·rename_i ho; simp only [ho]; exact any_in hF hQ hd fuel _ _ _ h1
  ·rename_i o ho
   simp only [ho]
   have hdo : isDefer o.op = false := by
    have := List.all_eq_true.1 hd o (by rw [← Array.getElem?_toList] at ho; exact List.mem_of_getElem? ho)
    simpa using this
   split at h1
   ·rename_i hw
    rw [if_pos hw]
    rcases h1 with h1 | ⟨_, h1⟩
    ·exact Oper.wpIn_mono (fun a w h => any_in hF hQ hd fuel _ a w h) (oper_in hF hdo h1)
    ·exact absurd h1 hQ
   ·rename_i hw
    rw [if_neg hw]
    exact ⟨fun f _ => fn_in hF f, any_in hF hQ hd fuel _ _ _ h1⟩⟩
end
section
variable {P : Program} {w0 : World} {O : List Nat} {ops : Array Oper} {Q : Exit → Act → World → Prop} {N : Nat} {D : List Deferred} {L : FL} {C : List Chunk} {K : Act → World → Prop}
def WI (P : Program) (l : Nat) (w0 : World) (O : List Nat) (c : Code) (Q : Exit → Act → World → Prop) (N : Nat) (D : List Deferred) (L : FL) (C : List Chunk) : Prop :=
 ∀ a w, Fr N D L a → St w0 O C w → c.wpIn (FR l) 0 P Q a w
variable {l : Nat}
theorem WI.seq {x y : Code} (h : WI P l w0 O x (Exit.then (y.wpIn (FR l) 0 P Q) Q) N D L C) : WI P l w0 O (.seq x y) Q N D L C := fun a w hF hS => wpIn_seq (h a w hF hS)
theorem WI.skip (h : WQ w0 O Q .normal N D L C) : WI P l w0 O .skip Q N D L C := fun a w hF hS => wpIn_skip (h a w hF hS)
theorem WI.label {i : Nat} (h : WQ w0 O Q .normal N D L C) : WI P l w0 O (.label i) Q N D L C := fun a w hF hS => wpIn_label (h a w hF hS)
theorem WI.ret (h : WQ w0 O Q .ret N D L C) : WI P l w0 O .ret Q N D L C := fun a w hF hS => wpIn_ret (h a w hF hS)
theorem WI.exit {i : Nat} (h : WQ w0 O Q (.exit i) N D L C) : WI P l w0 O (.exit i) Q N D L C := fun a w hF hS => wpIn_exit (h a w hF hS)
theorem WI.block {i : Nat} {c : Code} (h : WI P l w0 O c (Exit.inBlock i Q) N D L C) : WI P l w0 O (.block i c) Q N D L C := fun a w hF hS => wpIn_block (h a w hF hS)
theorem WI.region {i : Nat} {r : List Oper} (hQ : ¬ LetsOut Q) (hd : (r.all fun o => !isDefer o.op) = true) (h : WA w0 O (wpList P r.toArray Q r) N D L C) : WI P l w0 O (.region i r.toArray false) Q N D L C := fun a w hF hS =>
 wpIn_region_lit (list_in (.inr ⟨l, rfl⟩) hQ r a w hd (h a w hF hS))
theorem WI.cond {c : Operand} {x y : Code} {t : Bool} (hc : ev L c = some (.bool t)) (ht : t = true → WI P l w0 O x Q N D L C) (hf : t = false → WI P l w0 O y Q N D L C) :
  WI P l w0 O (.cond c x y) Q N D L C := fun a w hF hS => wpIn_cond_split (hF.ev hc) (fun h => ht h a w hF hS) (fun h => hf h a w hF hS)
theorem WI.condT {c : Operand} {x y : Code} (hc : ev L c = some (.bool true)) (h : WI P l w0 O x Q N D L C) : WI P l w0 O (.cond c x y) Q N D L C :=
 fun a w hF hS => wpIn_cond_true (hF.ev hc) (h a w hF hS)
theorem WI.condF {c : Operand} {x y : Code} (hc : ev L c = some (.bool false)) (h : WI P l w0 O y Q N D L C) : WI P l w0 O (.cond c x y) Q N D L C :=
 fun a w hF hS => wpIn_cond_false (hF.ev hc) (h a w hF hS)
theorem WI.chunks {c : Code} {C' : List Chunk} (hs : ∀ w, St w0 O C w → St w0 O C' w) (h : WI P l w0 O c Q N D L C') : WI P l w0 O c Q N D L C := fun a w hF hS => h a w hF (hs w hS)
theorem WI.know {c : Code} {φ : Prop} (hs : ∀ w, St w0 O C w → φ) (h : φ → WI P l w0 O c Q N D L C) : WI P l w0 O c Q N D L C := fun a w hF hS => h (hs w hS) a w hF hS
theorem WI.drawsL {id : Nat} {r : List Oper} {Fs : List (List Nat × (World → Prop))} (hQ : ¬ LetsOut Q) (hd : (r.all fun o => !isDefer o.op) = true) (hm : P.follows .mixedOrders = true) (hF : FactsOk w0 O L C Fs)
  (h : WD P w0 O r.toArray Q Fs r.length (Array.replicate r.length false) N D L C) : WI P l w0 O (.region id r.toArray true) Q N D L C := fun a w hFr hS => by
 refine wpIn_region_any hm (any_in (.inr ⟨l, rfl⟩) hQ (by simpa using hd) _ _ _ _ (wpAny_of_T (Fs := Fs) _ _ _ _ ?_))
 have hc : Closed r.toArray (Array.replicate r.length false) := by
  intro j oj _ hl
  rcases Nat.lt_or_ge j r.length with h' | h'
  ·simp [h'] at hl
  ·simp [h'] at hl
 have hS' : St w0 O C { w with drawn := w.drawn + 1 } := ⟨hS.os, hS.tape, hS.output, hS.size, hS.old, fun c hc => c.loc w _ (fun _ _ => rfl) (hS.ok c hc), hS.bnd, hS.disj⟩
 have h1 := h hc a { w with drawn := w.drawn + 1 } hFr hS' (fun f hf _ => hF _ hS' f hf)
 simpa using h1
theorem WIL.nil (h : WQ w0 O Q .normal N D L C) : WA w0 O (wpListIn Fence.wide 0 P ops Q []) N D L C := fun a w hF hS => h a w hF hS
theorem WIL.step {o : Oper} {rest : List Oper} (hQ : ¬ LetsOut Q) (hd : isDefer o.op = false) (h : WK P w0 O ops Q o (wpListIn Fence.wide 0 P ops Q rest) N D L C) : WA w0 O (wpListIn Fence.wide 0 P ops Q (o :: rest)) N D L C := fun a w hF hS =>
 wpO_in (.inl rfl) hd hQ (h a w hF hS)
theorem WIL.guardT {o : Oper} {rest : List Oper} {j : Nat} {g : Bool} {dj : Nat} (hgd : o.guard = some (j, g)) (hj : (ops[j]?).bind (·.dst) = some dj) (hv : lk L dj = some (.bool g))
  (h : WA w0 O (wpListIn Fence.wide 0 P ops Q ({ o with guard := none } :: rest)) N D L C) : WA w0 O (wpListIn Fence.wide 0 P ops Q (o :: rest)) N D L C := fun a w hF hS => by
 have h' := h a w hF hS
 have hw : Region.wanted o (yielded ops a.tmps) = true := by
  have := hF.get dj _ hv
  simp [Region.wanted, hgd, yielded, hj, this]
 unfold wpListIn at h' ⊢
 rw [if_pos hw]
 rw [if_pos (by simp [Region.wanted])] at h'
 exact h'
variable {d : Nat} {ty : TypeId} {pos : String} {af : Array Edge}
theorem WIL.yield {β : Type} {b : Bool} {rest : List Oper} {x : Operand} {xs : List Operand} {tys : Array TypeId} {vs : List Value} {cs : β → List Chunk} {Cs C1 : List Chunk} {O' : List Nat} {φ : β → Prop}
  (hd : Nat.blt d N = true) (hfv : ev L x = some (.func (.yield l) #[] #[])) (hx : evs L xs = some vs) (hp : C.Perm (Cs ++ C1)) (hO1 : ∀ c ∈ Cs, ∀ k, c.fp k → k ∈ O') (hO2 : ∀ k ∈ O', ∃ c ∈ Cs, c.fp k)
  (hc : ∀ w, St w0 O (Cs ++ C1) w → St w O' Cs w → YieldAt Fence.wide 0 P l vs.toArray w fun e w' => e = .returned (.bool b) ∧ ∃ x, φ x ∧ St w O' (cs x) w')
  (h : ∀ x, φ x → WA w0 O (wpListIn Fence.wide 0 P ops Q rest) N D ((d, .bool b) :: L) (cs x ++ C1)) :
  WA w0 O (wpListIn Fence.wide 0 P ops Q (⟨some d, .call { callee := .value x, args := xs.toArray, argTypes := tys }, ty, pos, af, none⟩ :: rest)) N D L C := fun a w hF hS => by
 have ha : xs.toArray.map a.eval = vs.toArray := by apply Array.ext'; simp [hF.evs hx]
 have hS1 := hS.perm hp
 obtain ⟨fn, tmps, assign, body, hy, hR⟩ := hc w hS1 (hS1.focus hO1)
 unfold wpListIn
 rw [if_pos (by simp [Region.wanted])]
 refine ⟨fun f _ => trivial, ?_⟩
 have e1 : (Oper.semAt Fence.wide.round a.eval ⟨some d, .call { callee := .value x, args := xs.toArray, argTypes := tys }, ty, pos, af, none⟩).run P w = .ok (.round l fn tmps assign body) w := by
  rw [semAt_nd rfl]
  simp [execOp, resolve, Deferred.ofValue, hF.ev hfv, invoke, ha, hy]
 rw [e1]
 refine ⟨fun h => (by cases h), hR.mono ?_⟩
 rintro e w' ⟨rfl, y, hφ, hS'⟩
 exact h y hφ _ w' (hF.put d _ hd) (hS1.callC hS' hO2)
end
def ob1 (b : Nat) (o : Obj) : Chunk where
 fp k := k = b
 ok w := w.heap[b]? = some o
 loc w w' h hw := by rw [h b rfl]; exact hw
theorem FpIs.ob1 {b : Nat} {o : Obj} : FpIs (ob1 b o) [b] := fun k => by simp [Eng.ob1]
section
variable {P : Program} {w0 : World} {O : List Nat} {ops : Array Oper} {Q : Exit → Act → World → Prop} {N : Nat} {D : List Deferred} {L : FL} {C : List Chunk} {K : Act → World → Prop}
theorem St.allocO {w : World} (h : St w0 O C w) (o : Obj) : St w0 O (ob1 w.heap.size o :: C) (w.alloc o) := by
 have hh : ∀ k, k < w.heap.size → (w.alloc o).heap[k]? = w.heap[k]? := fun k hk => Below.heap_alloc w _ k hk
 refine ⟨h.os, h.tape, h.output, by have := h.size; simp; omega, fun k hk ho => ?_, ?_, ?_, ?_⟩
 ·rw [hh k (Nat.lt_of_lt_of_le hk h.size)]; exact h.old k hk ho
 ·intro c hc
  rcases List.mem_cons.1 hc with rfl | hc
  ·exact World.alloc_heap_new w o
  ·exact c.loc w _ (fun k hk => hh k (h.bnd c hc k hk).1) (h.ok c hc)
 ·intro c hc k hk
  rcases List.mem_cons.1 hc with rfl | hc
  ·have : k = w.heap.size := hk
   subst this
   exact ⟨by simp, fun hlt => absurd hlt (Nat.not_lt.2 h.size)⟩
  ·exact ⟨by have := (h.bnd c hc k hk).1; simp; omega, (h.bnd c hc k hk).2⟩
 ·refine List.Pairwise.cons (fun c hc k hk hk' => ?_) h.disj
  have : k = w.heap.size := hk
  subst this
  exact Nat.lt_irrefl _ (h.bnd c hc _ hk').1
theorem St.putO {w : World} {b : Nat} {o : Obj} (h : St w0 O (ob1 b o :: C) w) (o' : Obj) : St w0 O (ob1 b o' :: C) (w.putObj b o') := by
 have hb : b < w.heap.size := lt_of_heap (h.ok _ (List.mem_cons_self ..))
 have hbn := h.bnd _ (List.mem_cons_self ..) b rfl
 have hd := List.pairwise_cons.1 h.disj
 refine ⟨h.os, h.tape, h.output, by rw [World.putObj_size]; exact h.size, fun k hk ho => ?_, ?_, ?_, List.Pairwise.cons hd.1 hd.2⟩
 ·rw [World.putObj_heap_other (fun e => by subst e; exact ho (hbn.2 hk))]; exact h.old k hk ho
 ·intro c hc
  rcases List.mem_cons.1 hc with rfl | hc9
  ·exact World.putObj_heap_same hb
  ·exact c.loc w _ (fun k hk => World.putObj_heap_other (fun e => hd.1 c hc9 b rfl (e ▸ hk))) (h.ok c (List.mem_cons_of_mem _ hc9))
 ·intro c hc k hk
  rw [World.putObj_size]
  rcases List.mem_cons.1 hc with rfl | hc
  ·exact h.bnd _ (List.mem_cons_self ..) k hk
  ·exact h.bnd c (List.mem_cons_of_mem _ hc) k hk
def putL : List Nat → List Value → FL → FL
 | p :: ps, v :: vs, L => putL ps vs ((p, v) :: L)
 | _, _, L => L
theorem Fr.putL {Dd : List Deferred} : ∀ (ps : List Nat) (vs : List Value) {L : FL} {t : Array Value}, (ps.all fun p => Nat.blt p N) = true → Fr N Dd L { tmps := t, defers := Dd } →
  Fr N Dd (Eng.putL ps vs L) { tmps := (ps.zip vs).foldl (fun t (q : Nat × Value) => t.setIfInBounds q.1 q.2) t, defers := Dd }
 | [], _, _, _, _, h => by simpa [Eng.putL] using h
 | _ :: _, [], _, _, _, h => by simpa [Eng.putL] using h
 | p :: ps, v :: vs, L, t, hp, h => by
  simp only [List.all_cons, Bool.and_eq_true] at hp
  simp only [Eng.putL, List.zip_cons_cons, List.foldl_cons]
  exact Fr.putL ps vs hp.2 (h.put p v hp.1)
def rdPost (G : Prop → Prop) (w1 : World) (O : List Nat) {σ : Type} (I : σ → Prop) (J : σ → List Chunk) : Exit → Act → World → Prop
 | .normal, _, w => ∃ y, I y ∧ St w1 O (J y) w
 | _, _, _ => False
theorem WQ.round {G : Prop → Prop} {σ : Type} {I : σ → Prop} {J : σ → List Chunk} (y : σ) (hI : I y) (h : ∀ w, St w0 O C w → St w0 O (J y) w) : WQ w0 O (rdPost G w0 O I J) .normal N D L C := fun a w hF hS => ⟨y, hI, h w hS⟩
def beginK (P : Program) (l : Nat) (body : Code) (Q : Exit → Act → World → Prop) (a : Act) (w : World) : Prop := ∃ w2, (Instr.beginRound l).run P w = .ok () w2 ∧ body.wpIn (FR l) 0 P Q a w2
theorem WQ.begin {l : Nat} {body : Code} {r : Loop} {C1 : List Chunk} (hr : r.state = .ready) (hp : C.Perm (ob1 l (.loop r) :: C1)) (h : WI P l w0 O body Q N D L (ob1 l (.loop { r with state := .busy }) :: C1)) :
  WQ w0 O (Exit.then (beginK P l body Q) (fun _ _ _ => False)) .normal N D L C := fun a w hF hS => by
 have hS1 := hS.perm hp
 exact ⟨_, run_beginRound (hS1.ok _ (List.mem_cons_self ..)) hr, h a _ hF (hS1.putO _)⟩
abbrev recOf (fn : FuncId) (t : Array Value) (ps : List Nat) (assign body : Code) (Db : Nat) : Loop := { state := .ready, pending := none, fn, tmps := t, params := ps.toArray, assign, body, defers := Db }
theorem WC.rangeFunc {σ : Type} {g : Operand} {ps : List Nat} {assign body : Code} {gf : FuncId} {cap : List Value} {C1 : List Chunk} {n : Nat} (encs : Nat → List Value) (I : Nat → σ → Prop) (J : σ → List Chunk) (G : σ → List Nat) (y0 : σ)
  (hJ : ∀ y, FpL (J y) (G y)) (hI0 : I 0 y0) (hg : ev L g = some (.func (.func gf) #[] cap.toArray)) (hf : funB P gf = some true) (hps : ∀ k, (encs k).length = ps.length) (hpN : (ps.all fun p => Nat.blt p N) = true) (hp : C.Perm (J y0 ++ C1))
  (hc : ∀ (l : Nat) (ch : σ → Chunk) (w : World), w0.heap.size ≤ l → St w0 O (J y0 ++ C1) w → (∀ y, FpIs (ch y) (l :: G y)) → (∀ c ∈ J y0 ++ C1, ∀ k, c.fp k → k ≠ l) → St w (l :: G y0) [ch y0] w →
   (∀ k y w1, k < n → I k y → St w (l :: G y0) [ch y] w1 → YieldAt Fence.wide 0 P l (encs k).toArray w1 fun e w' => e = .returned (.bool true) ∧ ∃ y', I (k + 1) y' ∧ St w1 (l :: G y) [ch y'] w') →
   Calls P gf (Value.func (.yield l) #[] #[] :: cap).toArray w fun e w' => ∃ y, (∃ v, e = .returned v) ∧ I n y ∧ St w (l :: G y0) [ch y] w')
  (hround : ∀ (l : Nat) (r : Loop) k y w1, k < n → I k y → r.state = .ready → w0.heap.size ≤ l → St w0 O (J y ++ C1) w1 →
   WI P l w1 (l :: G y) assign (Exit.then (beginK P l body (rdPost (fun p => p) w1 (l :: G y) (I (k + 1)) (fun y => ob1 l (.loop { r with state := .busy }) :: J y))) (fun _ _ _ => False)) N [] (putL ps (encs k) L) (ob1 l (.loop r) :: J y))
  (hdone : ∀ Db y, I n y → WQ w0 O Q .normal N ({ target := .collected Db, args := #[] } :: D) L (ob1 Db (.deferred (some [])) :: J y ++ C1)) :
  WC P w0 O (.rangeFunc g ps.toArray assign body) Q N D L C := fun a w hFr hS0 => by
 have hS := hS0.perm hp
 refine (wpIn_wide (n := 1)).1 (wpIn_rangeFunc ?_)
 intro fn _
 show ∃ l mark w₁ d w₁' f args w₂, (Instr.enterLoop fn a.tmps ps.toArray assign body none).run P w = _ ∧ _
 obtain ⟨W1, hW1⟩ : ∃ W1, (w.alloc (.deferred (some []))).alloc (.loop (recOf fn a.tmps ps assign body w.heap.size)) = W1 := ⟨_, rfl⟩
 have hSd := (hS.allocO (.deferred (some []))).allocO (.loop (recOf fn a.tmps ps assign body w.heap.size))
 rw [hW1, World.size_alloc] at hSd
 have hlsz : w0.heap.size ≤ w.heap.size + 1 := Nat.le_succ_of_le hS.size
 refine ⟨w.heap.size + 1, [{ target := .collected w.heap.size, args := #[] }], W1, { target := .fn (.func gf) cap.toArray, args := #[.func (.yield (w.heap.size + 1)) #[] #[]] }, W1, gf,
  #[.func (.yield (w.heap.size + 1)) #[] #[]] ++ cap.toArray, W1, ?_, ?_, ?_, ?_, fun h => (by cases h), ?_⟩
 ·rw [← hW1]; exact run_enterLoop_outer _ _ _ _ _
 ·simp only [resolve, hFr.ev hg]
  simp [go_sem]
 ·intro f' _; trivial
 ·simp [invoke, go_sem, run_callFunc hf]
 obtain ⟨Db, hD⟩ : ∃ Db, w.heap.size = Db := ⟨_, rfl⟩
 obtain ⟨l, hl⟩ : ∃ l, Db + 1 = l := ⟨_, rfl⟩
 rw [hD] at hSd hlsz ⊢
 rw [hl] at hSd hlsz ⊢
 have hch : ∀ y, FpIs (bun (l :: G y) (fun _ : Unit => ob1 l (.loop (recOf fn a.tmps ps assign body Db)) :: J y) (fun _ => True)) (l :: G y) := fun y k => Iff.rfl
 have hclose : ∀ (y : σ) {v : World} {O1 : List Nat} {C2 : List Chunk} {wb : World}, St wb O1 (ob1 l (.loop (recOf fn a.tmps ps assign body Db)) :: J y ++ C2) v → St wb O1 (bun (l :: G y) (fun _ : Unit => ob1 l (.loop (recOf fn a.tmps ps assign body Db)) :: J y) (fun _ => True) :: C2) v := fun y {v} {O1} {C2} {wb} h =>
  St.bunClose' (Cs := fun _ : Unit => ob1 l (.loop (recOf fn a.tmps ps assign body Db)) :: J y) () trivial (.cons FpIs.ob1 (hJ y)) h
 -- the world in which the iterator is called
 have hSP : St w0 O (ob1 l (.loop (recOf fn a.tmps ps assign body Db)) :: J y0 ++ (ob1 Db (.deferred (some [])) :: C1)) W1 := hSd.perm (.cons _ (List.perm_middle.symm))
 have hfoc : St W1 (l :: G y0) [bun (l :: G y0) (fun _ : Unit => ob1 l (.loop (recOf fn a.tmps ps assign body Db)) :: J y0) (fun _ => True)] W1 :=
  (hclose y0 hSP).focus (Cs := [_]) (C1 := ob1 Db (.deferred (some [])) :: C1) (fun c hc k hk => by rw [List.mem_singleton.1 hc] at hk; exact hk)
 have hJC : St w0 O (J y0 ++ C1) W1 := hSP.sublist (List.Sublist.cons _ ((List.Sublist.refl _).append (List.sublist_cons_self ..)))
 have hdis : ∀ c ∈ J y0 ++ C1, ∀ k, c.fp k → k ≠ l := fun c hc k hk e => by
  have h1 := (hS.bnd c hc k hk).1
  subst e; omega
 refine (callsIn_wide (n := 0)).2 ?_
 have hargs : #[Value.func (.yield l) #[] #[]] ++ cap.toArray = (Value.func (.yield l) #[] #[] :: cap).toArray := by simp
 rw [hargs]
 refine (hc l (fun y => bun (l :: G y) (fun _ : Unit => ob1 l (.loop (recOf fn a.tmps ps assign body Db)) :: J y) (fun _ => True)) W1 hlsz hJC hch hdis hfoc ?_).mono ?_
 ·-- one round
  intro k y w1 hk hI hSy
  obtain ⟨_, _, _, _, hSo⟩ := hSy.bunOpen
  have hlr := hSo.ok _ (List.mem_cons_self ..)
  have hS1 : St w1 (l :: G y) (ob1 l (.loop (recOf fn a.tmps ps assign body Db)) :: J y) w1 := by
   have h9 : St W1 (l :: G y0) ((ob1 l (.loop (recOf fn a.tmps ps assign body Db)) :: J y) ++ []) w1 := hSo
   exact h9.focus (FpL.one (.cons FpIs.ob1 (hJ y)))
  have hglob : St w0 O (J y ++ C1) w1 := by
   have h8 : St w0 O ([bun (l :: G y0) (fun _ : Unit => ob1 l (.loop (recOf fn a.tmps ps assign body Db)) :: J y0) (fun _ => True)] ++ (ob1 Db (.deferred (some [])) :: C1)) W1 := hclose y0 hSP
   have h9 := h8.callC hSy (fun k hk => ⟨_, List.mem_singleton.2 rfl, hk⟩)
   obtain ⟨_, _, _, _, h7⟩ := (show St w0 O (bun (l :: G y) (fun _ : Unit => ob1 l (.loop (recOf fn a.tmps ps assign body Db)) :: J y) (fun _ => True) :: (ob1 Db (.deferred (some [])) :: C1)) w1 from h9).bunOpen
   exact (show St w0 O (ob1 l (.loop (recOf fn a.tmps ps assign body Db)) :: (J y ++ (ob1 Db (.deferred (some [])) :: C1))) w1 from h7).sublist (List.Sublist.cons _ ((List.Sublist.refl _).append (List.sublist_cons_self ..)))
  have hy := run_yield (P := P) (args := (encs k).toArray) hlr (by simp [hps k])
  refine ⟨_, _, _, _, hy, ?_⟩
  have hfr : Fr N [] (putL ps (encs k) L) { tmps := ((recOf fn a.tmps ps assign body Db).params.zip (encs k).toArray).foldl (fun t (q : Tmp × Value) => t.setIfInBounds q.1 q.2) (recOf fn a.tmps ps assign body Db).tmps, defers := [] } := by
   have h1 : Fr N [] L { tmps := a.tmps, defers := [] } := ⟨rfl, hFr.size, hFr.get⟩
   have h2 := Fr.putL ps (encs k) hpN h1
   simpa using h2
  have hw := hround l (recOf fn a.tmps ps assign body Db) k y w1 hk hI rfl hlsz hglob _ w1 hfr hS1
  refine roundIn_of_wpIn (F := Fence.wide) trivial (wpIn_mono hw ?_)
  intro e a1 w2 h
  cases e with
  | normal =>
   obtain ⟨w3, hb, hbody⟩ := h
   refine ⟨w3, hb, wpIn_mono hbody ?_⟩
   intro e2 a2 w4 h4
   cases e2 with
   | normal =>
    obtain ⟨y', hI', hS'⟩ := h4
    have hl4 := hS'.ok _ (List.mem_cons_self ..)
    refine ⟨_, _, run_endRound none hl4, rfl, y', hI', ?_⟩
    have h5 := hS'.putO (.loop { (recOf fn a.tmps ps assign body Db) with state := .ready, pending := none })
    have h6 : St w1 (l :: G y) (ob1 l (.loop (recOf fn a.tmps ps assign body Db)) :: J y' ++ []) (w4.putObj l (.loop { (recOf fn a.tmps ps assign body Db) with state := .ready, pending := none })) := by
     rw [List.append_nil]
     exact h5
    exact hclose y' h6
   | _ => exact h4.elim
  | _ => exact h.elim
 ·-- behind the iterator
  rintro e W2 ⟨y, ⟨v, rfl⟩, hIn, hS2⟩
  have h8 : St w0 O ([bun (l :: G y0) (fun _ : Unit => ob1 l (.loop (recOf fn a.tmps ps assign body Db)) :: J y0) (fun _ => True)] ++ (ob1 Db (.deferred (some [])) :: C1)) W1 := hclose y0 hSP
  have h9 := h8.callC hS2 (fun k hk => ⟨_, List.mem_singleton.2 rfl, hk⟩)
  obtain ⟨_, _, _, _, h7⟩ := (show St w0 O (bun (l :: G y) (fun _ : Unit => ob1 l (.loop (recOf fn a.tmps ps assign body Db)) :: J y) (fun _ => True) :: (ob1 Db (.deferred (some [])) :: C1)) W2 from h9).bunOpen
  have hl7 := h7.ok _ (List.mem_cons_self ..)
  refine ⟨none, _, run_endLoop hl7 (by simp), ?_⟩
  have h6 := (show St w0 O (ob1 l (.loop (recOf fn a.tmps ps assign body Db)) :: (J y ++ (ob1 Db (.deferred (some [])) :: C1))) W2 from h7).putO (.loop { (recOf fn a.tmps ps assign body Db) with state := .exhausted })
  refine hdone Db y hIn _ _ ⟨?_, hFr.size, hFr.get⟩ ((h6.sublist (List.sublist_cons_self ..)).perm List.perm_middle)
  show [_] ++ a.defers = _
  rw [hFr.defers]; rfl
def bodyPostR (P : Program) (fn : Func) (R : Ending → World → Prop) : Exit → Act → World → Prop
 | .normal, a, w | .ret, a, w => LeavesInM Fence.wide 0 P fn a.tmps R a.defers .returning w
 | _, _, _ => False
end
end Go.Eng
namespace Go.Proofs.YtndpdhamadiopaaGreatDoor
open Go Go.Eng Go.Proofs Dg
abbrev DV := BT × Option Addr × Nat
def RdIn (w : World) (x : DV) (F : List Nat) : Prop := x.1.ok 0 ∧ ∀ (j : Nat) (u : Value), (decs (canon x.1).1)[j]? = some u → ∃ b off, x.2.1 = some ⟨b, off, none⟩ ∧ w.cell? ⟨b, off + j, none⟩ = some u ∧ b ∈ F
def dsC (F : List Nat) (l : List DV) : Chunk where
 fp k := k ∈ F
 ok w := ∀ x ∈ l, RdIn w x F
 loc w w' h hw := fun x hx => ⟨(hw x hx).1, fun j u hu => by
  obtain ⟨b, off, e1, e2, e3⟩ := (hw x hx).2 j u hu
  exact ⟨b, off, e1, by rw [World.cell?_of_block (h b e3)]; exact e2, e3⟩⟩
theorem FpIs.dsC {F : List Nat} {l : List DV} : FpIs (dsC F l) F := fun k => Iff.rfl
theorem dsC_rd {F : List Nat} {l : List DV} {w : World} {x : DV} (h : (dsC F l).ok w) (hx : x ∈ l) : RdD w x.1 x.2.1 := ⟨(h x hx).1, fun j u hu => by
 obtain ⟨b, off, e1, e2, _⟩ := (h x hx).2 j u hu
 exact ⟨b, off, e1, e2⟩⟩
abbrev dcs (l : List DV) : List Value := l.flatMap fun x => [.slice x.2.1 (canon x.1).1.length x.2.2, .int .i64 ((canon x.1).2 : Int)]
theorem dcs_len : ∀ l : List DV, (dcs l).length = l.length * 2
 | [] => rfl
 | x :: l => by
  have ih := dcs_len l
  simp only [dcs, List.flatMap_cons, List.length_append, List.length_cons, List.length_nil] at ih ⊢
  omega
theorem dcs_at : ∀ {l : List DV} {k : Nat} {x : DV}, l[k]? = some x → ∀ j u, [Value.slice x.2.1 (canon x.1).1.length x.2.2, .int .i64 ((canon x.1).2 : Int)][j]? = some u → (dcs l)[k * 2 + j]? = some u
 | y :: l, 0, x, h, j, u, hu => by
  simp at h; subst h
  have hj : j < 2 := by have := (List.getElem?_eq_some_iff.1 hu).1; simpa using this
  simp only [dcs, List.flatMap_cons, Nat.zero_mul, Nat.zero_add]
  rw [List.getElem?_append_left (by simpa using hj)]
  exact hu
 | y :: l, k + 1, x, h, j, u, hu => by
  have ih := dcs_at (l := l) (k := k) (by simpa using h) j u hu
  simp only [dcs, List.flatMap_cons] at ih ⊢
  rw [List.getElem?_append_right (by simp; omega), show (k + 1) * 2 + j - [Value.slice y.2.1 (canon y.1).1.length y.2.2, .int .i64 ((canon y.1).2 : Int)].length = k * 2 + j by simp; omega]
  exact ih
section
variable {w0 : World} {O : List Nat} {C : List Chunk}
theorem St.dsNil {w : World} (h : St w0 O C w) : St w0 O (dsC [] [] :: C) w :=
 ⟨h.os, h.tape, h.output, h.size, h.old, fun c hc => by
  rcases List.mem_cons.1 hc with rfl | hc
  ·intro x hx; cases hx
  ·exact h.ok c hc, fun c hc k hk => by
  rcases List.mem_cons.1 hc with rfl | hc
  ·cases hk
  ·exact h.bnd c hc k hk, List.Pairwise.cons (fun _ _ _ hk => by cases hk) h.disj⟩
theorem St.dsSnoc {w : World} {F : List Nat} {l : List DV} {t : BT} {a : Option Addr} {c : Nat} (ht : t.ok 0) (h : St w0 O (dsC F l :: dC a c t :: C) w) : ∃ F', St w0 O (dsC F' (l ++ [(t, a, c)]) :: C) w := by
 have hok : (dC a c t).ok w := h.ok _ (List.mem_cons_of_mem _ (List.mem_cons_self ..))
 have hob : ∃ G : List Nat, (∀ k ∈ G, (dC a c t).fp k) ∧ RdIn w (t, a, c) G := by
  by_cases h0 : (canon t).1.length = 0
  ·exact ⟨[], by simp, ht, fun j u hu => by
    have := (List.getElem?_eq_some_iff.1 hu).1
    rw [decs_len] at this
    dsimp only at this
    omega⟩
  ·obtain ⟨g, hg, _, _⟩ := rowc_addr hok (by omega)
   subst hg
   exact ⟨[g], fun k hk => by simp at hk; subst hk; rfl, ht, fun j u hu => ⟨g, 0, rfl, by rw [Nat.zero_add]; exact rowc_cells hok hu, by simp⟩⟩
 obtain ⟨G, hG1, hG2⟩ := hob
 refine ⟨F ++ G, h.join (fun k hk => ?_) (fun hc hd _ => ?_)⟩
 ·rcases List.mem_append.1 hk with hk | hk
  ·exact .inl hk
  ·exact .inr (hG1 k hk)
 ·intro x hx
  rcases List.mem_append.1 hx with hx | hx
  ·exact ⟨(hc x hx).1, fun j u hu => by
    obtain ⟨b, off, e1, e2, e3⟩ := (hc x hx).2 j u hu
    exact ⟨b, off, e1, e2, List.mem_append_left _ e3⟩⟩
  ·rw [List.mem_singleton.1 hx]
   exact ⟨hG2.1, fun j u hu => by
    obtain ⟨b, off, e1, e2, e3⟩ := hG2.2 j u hu
    exact ⟨b, off, e1, e2, List.mem_append_right _ e3⟩⟩
end
open Go Go.Eng Go.Proofs Dg
def RdSl {α : Type} (cells : α → List Value) (sz : Nat) (w : World) (l : List α) (a : Option Addr) : Prop :=
 ∀ i x, l[i]? = some x → ∃ b off, a = some ⟨b, off, none⟩ ∧ ∀ j u, (cells x)[j]? = some u → w.cell? ⟨b, off + i * sz + j, none⟩ = some u
section
variable {α : Type} {cells : α → List Value} {sz : Nat} {w0 w : World} {l : List α} {a : Option Addr}
theorem RdSl.next {C : List Chunk} (h : RdSl cells sz w0 l a) (hS : St w0 [] C w) : RdSl cells sz w l a := fun i x hx => by
 obtain ⟨b, off, e, hc⟩ := h i x hx
 exact ⟨b, off, e, fun j u hu => hS.oldc (hc j u hu) (by simp)⟩
theorem flat_at : ∀ {l : List α} {k : Nat} {x : α}, (∀ x ∈ l, (cells x).length = sz) → l[k]? = some x → ∀ j u, (cells x)[j]? = some u → (l.flatMap cells)[k * sz + j]? = some u
 | [], k, x, _, h, _, _, _ => by simp at h
 | y :: l, 0, x, hl, h, j, u, hu => by
  simp at h; subst h
  rw [List.flatMap_cons, Nat.zero_mul, Nat.zero_add, List.getElem?_append_left (List.getElem?_eq_some_iff.1 hu).1]
  exact hu
 | y :: l, k + 1, x, hl, h, j, u, hu => by
  have ih := flat_at (l := l) (k := k) (fun z hz => hl z (by simp [hz])) (by simpa using h) j u hu
  have hy := hl y (by simp)
  rw [List.flatMap_cons, List.getElem?_append_right (by rw [hy, Nat.succ_mul]; omega), show (k + 1) * sz + j - (cells y).length = k * sz + j by rw [hy, Nat.succ_mul]; omega]
  exact ih
theorem RdSl.of_row {n c : Nat} {e : TypeId} (hl : ∀ x ∈ l, (cells x).length = sz) (h0 : 0 < n → 0 < l.length) (hn : l.length ≤ n) (h : (rowc (.slice a n c) n e sz (l.flatMap cells)).ok w) : RdSl cells sz w l a := fun i x hx => by
 have hi := (List.getElem?_eq_some_iff.1 hx).1
 obtain ⟨g, hg, _, _⟩ := rowc_addr h (by omega)
 subst hg
 exact ⟨g, 0, rfl, fun j u hu => by rw [Nat.zero_add]; exact rowc_cells h (flat_at hl hx j u hu)⟩
end
end Go.Proofs.YtndpdhamadiopaaGreatDoor
namespace Dg
def notT : BT → BT
 | .lf b => .lf (!b)
 | .nd v lo hi => mkN v (notT lo) (notT hi)
theorem notT_ok : ∀ {t : BT} {m : Nat}, t.ok m → (notT t).ok m
 | .lf _, _, _ => trivial
 | .nd v lo hi, m, h => mkN_ok h.1 h.2.1 (notT_ok h.2.2.2.1) (notT_ok h.2.2.2.2)
theorem notT_ev : ∀ (t : BT) (c : Cf), (notT t).ev c = !t.ev c
 | .lf _, _ => rfl
 | .nd v lo hi, c => by
  rw [notT, mkN_ev, notT_ev lo, notT_ev hi]
  simp only [BT.ev]
  cases c v <;> rfl
def fixT (i : Int) (on : Bool) : BT → BT
 | .lf b => .lf b
 | .nd v lo hi => if (v : Int) = i then (if on then fixT i on hi else fixT i on lo) else mkN v (fixT i on lo) (fixT i on hi)
def updI (c : Cf) (i : Int) (b : Bool) : Cf := fun j => if (j : Int) = i then b else c j
structure FI (φ : BT → BT) (la : List Dec) (out : List Int) (l : List Dec) : Prop where
 ismk : Mk l
 len : l.length + 2 ≤ out.length
 at' : ∀ k z, out[k]? = some z → ∃ p : Nat, z = (p : Int) ∧ p < l.length + 2 ∧ trs l p = φ (trs la k)
theorem FI.nil {φ : BT → BT} {la : List Dec} {b0 b1 : Bool} (h0 : φ (.lf false) = .lf b0) (h1 : φ (.lf true) = .lf b1) : FI φ la [bif b0 then 1 else 0, bif b1 then 1 else 0] [] := by
 refine ⟨Mk.nil, by simp, fun k z hz => ?_⟩
 have e : ∀ b : Bool, trs [] (bif b then 1 else 0) = .lf b := fun b => by cases b <;> rfl
 rcases k with _ | _ | k
 ·simp only [List.getElem?_cons_zero, Option.some.injEq] at hz
  refine ⟨bif b0 then 1 else 0, by rw [← hz]; cases b0 <;> rfl, by cases b0 <;> simp, ?_⟩
  rw [e, (trs_zero la).1, h0]
 ·simp only [List.getElem?_cons_succ, List.getElem?_cons_zero, Option.some.injEq] at hz
  refine ⟨bif b1 then 1 else 0, by rw [← hz]; cases b1 <;> rfl, by cases b1 <;> simp, ?_⟩
  rw [e, (trs_zero la).2, h1]
 ·simp at hz
theorem FI.step {φ : BT → BT} {la : List Dec} (hla : Mk la) {out : List Int} {l l' : List Dec} (h : FI φ la out l) {x : Dec} (hx : la[out.length - 2]? = some x) {p : Nat} (hm : Mk l') (hpre : ∃ r, l' = l ++ r) (hlen : l'.length ≤ l.length + 1) (hp : p < l'.length + 2) (ht : trs l' p = φ (.nd x.1 (trs la x.2.1) (trs la x.2.2))) : FI φ la (out ++ [(p : Int)]) l' := by
 have h2 : 2 ≤ out.length := by have := h.len; omega
 refine ⟨hm, by rw [List.length_append, List.length_singleton]; have := h.len; omega, fun k z hz => ?_⟩
 by_cases hk : k < out.length
 ·rw [List.getElem?_append_left hk] at hz
  obtain ⟨q, e1, e2, e3⟩ := h.at' k z hz
  obtain ⟨r, rfl⟩ := hpre
  exact ⟨q, e1, by rw [List.length_append]; omega, by rw [trs_append e2]; exact e3⟩
 ·have hlt := (List.getElem?_eq_some_iff.1 hz).1
  rw [List.length_append, List.length_singleton] at hlt
  have e : k = out.length := by omega
  subst e
  simp at hz
  refine ⟨p, hz.symm, hp, ?_⟩
  rw [ht]
  have := hla.at hx
  rw [show out.length - 2 + 2 = out.length by omega] at this
  rw [this]
theorem emptyT {t : BT} (h : t.ok 0) : ((canon t).2 == 0) = true ↔ ∀ c, t.ev c = false := by
 rw [beq_iff_eq]
 constructor
 ·intro e c
  rw [(canon_lf h false).1 e]; rfl
 ·intro e
  have : t = .lf false := BT.unique (n := 0) h trivial e
  rw [this]; rfl
def cfg (n : Nat) : Cf := fun i => n.testBit i
def supT (l : List Dec) : Nat := l.foldl (fun s x => s ||| 2 ^ x.1) 0
end Dg
namespace Dg
def cubeB (on off m : Nat) (c : Cf) : Bool := (List.range 24).all fun j => decide (j < m) || ((!on.testBit j || c j) && (!off.testBit j || !c j))
theorem cubeB_end (on off : Nat) (c : Cf) : cubeB on off 24 c = true := by
 unfold cubeB
 rw [List.all_eq_true]
 intro j hj
 simp [List.mem_range.1 hj]
theorem cubeB_step {on off m : Nat} (hm : m < 24) (c : Cf) : cubeB on off m c = (((!on.testBit m || c m) && (!off.testBit m || !c m)) && cubeB on off (m + 1) c) := by
 unfold cubeB
 rw [Bool.eq_iff_iff]
 simp only [List.all_eq_true, Bool.and_eq_true, List.mem_range]
 constructor
 ·intro h
  refine ⟨by have := h m hm; simpa using this, fun j hj => ?_⟩
  have := h j hj
  by_cases hjm : j < m
  ·simp [show j < m + 1 by omega]
  ·simpa [hjm, show (j < m + 1) = (j = m) from by simp; omega] using Or.inr (by simpa [hjm] using this)
 ·rintro ⟨h1, h2⟩ j hj
  by_cases hjm : j = m
  ·subst hjm; simpa using h1
  ·have := h2 j hj
   by_cases hlt : j < m
   ·simp [hlt]
   ·have h3 : ¬ j < m + 1 := by omega
    simpa [hlt, h3] using this
theorem cubeB_mask {on off : Nat} (c : Cf) : cubeB (on &&& 16777215) (off &&& 16777215) 0 c = cubeB on off 0 c := by
 unfold cubeB
 have key : ∀ n j : Nat, j < 24 → (n &&& 16777215).testBit j = n.testBit j := fun n j hj => by
  rw [Nat.testBit_and, show (16777215 : Nat) = 2 ^ 24 - 1 by decide, Nat.testBit_two_pow_sub_one]
  simp [hj]
 rw [Bool.eq_iff_iff]
 simp only [List.all_eq_true, List.mem_range]
 constructor
 ·intro h j hj
  have := h j hj
  rwa [key on j hj, key off j hj] at this
 ·intro h j hj
  have := h j hj
  rwa [key on j hj, key off j hj]
theorem cubeB_clash {on off : Nat} (h : (on &&& 16777215) &&& (off &&& 16777215) ≠ 0) (c : Cf) : cubeB on off 0 c = false := by
 obtain ⟨j, hj⟩ : ∃ j, ((on &&& 16777215) &&& (off &&& 16777215)).testBit j = true := Nat.exists_testBit_of_ne_zero h
 rw [Nat.testBit_and, Nat.testBit_and, Nat.testBit_and, show (16777215 : Nat) = 2 ^ 24 - 1 by decide, Nat.testBit_two_pow_sub_one] at hj
 simp only [Bool.and_eq_true, decide_eq_true_eq] at hj
 obtain ⟨⟨h1, h2⟩, h3, _⟩ := hj
 unfold cubeB
 rw [List.all_eq_false]
 refine ⟨j, List.mem_range.2 h2, ?_⟩
 rw [h1, h3]
 cases c j <;> simp
end Dg
