import Derived.Test.YtbippghgkbapnaaEng11
import Derived.Test.YtbippghgkbapnaaSpec
import Derived.Test.YtbippghgkbapnaaFacts
set_option linter.unusedSimpArgs false
set_option linter.unusedVariables false
namespace Go.Proofs.Ytbippghgkbapnaa
open Go Go.Eng Go.Proofs
theorem kid_c (t : Tree) (hk : PutC t) : KidC t := by
  intro G a c q ba bc l l2 bs sa sc bo bp bk w hl2 hE hbare hbs hn hq hlen hS0
  refine enter Try.func51 rfl Try.ntmps51 rfl (C := [pt bo [q, .slice ba l.length bc] 91, rowc (.slice ba l.length bc) l.length 5 1 (bcells l)]) hS0 ?_
  refine WC.seq ?_
  refine WC.region ?_
  refine WL.step ?_
  refine WL.boxN rfl rfl (fun b4 => ?_)
  refine WL.nil ?_
  refine WQ.then_normal ?_
  refine WC.seq ?_
  refine WC.seq ?_
  refine WC.region ?_
  refine WL.step ?_
  refine WL.move rfl rfl ?_
  refine WL.step ?_
  refine WL.fieldAddr0 F.fld25_0 rfl rfl ?_
  refine WL.step ?_
  refine WL.loadP F.one5 rfl rfl (by repeat (first | exact List.Mem.head _ | apply List.Mem.tail)) rfl ?_
  refine WL.step ?_
  refine WL.callV F.fun52 rfl rfl (fun w hS => containsU_c bs sa sc t.op hbs w (fun i u hu => ?_)) ?_
  · obtain ⟨b, off, h1, h2, h3⟩ := hbare i u hu
    exact ⟨b, off, h1, by simp, hS.oldc h3 h2⟩
  refine WL.step ?_
  refine WL.move rfl rfl ?_
  refine WA.splitB (i := 10) rfl (fun h10 => ?_) (fun h10 => ?_)
  · skip
    have hks : Fm.kidS t bs = Fm.putS t := by unfold Fm.kidS; rw [if_pos]; rw [h10]; rfl
    refine WL.step (WL.guardF rfl rfl rfl rfl rfl rfl ?_)
    refine WL.step (WL.guardF rfl rfl rfl rfl rfl rfl ?_)
    refine WL.step (WL.guardF rfl rfl rfl rfl rfl rfl ?_)
    refine WL.step ?_
    refine WL.pickT rfl rfl rfl ?_
    refine WL.nil ?_
    refine WQ.then_normal ?_
    refine WC.condT rfl ?_
    refine WC.seq ?_
    refine WC.region ?_
    rw [hks] at hlen hl2
    refine WL.step ?_
    refine WL.load1 F.one69 rfl rfl (fun w hS => hS.oldc (cell_of_heap hE.h5 rfl) hE.n5) ?_
    refine WL.step ?_
    refine WL.loadW F.agg25 rfl rfl (by repeat (first | exact List.Mem.head _ | apply List.Mem.tail)) rfl ?_
    refine WL.step ?_
    refine WL.callFB (β := PX bo) (res := fun _ => .tuple #[]) (c1 := fun x => pt bo [x.1.1, .slice x.1.2.1 l2.length x.1.2.2] 91) (c2 := fun x => rowc (.slice x.1.2.1 l2.length x.1.2.2) l2.length 5 1 (bcells l2)) (q := q) (v := .slice ba l.length bc) (l := l) (b := bo) (us := []) (cap := [pp bo, pp bk]) F.fun54 rfl rfl rfl (by repeat (first | exact Rem.here | apply Rem.there)) (by repeat (first | exact Rem.here | apply Rem.there)) (fun w hS hS2 => hk G a c q ba bc l l2 bo bp bk w hl2 (hE.nextB hS) hn hq hlen hS2) (fun x17 => ?_)
    refine WL.nil ?_
    refine WQ.then_normal ?_
    refine WC.ret ?_
    refine WQ.then_ret ?_
    refine WQ.ret (rs := []) rfl .nil (fun w hS => ?_)
    have h2 := ((St.pick (St.pick hS (c := rowc (.slice x17.1.2.1 l2.length x17.1.2.2) l2.length 5 1 (bcells l2)) (by repeat (first | exact Rem.here | apply Rem.there))) (c := pt bo [x17.1.1, .slice x17.1.2.1 l2.length x17.1.2.2] 91) (by repeat (first | exact Rem.here | apply Rem.there)))).two2
    skip
    exact ⟨x17, rfl, h2⟩
  · skip
    refine WL.step (WL.guardT rfl rfl rfl ?_)
    refine WL.fieldAddr0 F.fld25_0 rfl rfl ?_
    refine WL.step (WL.guardT rfl rfl rfl ?_)
    refine WL.loadP F.one5 rfl rfl (by repeat (first | exact List.Mem.head _ | apply List.Mem.tail)) rfl ?_
    refine WL.step (WL.guardT rfl rfl rfl ?_)
    refine WL.leI rfl rfl rfl ?_
    refine WL.step ?_
    refine WL.pickF rfl rfl rfl ?_
    refine WL.nil ?_
    refine WQ.then_normal ?_
    refine WC.cond rfl (fun h14 => ?_) (fun h14 => ?_)
    · skip
      have hks : Fm.kidS t bs = Fm.putS t := by unfold Fm.kidS; rw [if_pos]; first | (rw [h10]; rfl) | (rw [h14]; simp)
      refine WC.seq ?_
      refine WC.region ?_
      rw [hks] at hlen hl2
      refine WL.step ?_
      refine WL.load1 F.one69 rfl rfl (fun w hS => hS.oldc (cell_of_heap hE.h5 rfl) hE.n5) ?_
      refine WL.step ?_
      refine WL.loadW F.agg25 rfl rfl (by repeat (first | exact List.Mem.head _ | apply List.Mem.tail)) rfl ?_
      refine WL.step ?_
      refine WL.callFB (β := PX bo) (res := fun _ => .tuple #[]) (c1 := fun x => pt bo [x.1.1, .slice x.1.2.1 l2.length x.1.2.2] 91) (c2 := fun x => rowc (.slice x.1.2.1 l2.length x.1.2.2) l2.length 5 1 (bcells l2)) (q := q) (v := .slice ba l.length bc) (l := l) (b := bo) (us := []) (cap := [pp bo, pp bk]) F.fun54 rfl rfl rfl (by repeat (first | exact Rem.here | apply Rem.there)) (by repeat (first | exact Rem.here | apply Rem.there)) (fun w hS hS2 => hk G a c q ba bc l l2 bo bp bk w hl2 (hE.nextB hS) hn hq hlen hS2) (fun x17 => ?_)
      refine WL.nil ?_
      refine WQ.then_normal ?_
      refine WC.ret ?_
      refine WQ.then_ret ?_
      refine WQ.ret (rs := []) rfl .nil (fun w hS => ?_)
      have h2 := ((St.pick (St.pick hS (c := rowc (.slice x17.1.2.1 l2.length x17.1.2.2) l2.length 5 1 (bcells l2)) (by repeat (first | exact Rem.here | apply Rem.there))) (c := pt bo [x17.1.1, .slice x17.1.2.1 l2.length x17.1.2.2] 91) (by repeat (first | exact Rem.here | apply Rem.there)))).two2
      skip
      exact ⟨x17, rfl, h2⟩
    · skip
      have hks : Fm.kidS t bs = [40] ++ Fm.putS t ++ [41] := by unfold Fm.kidS; rw [if_neg]; rw [h10, h14]; simp
      rw [hks] at hlen hl2
      obtain ⟨la, hla⟩ : ∃ l2 : List UInt8, l2 = l ++ [40] := ⟨_, rfl⟩
      obtain ⟨lb, hlb⟩ : ∃ l2 : List UInt8, l2 = la ++ Fm.putS t := ⟨_, rfl⟩
      have hl3 : l2 = lb ++ [41] := by rw [hl2, hlb, hla]; simp [List.append_assoc]
      refine WC.skip ?_
      refine WQ.then_normal ?_
      refine WC.seq ?_
      refine WC.region ?_
      refine WL.step ?_
      refine WL.callB (β := Option Addr × Nat) (res := fun _ => .tuple #[.int .i64 (List.length [40] : Nat), .nilIface]) (c1 := fun x => pt bo [pp bo, .slice x.1 la.length x.2] 91) (c2 := fun x => rowc (.slice x.1 la.length x.2) la.length 5 1 (bcells la)) (q := q) (v := .slice ba l.length bc) (l := l) (b := bo) F.fun53 rfl rfl (by repeat (first | exact Rem.here | apply Rem.there)) (by repeat (first | exact Rem.here | apply Rem.there)) (fun w hS hS2 => WriteString_e bo _ _ l [40] la _ hla (hq) (by simp only [hla, List.length_append, List.length_cons, List.length_nil] at hlen ⊢; omega) rfl w hS2) (fun x18 => ?_)
      refine WL.nil ?_
      refine WQ.then_normal ?_
      refine WC.seq ?_
      refine WC.region ?_
      refine WL.step ?_
      refine WL.load1 F.one69 rfl rfl (fun w hS => hS.oldc (cell_of_heap hE.h5 rfl) hE.n5) ?_
      refine WL.step ?_
      refine WL.loadW F.agg25 rfl rfl (by repeat (first | exact List.Mem.head _ | apply List.Mem.tail)) rfl ?_
      refine WL.step ?_
      refine WL.callFB (β := PX bo) (res := fun _ => .tuple #[]) (c1 := fun x => pt bo [x.1.1, .slice x.1.2.1 lb.length x.1.2.2] 91) (c2 := fun x => rowc (.slice x.1.2.1 lb.length x.1.2.2) lb.length 5 1 (bcells lb)) (q := (pp bo)) (v := .slice x18.1 la.length x18.2) (l := la) (b := bo) (us := []) (cap := [pp bo, pp bk]) F.fun54 rfl rfl rfl (by repeat (first | exact Rem.here | apply Rem.there)) (by repeat (first | exact Rem.here | apply Rem.there)) (fun w hS hS2 => hk G a c (pp bo) x18.1 x18.2 la lb bo bp bk w hlb (hE.nextB hS) hn (.inr rfl) (by simp only [hla, List.length_append, List.length_cons, List.length_nil] at hlen ⊢; omega) hS2) (fun x21 => ?_)
      refine WL.nil ?_
      refine WQ.then_normal ?_
      refine WC.region ?_
      refine WL.step ?_
      refine WL.callB (β := Option Addr × Nat) (res := fun _ => .tuple #[.int .i64 (List.length [41] : Nat), .nilIface]) (c1 := fun x => pt bo [pp bo, .slice x.1 l2.length x.2] 91) (c2 := fun x => rowc (.slice x.1 l2.length x.2) l2.length 5 1 (bcells l2)) (q := x21.1.1) (v := .slice x21.1.2.1 lb.length x21.1.2.2) (l := lb) (b := bo) F.fun53 rfl rfl (by repeat (first | exact Rem.here | apply Rem.there)) (by repeat (first | exact Rem.here | apply Rem.there)) (fun w hS hS2 => WriteString_e bo _ _ lb [41] l2 _ hl3 (x21.2) (by simp only [hlb, hla, List.length_append, List.length_cons, List.length_nil] at hlen ⊢; omega) rfl w hS2) (fun x22 => ?_)
      refine WL.nil ?_
      refine WQ.fin (rs := []) rfl .nil (fun w hS => ?_)
      have h2 := ((St.pick (St.pick hS (c := rowc (.slice x22.1 l2.length x22.2) l2.length 5 1 (bcells l2)) (by repeat (first | exact Rem.here | apply Rem.there))) (c := pt bo [pp bo, .slice x22.1 l2.length x22.2] 91) (by repeat (first | exact Rem.here | apply Rem.there)))).two2
      exact ⟨⟨(pp bo, x22.1, x22.2), .inr rfl⟩, rfl, h2⟩

theorem putS_mk (t : Tree) : Fm.putS t = if t.op = 1 then [48] else if t.op = 2 then [49] else if t.op = 3 then t.name else if t.op = 4 then [33] ++ Fm.putN t.kids else Fm.putK t.op 0 t.kids := by
  obtain ⟨op, name, kids⟩ := t
  simp only [Fm.putS, Tree.op, Tree.name, Tree.kids]
  rfl
theorem not_kid {t : Tree} (h : Fm.notOk t = true) (h4 : t.op = 4) : ∃ k, t.kids[0]? = some k := by
  obtain ⟨op, name, kids⟩ := t
  have : op = 4 := h4
  subst this
  cases kids with
  | nil => simp [Fm.notOk] at h
  | cons k r => exact ⟨k, rfl⟩
theorem putN_kid {t k : Tree} (h : t.kids[0]? = some k) : Fm.putN t.kids = Fm.kidS k [] := by
  obtain ⟨op, name, kids⟩ := t
  cases kids with
  | nil => simp [Tree.kids] at h
  | cons k2 r =>
    have : k2 = k := by simpa [Tree.kids] using h
    subst this
    simp [Fm.putN, Fm.kidS, Tree.kids]
structure PG where
  i : Nat
  q : Value
  ba : Option Addr
  bc : Nat
  lc : List UInt8

theorem put_step (t : Tree) (ih : ∀ k ∈ t.kids, PutC k) : PutC t := by
  intro G a c q ba bc l l2 bo bp bk w hl2 hE hn hq hlen hS0
  refine enter Try.func54 rfl Try.ntmps54 rfl (C := [pt bo [q, .slice ba l.length bc] 91, rowc (.slice ba l.length bc) l.length 5 1 (bcells l)]) hS0 ?_
  refine WC.seq ?_
  refine WC.region ?_
  refine WL.step ?_
  refine WL.boxN rfl rfl (fun b3 => ?_)
  refine WL.nil ?_
  refine WQ.then_normal ?_
  refine WC.seq ?_
  refine WC.region ?_
  refine WL.step ?_
  refine WL.fieldAddr0 F.fld25_0 rfl rfl ?_
  refine WL.step ?_
  refine WL.loadP F.one5 rfl rfl (by repeat (first | exact List.Mem.head _ | apply List.Mem.tail)) rfl ?_
  refine WL.nil ?_
  refine WQ.then_normal ?_
  refine WC.block ?_
  refine WC.seq ?_
  refine WC.region ?_
  refine WL.step ?_
  refine WL.eqI rfl rfl rfl ?_
  refine WL.step ?_
  refine WL.assign rfl rfl ?_
  refine WL.nil ?_
  refine WQ.then_normal ?_
  refine WC.cond rfl (fun h33 => ?_) (fun h33 => ?_)
  · skip
    have h1 : t.op = 1 := by simpa using h33
    rw [show Fm.putS t = [48] by rw [putS_mk, if_pos h1]] at hl2 hlen
    refine WC.region ?_
    refine WL.step ?_
    refine WL.callB (β := Option Addr × Nat) (res := fun _ => .tuple #[.int .i64 (List.length [48] : Nat), .nilIface]) (c1 := fun x => pt bo [pp bo, .slice x.1 l2.length x.2] 91) (c2 := fun x => rowc (.slice x.1 l2.length x.2) l2.length 5 1 (bcells l2)) (q := q) (v := .slice ba l.length bc) (l := l) (b := bo) F.fun53 rfl rfl (by repeat (first | exact Rem.here | apply Rem.there)) (by repeat (first | exact Rem.here | apply Rem.there)) (fun w hS hS2 => WriteString_e bo _ _ l [48] l2 _ hl2 (hq) (by simp only [List.length_append, List.length_cons, List.length_nil] at hlen ⊢; omega) rfl w hS2) (fun x35 => ?_)
    refine WL.nil ?_
    refine WQ.block_normal ?_
    refine WQ.fin (rs := []) rfl .nil (fun w hS => ?_)
    have h2 := ((St.pick (St.pick hS (c := rowc (.slice x35.1 l2.length x35.2) l2.length 5 1 (bcells l2)) (by repeat (first | exact Rem.here | apply Rem.there))) (c := pt bo [pp bo, .slice x35.1 l2.length x35.2] 91) (by repeat (first | exact Rem.here | apply Rem.there)))).two2
    exact ⟨⟨(pp bo, x35.1, x35.2), .inr rfl⟩, rfl, h2⟩
  · skip
    have h1 : t.op ≠ 1 := by simpa using h33
    refine WC.seq ?_
    refine WC.region ?_
    refine WL.step ?_
    refine WL.eqI rfl rfl rfl ?_
    refine WL.step ?_
    refine WL.assign rfl rfl ?_
    refine WL.nil ?_
    refine WQ.then_normal ?_
    refine WC.cond rfl (fun h36 => ?_) (fun h36 => ?_)
    · skip
      have h2 : t.op = 2 := by simpa using h36
      rw [show Fm.putS t = [49] by rw [putS_mk, if_neg h1, if_pos h2]] at hl2 hlen
      refine WC.region ?_
      refine WL.step ?_
      refine WL.callB (β := Option Addr × Nat) (res := fun _ => .tuple #[.int .i64 (List.length [49] : Nat), .nilIface]) (c1 := fun x => pt bo [pp bo, .slice x.1 l2.length x.2] 91) (c2 := fun x => rowc (.slice x.1 l2.length x.2) l2.length 5 1 (bcells l2)) (q := q) (v := .slice ba l.length bc) (l := l) (b := bo) F.fun53 rfl rfl (by repeat (first | exact Rem.here | apply Rem.there)) (by repeat (first | exact Rem.here | apply Rem.there)) (fun w hS hS2 => WriteString_e bo _ _ l [49] l2 _ hl2 (hq) (by simp only [List.length_append, List.length_cons, List.length_nil] at hlen ⊢; omega) rfl w hS2) (fun x35 => ?_)
      refine WL.nil ?_
      refine WQ.block_normal ?_
      refine WQ.fin (rs := []) rfl .nil (fun w hS => ?_)
      have h2 := ((St.pick (St.pick hS (c := rowc (.slice x35.1 l2.length x35.2) l2.length 5 1 (bcells l2)) (by repeat (first | exact Rem.here | apply Rem.there))) (c := pt bo [pp bo, .slice x35.1 l2.length x35.2] 91) (by repeat (first | exact Rem.here | apply Rem.there)))).two2
      exact ⟨⟨(pp bo, x35.1, x35.2), .inr rfl⟩, rfl, h2⟩
    · skip
      have h2 : t.op ≠ 2 := by simpa using h36
      refine WC.seq ?_
      refine WC.region ?_
      refine WL.step ?_
      refine WL.eqI rfl rfl rfl ?_
      refine WL.step ?_
      refine WL.assign rfl rfl ?_
      refine WL.nil ?_
      refine WQ.then_normal ?_
      refine WC.cond rfl (fun h39 => ?_) (fun h39 => ?_)
      · skip
        have h3 : t.op = 3 := by simpa using h39
        rw [show Fm.putS t = t.name by rw [putS_mk, if_neg h1, if_neg h2, if_pos h3]] at hl2 hlen
        refine WC.region ?_
        refine WL.step ?_
        refine WL.fieldAddr0 F.fld25_1 rfl rfl ?_
        refine WL.step ?_
        refine WL.loadP F.one9 rfl rfl (by repeat (first | exact List.Mem.head _ | apply List.Mem.tail)) rfl ?_
        refine WL.step ?_
        refine WL.callB (β := Option Addr × Nat) (res := fun _ => .tuple #[.int .i64 (List.length t.name : Nat), .nilIface]) (c1 := fun x => pt bo [pp bo, .slice x.1 l2.length x.2] 91) (c2 := fun x => rowc (.slice x.1 l2.length x.2) l2.length 5 1 (bcells l2)) (q := q) (v := .slice ba l.length bc) (l := l) (b := bo) F.fun53 rfl rfl (by repeat (first | exact Rem.here | apply Rem.there)) (by repeat (first | exact Rem.here | apply Rem.there)) (fun w hS hS2 => WriteString_e bo _ _ l t.name l2 _ hl2 (hq) (by omega) rfl w hS2) (fun x35 => ?_)
        refine WL.nil ?_
        refine WQ.block_normal ?_
        refine WQ.fin (rs := []) rfl .nil (fun w hS => ?_)
        have h2 := ((St.pick (St.pick hS (c := rowc (.slice x35.1 l2.length x35.2) l2.length 5 1 (bcells l2)) (by repeat (first | exact Rem.here | apply Rem.there))) (c := pt bo [pp bo, .slice x35.1 l2.length x35.2] 91) (by repeat (first | exact Rem.here | apply Rem.there)))).two2
        exact ⟨⟨(pp bo, x35.1, x35.2), .inr rfl⟩, rfl, h2⟩
      · skip
        have h3 : t.op ≠ 3 := by simpa using h39
        refine WC.seq ?_
        refine WC.region ?_
        refine WL.step ?_
        refine WL.eqI rfl rfl rfl ?_
        refine WL.step ?_
        refine WL.assign rfl rfl ?_
        refine WL.nil ?_
        refine WQ.then_normal ?_
        refine WC.cond rfl (fun h44 => ?_) (fun h44 => ?_)
        · skip
          have h4 : t.op = 4 := by simpa using h44
          obtain ⟨k, hk⟩ := not_kid hn h4
          rw [show Fm.putS t = [33] ++ Fm.kidS k [] by rw [putS_mk, if_neg h1, if_neg h2, if_neg h3, if_pos h4, putN_kid hk]] at hl2 hlen
          obtain ⟨b, off, F1, a1, c1, rfl, hbO, hEk, hcells⟩ := hE.kid hk
          obtain ⟨la, hla⟩ : ∃ l2 : List UInt8, l2 = l ++ [33] := ⟨_, rfl⟩
          have hle : l2 = la ++ Fm.kidS k [] := by rw [hl2, hla, List.append_assoc]
          have hlk : 0 < t.kids.length := (List.getElem?_eq_some_iff.1 hk).1
          have hKid := kid_c k (ih k (List.mem_of_getElem? hk))
          refine WC.seq ?_
          refine WC.region ?_
          refine WL.step ?_
          refine WL.callB (β := Option Addr × Nat) (res := fun _ => .tuple #[.int .i64 (List.length [33] : Nat), .nilIface]) (c1 := fun x => pt bo [pp bo, .slice x.1 la.length x.2] 91) (c2 := fun x => rowc (.slice x.1 la.length x.2) la.length 5 1 (bcells la)) (q := q) (v := .slice ba l.length bc) (l := l) (b := bo) F.fun53 rfl rfl (by repeat (first | exact Rem.here | apply Rem.there)) (by repeat (first | exact Rem.here | apply Rem.there)) (fun w hS hS2 => WriteString_e bo _ _ l [33] la _ hla (hq) (by simp only [hla, List.length_append, List.length_cons, List.length_nil] at hlen ⊢; omega) rfl w hS2) (fun x46 => ?_)
          refine WL.nil ?_
          refine WQ.then_normal ?_
          refine WC.draws [([5], fun w => w.cell? ⟨bk, 0, none⟩ = some (Value.func (.func 51) [].toArray [pp bp, pp bo].toArray)), ([5], fun w => w.cell? ⟨b3, 2, none⟩ = some (.slice (some ⟨b, off, none⟩) t.kids.length c)), ([5], fun w => ∀ j v, [Value.int .u8 k.op, .string (str k.name), .slice a1 k.kids.length c1][j]? = some v → w.cell? ⟨b, off + 0 * 3 + j, none⟩ = some v)] (by kernel_rfl) (fun w hS => facts_cons (hS.oldc (cell_of_heap hE.h6 rfl) hE.n6) (facts_cons (hS.cell (by repeat (first | exact List.Mem.head _ | apply List.Mem.tail)) rfl) (facts_cons (fun j v hj => hS.oldc (hcells j v hj) hbO) (facts_nil)))) ?_
          refine WD.take (i := 0) rfl rfl rfl rfl (by kernel_rfl) (by kernel_rfl) (by kernel_rfl) (fun _ _ _ h => h) (by kernel_rfl) (need_at 0 6 rfl (by kernel_rfl)) (Yl.load1 F.one97 rfl) ?_
          refine WD.take (i := 1) rfl rfl rfl rfl (by kernel_rfl) (by kernel_rfl) (by kernel_rfl) (fun _ _ _ h => h) (by kernel_rfl) need_none (Yl.fieldAddr0 F.fld25_2 rfl) ?_
          refine WD.take (i := 2) rfl rfl rfl rfl (by kernel_rfl) (by kernel_rfl) (by kernel_rfl) (fun _ _ _ h => h) (by kernel_rfl) (need_at 1 6 rfl (by kernel_rfl)) (Yl.load1 F.one23 rfl) ?_
          refine WD.take (i := 3) rfl rfl rfl rfl (by kernel_rfl) (by kernel_rfl) (by kernel_rfl) (fun _ _ _ h => h) (by kernel_rfl) need_none (Yl.indexAddr (i := 0) F.sl23 rfl rfl hlk) ?_
          refine WD.take (i := 4) rfl rfl rfl rfl (by kernel_rfl) (by kernel_rfl) (by kernel_rfl) (fun _ _ _ h => h) (by kernel_rfl) (need_at 2 6 rfl (by kernel_rfl)) (Yl.loadN F.agg25 rfl rfl) ?_
          refine WD.one (i := 5) (by kernel_rfl) rfl ?_
          refine WL.callFB (β := PX bo) (res := fun _ => .tuple #[]) (c1 := fun x => pt bo [x.1.1, .slice x.1.2.1 l2.length x.1.2.2] 91) (c2 := fun x => rowc (.slice x.1.2.1 l2.length x.1.2.2) l2.length 5 1 (bcells l2)) (q := (pp bo)) (v := .slice x46.1 la.length x46.2) (l := la) (b := bo) (us := []) (cap := [pp bp, pp bo]) F.fun51 rfl rfl rfl (by repeat (first | exact Rem.here | apply Rem.there)) (by repeat (first | exact Rem.here | apply Rem.there)) (fun w hS hS2 => hKid F1 a1 c1 (pp bo) x46.1 x46.2 la l2 [] none 0 bo bp bk w hle (hEk.nextB hS) (fun i u hu => by simp at hu) (by simp) (notOk_kid hn hk) (.inr rfl) (by simp only [hla, List.length_append, List.length_cons, List.length_nil] at hlen ⊢; omega) hS2) (fun x52 => ?_)
          refine WD.on (closed_of (by kernel_rfl)) (fun w hS => Sx.gone rfl (Sx.gone rfl (Sx.gone rfl (Sx.none)))) ?_
          refine WD.done (by kernel_rfl) ?_
          refine WQ.block_normal ?_
          refine WQ.fin (rs := []) rfl .nil (fun w hS => ?_)
          have h2 := ((St.pick (St.pick hS (c := rowc (.slice x52.1.2.1 l2.length x52.1.2.2) l2.length 5 1 (bcells l2)) (by repeat (first | exact Rem.here | apply Rem.there))) (c := pt bo [x52.1.1, .slice x52.1.2.1 l2.length x52.1.2.2] 91) (by repeat (first | exact Rem.here | apply Rem.there)))).two2
          skip
          exact ⟨x52, rfl, h2⟩
        · skip
          have h4 : t.op ≠ 4 := by simpa using h44
          rw [show Fm.putS t = Fm.putK t.op 0 t.kids by rw [putS_mk, if_neg h1, if_neg h2, if_neg h3, if_neg h4]] at hl2 hlen
          refine WC.seq ?_
          refine WC.region ?_
          refine WL.step ?_
          refine WL.fieldAddr0 F.fld25_2 rfl rfl ?_
          refine WL.step ?_
          refine WL.loadP F.one23 rfl rfl (by repeat (first | exact List.Mem.head _ | apply List.Mem.tail)) rfl ?_
          refine WL.step ?_
          refine WL.lenSl F.und23 rfl rfl ?_
          refine WL.step ?_
          refine WL.move rfl rfl ?_
          refine WL.nil ?_
          refine WQ.then_normal ?_
          refine WC.block ?_
          refine WC.chunks (fun w hS => (St.pick (St.pick hS (c := rowc (.slice ba l.length bc) l.length 5 1 (bcells l)) (by repeat (first | exact Rem.here | apply Rem.there))) (c := pt bo [q, .slice ba l.length bc] 91) (by repeat (first | exact Rem.here | apply Rem.there)))) ?_
          refine WC.loop (α := PG) (fun g => g.i ≤ t.kids.length ∧ g.i ≤ g.lc.length + 1 ∧ (g.q = .pointer none ∨ g.q = pp bo) ∧ g.lc ++ Fm.putK t.op (g.i : Int) (t.kids.drop g.i) = l2) (fun g => [(1, pp bo), (2, pp bk), (3, pp b3), (9, .slice a t.kids.length c), (10, .int .i64 (t.kids.length : Int)), (11, .int .i64 (g.i : Int))]) (fun g => [pt bo [g.q, .slice g.ba g.lc.length g.bc] 91, rowc (.slice g.ba g.lc.length g.bc) g.lc.length 5 1 (bcells g.lc), pt b3 [.int .u8 t.op, .string (str t.name), .slice a t.kids.length c] 25]) (fun g => t.kids.length - g.i) (⟨0, q, ba, bc, l⟩) ?_ ?_ ?_ ?_
          · exact ⟨Nat.zero_le _, Nat.zero_le _, hq, hl2.symm⟩
          · exact ⟨rfl, rfl, rfl, rfl, rfl, rfl, trivial⟩
          · rfl
          rintro ⟨i, q, ba, bc, lc⟩ ⟨hi, hil, hq, hput⟩
          dsimp only at hi hil hq hput
          show WC _ _ _ _ _ _ _ [(1, pp bo), (2, pp bk), (3, pp b3), (9, .slice a t.kids.length c), (10, .int .i64 (t.kids.length : Int)), (11, .int .i64 (i : Int))] [pt bo [q, .slice ba lc.length bc] 91, rowc (.slice ba lc.length bc) lc.length 5 1 (bcells lc), pt b3 [.int .u8 t.op, .string (str t.name), .slice a t.kids.length c] 25]
          refine WC.seq ?_
          refine WC.region ?_
          refine WL.step ?_
          refine WL.ltI rfl rfl rfl ?_
          refine WL.nil ?_
          refine WQ.then_normal ?_
          refine WC.seq ?_
          refine WC.cond rfl (fun h12 => ?_) (fun h12 => ?_)
          · skip
            have hlt : i < t.kids.length := by simpa using h12
            obtain ⟨k, hk⟩ : ∃ k, t.kids[i]? = some k := ⟨_, List.getElem?_eq_getElem hlt⟩
            obtain ⟨b, off, F1, a1, c1, rfl, hbO, hEk, hcells⟩ := hE.kid hk
            have hput2 := hput
            rw [putK_drop hk] at hput2
            have hi46 : i ≤ 70368744177665 := by (have h9 := congrArg List.length hput; simp only [hl2, List.length_append] at h9; omega)
            have hKid := kid_c k (ih k (List.mem_of_getElem? hk))
            refine WC.skip ?_
            refine WQ.then_normal ?_
            refine WC.seq ?_
            refine WC.block ?_
            refine WC.seq ?_
            refine WC.region ?_
            refine WL.step ?_
            refine WL.move rfl rfl ?_
            refine WL.step ?_
            refine WL.indexAddr F.sl23 rfl rfl rfl hlt ?_
            refine WL.step ?_
            refine WL.loadN F.agg25 rfl rfl (vs := [Value.int .u8 k.op, .string (str k.name), .slice a1 k.kids.length c1]) rfl (fun w hS j v hj => hS.oldc (hcells j v hj) hbO) ?_
            refine WL.step ?_
            refine WL.alloc F.zero25 rfl (fun b5 => ?_)
            refine WL.step ?_
            refine WL.assign rfl rfl ?_
            refine WL.step ?_
            refine WL.storeN F.agg25 rfl rfl rfl (by simp [Value.oneCell']) (by repeat (first | exact Upd.here | apply Upd.there)) (by repeat constructor) ?_
            refine WL.nil ?_
            refine WQ.then_normal ?_
            refine WC.seq ?_
            refine WC.seq ?_
            refine WC.region ?_
            refine WL.step ?_
            refine WL.move rfl rfl ?_
            refine WL.step ?_
            refine WL.gtI rfl rfl rfl ?_
            refine WL.nil ?_
            refine WQ.then_normal ?_
            refine WC.cond rfl (fun h17 => ?_) (fun h17 => ?_)
            · skip
              have hip : (0 : Int) < (i : Int) := by simpa using h17
              rw [if_pos hip] at hput2
              obtain ⟨ld, hld⟩ : ∃ l2 : List UInt8, l2 = lc ++ ([32] ++ Fm.signS t.op (i : Int) ++ [32]) := ⟨_, rfl⟩
              obtain ⟨le, hle⟩ : ∃ l2 : List UInt8, l2 = ld ++ Fm.kidS k (Fm.bareL.take (Fm.bareN t.op (i : Int))) := ⟨_, rfl⟩
              have hput3 : le ++ Fm.putK t.op ((i + 1 : Nat) : Int) (t.kids.drop (i + 1)) = l2 := by rw [← hput2, hle, hld]; simp only [List.append_assoc]
              have hil2 : i + 1 ≤ le.length + 1 := by (rw [hle, hld]; simp only [List.length_append, List.length_cons, List.length_nil]; omega)
              refine WC.region ?_
              refine WL.step ?_
              refine WL.fieldAddr0 F.fld25_0 rfl rfl ?_
              refine WL.step ?_
              refine WL.loadP F.one5 rfl rfl (by repeat (first | exact List.Mem.head _ | apply List.Mem.tail)) rfl ?_
              refine WL.step ?_
              refine WL.move rfl rfl ?_
              refine WL.step ?_
              refine WL.callV F.fun55 rfl rfl (fun w _ => sign_c _ _ w) ?_
              refine WL.step ?_
              refine WL.addS (m := [32]) rfl rfl rfl (by have := Fm.signS_len t.op (i : Int); simp only [List.length_cons, List.length_nil]; omega) ?_
              refine WL.step ?_
              refine WL.addS (n := [32]) rfl rfl rfl (by have := Fm.signS_len t.op (i : Int); simp only [List.length_append, List.length_cons, List.length_nil]; omega) ?_
              refine WL.step ?_
              refine WL.callB (β := Option Addr × Nat) (res := fun _ => .tuple #[.int .i64 (List.length ([32] ++ Fm.signS t.op (i : Int) ++ [32]) : Nat), .nilIface]) (c1 := fun x => pt bo [pp bo, .slice x.1 ld.length x.2] 91) (c2 := fun x => rowc (.slice x.1 ld.length x.2) ld.length 5 1 (bcells ld)) (q := q) (v := .slice ba lc.length bc) (l := lc) (b := bo) F.fun53 rfl rfl (by repeat (first | exact Rem.here | apply Rem.there)) (by repeat (first | exact Rem.here | apply Rem.there)) (fun w hS hS2 => WriteString_e bo _ _ lc ([32] ++ Fm.signS t.op (i : Int) ++ [32]) ld _ hld (hq) (by have h9 := congrArg List.length hput2; simp only [hl2, List.length_append, List.length_cons, List.length_nil] at h9 hlen ⊢; omega) rfl w hS2) (fun x24 => ?_)
              refine WL.nil ?_
              refine WQ.then_normal ?_
              refine WC.draws [([6], fun w => w.cell? ⟨bk, 0, none⟩ = some (Value.func (.func 51) [].toArray [pp bp, pp bo].toArray)), ([6], fun w => ∀ j v, [Value.int .u8 k.op, .string (str k.name), .slice a1 k.kids.length c1][j]? = some v → w.cell? ⟨b5, 0 + j, none⟩ = some v), ([5, 6], fun w => w.cell? ⟨b3, 0, none⟩ = some (.int .u8 t.op))] (by kernel_rfl) (fun w hS => facts_cons (hS.oldc (cell_of_heap hE.h6 rfl) hE.n6) (facts_cons (fun j v hv => by rw [Nat.zero_add]; exact hS.cell (by repeat (first | exact List.Mem.head _ | apply List.Mem.tail)) hv) (facts_cons (hS.cell (by repeat (first | exact List.Mem.head _ | apply List.Mem.tail)) rfl) (facts_nil)))) ?_
              refine WD.take (i := 0) rfl rfl rfl rfl (by kernel_rfl) (by kernel_rfl) (by kernel_rfl) (fun _ _ _ h => h) (by kernel_rfl) (need_at 0 7 rfl (by kernel_rfl)) (Yl.load1 F.one97 rfl) ?_
              refine WD.take (i := 1) rfl rfl rfl rfl (by kernel_rfl) (by kernel_rfl) (by kernel_rfl) (fun _ _ _ h => h) (by kernel_rfl) (need_at 1 7 rfl (by kernel_rfl)) (Yl.loadN F.agg25 rfl rfl) ?_
              refine WD.take (i := 2) rfl rfl rfl rfl (by kernel_rfl) (by kernel_rfl) (by kernel_rfl) (fun _ _ _ h => h) (by kernel_rfl) need_none (Yl.fieldAddr0 F.fld25_0 rfl) ?_
              refine WD.take (i := 3) rfl rfl rfl rfl (by kernel_rfl) (by kernel_rfl) (by kernel_rfl) (fun _ _ _ h => h) (by kernel_rfl) (need_at 2 7 rfl (by kernel_rfl)) (Yl.load1 F.one5 rfl) ?_
              refine WD.take (i := 4) rfl rfl rfl rfl (by kernel_rfl) (by kernel_rfl) (by kernel_rfl) (fun _ _ _ h => h) (by kernel_rfl) need_none (Yl.move rfl) ?_
              refine WD.one (i := 5) (by kernel_rfl) rfl ?_
              refine WL.callC (β := { x : Nat × Option Addr × Nat // x.2.1 = some ⟨x.1, 0, none⟩ ∨ Fm.bareN t.op (i : Int) = 0 }) (res := fun x => .slice x.1.2.1 (Fm.bareL.take (Fm.bareN t.op (i : Int))).length x.1.2.2) (cs := fun x => [pt x.1.1 (Fm.bareL.map (Value.int .u8)) 5]) (Cs := []) (O' := []) F.fun56 (fun d h => by cases h; rfl) rfl (List.Perm.refl _) (by simp) (by simp) (fun w hS _ => (bare_c t.op (i : Int) w).mono (fun e w2 h => ?_)) (fun x30 => ?_)
              · obtain ⟨x, h1, h2, h3⟩ := h
                exact ⟨⟨x, h1⟩, h2, h3⟩
              refine WD.on (closed_of (by kernel_rfl)) (fun w hS => Sx.keep (hS.oldc (cell_of_heap hE.h6 rfl) hE.n6) (Sx.keep (fun j v hv => by rw [Nat.zero_add]; exact hS.cell (by repeat (first | exact List.Mem.head _ | apply List.Mem.tail)) hv) (Sx.gone rfl (Sx.none)))) ?_
              refine WD.one (i := 6) (by kernel_rfl) rfl ?_
              refine WL.callFB (β := PX bo) (res := fun _ => .tuple #[]) (c1 := fun x => pt bo [x.1.1, .slice x.1.2.1 le.length x.1.2.2] 91) (c2 := fun x => rowc (.slice x.1.2.1 le.length x.1.2.2) le.length 5 1 (bcells le)) (q := (pp bo)) (v := .slice x24.1 ld.length x24.2) (l := ld) (b := bo) (us := []) (cap := [pp bp, pp bo]) F.fun51 rfl rfl rfl (by repeat (first | exact Rem.here | apply Rem.there)) (by repeat (first | exact Rem.here | apply Rem.there)) (fun w hS hS2 => hKid F1 a1 c1 ((pp bo)) (x24.1) (x24.2) ld le (Fm.bareL.take (Fm.bareN t.op (i : Int))) x30.1.2.1 x30.1.2.2 bo bp bk w hle (hEk.nextB hS) (Bare.of_new hS (g := x30.1.1) (by repeat (first | exact List.Mem.head _ | apply List.Mem.tail)) x30.2) (by simp [Fm.bareL]; omega) (notOk_kid hn hk) ((.inr rfl)) (by have h9 := congrArg List.length hput2; simp only [hl2, hld, List.length_append, List.length_cons, List.length_nil] at h9 hlen ⊢; omega) hS2) (fun x31 => ?_)
              refine WD.on (closed_of (by kernel_rfl)) (fun w hS => Sx.gone rfl (Sx.gone rfl (Sx.gone rfl (Sx.none)))) ?_
              refine WD.done (by kernel_rfl) ?_
              refine WQ.block_normal ?_
              refine WQ.then_normal ?_
              refine WC.region ?_
              refine WL.step ?_
              refine WL.add rfl rfl rfl ⟨by omega, by omega⟩ ?_
              refine WL.step ?_
              refine WL.move rfl rfl ?_
              refine WL.nil ?_
              refine WQ.chunks (C' := [pt bo [x31.1.1, .slice x31.1.2.1 le.length x31.1.2.2] 91, rowc (.slice x31.1.2.1 le.length x31.1.2.2) le.length 5 1 (bcells le), pt b3 [.int .u8 t.op, .string (str t.name), .slice (some ⟨b, off, none⟩) t.kids.length c] 25]) (fun w hS => ((St.pick (St.pick (St.pick hS (c := pt b3 [.int .u8 t.op, .string (str t.name), .slice (some ⟨b, off, none⟩) t.kids.length c] 25) (by repeat (first | exact Rem.here | apply Rem.there))) (c := rowc (.slice x31.1.2.1 le.length x31.1.2.2) le.length 5 1 (bcells le)) (by repeat (first | exact Rem.here | apply Rem.there))) (c := pt bo [x31.1.1, .slice x31.1.2.1 le.length x31.1.2.2] 91) (by repeat (first | exact Rem.here | apply Rem.there)))).sublist (List.Sublist.cons_cons _ (List.Sublist.cons_cons _ (List.Sublist.cons_cons _ (List.nil_sublist _))))) ?_
              refine WQ.back (⟨i + 1, x31.1.1, x31.1.2.1, x31.1.2.2, le⟩) ?_ ?_ ?_ ?_
              · exact ⟨by show i + 1 ≤ t.kids.length; omega, hil2, x31.2, hput3⟩
              · (show t.kids.length - (i + 1) < t.kids.length - i; omega)
              · exact ⟨rfl, rfl, rfl, rfl, rfl, rfl, trivial⟩
              · rfl
            · skip
              have hip : ¬ (0 : Int) < (i : Int) := by simpa using h17
              rw [if_neg hip] at hput2
              obtain ⟨le, hle⟩ : ∃ l2 : List UInt8, l2 = lc ++ Fm.kidS k (Fm.bareL.take (Fm.bareN t.op (i : Int))) := ⟨_, rfl⟩
              have hput3 : le ++ Fm.putK t.op ((i + 1 : Nat) : Int) (t.kids.drop (i + 1)) = l2 := by rw [← hput2, hle]; simp only [List.append_assoc, List.nil_append]
              have hil2 : i + 1 ≤ le.length + 1 := by omega
              refine WC.skip ?_
              refine WQ.then_normal ?_
              refine WC.draws [([6], fun w => w.cell? ⟨bk, 0, none⟩ = some (Value.func (.func 51) [].toArray [pp bp, pp bo].toArray)), ([6], fun w => ∀ j v, [Value.int .u8 k.op, .string (str k.name), .slice a1 k.kids.length c1][j]? = some v → w.cell? ⟨b5, 0 + j, none⟩ = some v), ([5, 6], fun w => w.cell? ⟨b3, 0, none⟩ = some (.int .u8 t.op))] (by kernel_rfl) (fun w hS => facts_cons (hS.oldc (cell_of_heap hE.h6 rfl) hE.n6) (facts_cons (fun j v hv => by rw [Nat.zero_add]; exact hS.cell (by repeat (first | exact List.Mem.head _ | apply List.Mem.tail)) hv) (facts_cons (hS.cell (by repeat (first | exact List.Mem.head _ | apply List.Mem.tail)) rfl) (facts_nil)))) ?_
              refine WD.take (i := 0) rfl rfl rfl rfl (by kernel_rfl) (by kernel_rfl) (by kernel_rfl) (fun _ _ _ h => h) (by kernel_rfl) (need_at 0 7 rfl (by kernel_rfl)) (Yl.load1 F.one97 rfl) ?_
              refine WD.take (i := 1) rfl rfl rfl rfl (by kernel_rfl) (by kernel_rfl) (by kernel_rfl) (fun _ _ _ h => h) (by kernel_rfl) (need_at 1 7 rfl (by kernel_rfl)) (Yl.loadN F.agg25 rfl rfl) ?_
              refine WD.take (i := 2) rfl rfl rfl rfl (by kernel_rfl) (by kernel_rfl) (by kernel_rfl) (fun _ _ _ h => h) (by kernel_rfl) need_none (Yl.fieldAddr0 F.fld25_0 rfl) ?_
              refine WD.take (i := 3) rfl rfl rfl rfl (by kernel_rfl) (by kernel_rfl) (by kernel_rfl) (fun _ _ _ h => h) (by kernel_rfl) (need_at 2 7 rfl (by kernel_rfl)) (Yl.load1 F.one5 rfl) ?_
              refine WD.take (i := 4) rfl rfl rfl rfl (by kernel_rfl) (by kernel_rfl) (by kernel_rfl) (fun _ _ _ h => h) (by kernel_rfl) need_none (Yl.move rfl) ?_
              refine WD.one (i := 5) (by kernel_rfl) rfl ?_
              refine WL.callC (β := { x : Nat × Option Addr × Nat // x.2.1 = some ⟨x.1, 0, none⟩ ∨ Fm.bareN t.op (i : Int) = 0 }) (res := fun x => .slice x.1.2.1 (Fm.bareL.take (Fm.bareN t.op (i : Int))).length x.1.2.2) (cs := fun x => [pt x.1.1 (Fm.bareL.map (Value.int .u8)) 5]) (Cs := []) (O' := []) F.fun56 (fun d h => by cases h; rfl) rfl (List.Perm.refl _) (by simp) (by simp) (fun w hS _ => (bare_c t.op (i : Int) w).mono (fun e w2 h => ?_)) (fun x30 => ?_)
              · obtain ⟨x, h1, h2, h3⟩ := h
                exact ⟨⟨x, h1⟩, h2, h3⟩
              refine WD.on (closed_of (by kernel_rfl)) (fun w hS => Sx.keep (hS.oldc (cell_of_heap hE.h6 rfl) hE.n6) (Sx.keep (fun j v hv => by rw [Nat.zero_add]; exact hS.cell (by repeat (first | exact List.Mem.head _ | apply List.Mem.tail)) hv) (Sx.gone rfl (Sx.none)))) ?_
              refine WD.one (i := 6) (by kernel_rfl) rfl ?_
              refine WL.callFB (β := PX bo) (res := fun _ => .tuple #[]) (c1 := fun x => pt bo [x.1.1, .slice x.1.2.1 le.length x.1.2.2] 91) (c2 := fun x => rowc (.slice x.1.2.1 le.length x.1.2.2) le.length 5 1 (bcells le)) (q := q) (v := .slice ba lc.length bc) (l := lc) (b := bo) (us := []) (cap := [pp bp, pp bo]) F.fun51 rfl rfl rfl (by repeat (first | exact Rem.here | apply Rem.there)) (by repeat (first | exact Rem.here | apply Rem.there)) (fun w hS hS2 => hKid F1 a1 c1 (q) (ba) (bc) lc le (Fm.bareL.take (Fm.bareN t.op (i : Int))) x30.1.2.1 x30.1.2.2 bo bp bk w hle (hEk.nextB hS) (Bare.of_new hS (g := x30.1.1) (by repeat (first | exact List.Mem.head _ | apply List.Mem.tail)) x30.2) (by simp [Fm.bareL]; omega) (notOk_kid hn hk) (hq) (by have h9 := congrArg List.length hput2; simp only [hl2, List.length_append, List.length_cons, List.length_nil] at h9 hlen ⊢; omega) hS2) (fun x31 => ?_)
              refine WD.on (closed_of (by kernel_rfl)) (fun w hS => Sx.gone rfl (Sx.gone rfl (Sx.gone rfl (Sx.none)))) ?_
              refine WD.done (by kernel_rfl) ?_
              refine WQ.block_normal ?_
              refine WQ.then_normal ?_
              refine WC.region ?_
              refine WL.step ?_
              refine WL.add rfl rfl rfl ⟨by omega, by omega⟩ ?_
              refine WL.step ?_
              refine WL.move rfl rfl ?_
              refine WL.nil ?_
              refine WQ.chunks (C' := [pt bo [x31.1.1, .slice x31.1.2.1 le.length x31.1.2.2] 91, rowc (.slice x31.1.2.1 le.length x31.1.2.2) le.length 5 1 (bcells le), pt b3 [.int .u8 t.op, .string (str t.name), .slice (some ⟨b, off, none⟩) t.kids.length c] 25]) (fun w hS => ((St.pick (St.pick (St.pick hS (c := pt b3 [.int .u8 t.op, .string (str t.name), .slice (some ⟨b, off, none⟩) t.kids.length c] 25) (by repeat (first | exact Rem.here | apply Rem.there))) (c := rowc (.slice x31.1.2.1 le.length x31.1.2.2) le.length 5 1 (bcells le)) (by repeat (first | exact Rem.here | apply Rem.there))) (c := pt bo [x31.1.1, .slice x31.1.2.1 le.length x31.1.2.2] 91) (by repeat (first | exact Rem.here | apply Rem.there)))).sublist (List.Sublist.cons_cons _ (List.Sublist.cons_cons _ (List.Sublist.cons_cons _ (List.nil_sublist _))))) ?_
              refine WQ.back (⟨i + 1, x31.1.1, x31.1.2.1, x31.1.2.2, le⟩) ?_ ?_ ?_ ?_
              · exact ⟨by show i + 1 ≤ t.kids.length; omega, hil2, x31.2, hput3⟩
              · (show t.kids.length - (i + 1) < t.kids.length - i; omega)
              · exact ⟨rfl, rfl, rfl, rfl, rfl, rfl, trivial⟩
              · rfl
          · skip
            have hie : i = t.kids.length := by simp at h12; omega
            subst hie
            rw [List.drop_length] at hput
            have hlc : lc = l2 := by rw [← hput]; simp [Fm.putK]
            subst hlc
            refine WC.exit ?_
            refine WQ.then_exit ?_
            refine WQ.then_exit ?_
            refine WQ.block_exit ?_
            refine WQ.block_normal ?_
            refine WQ.fin (rs := []) rfl .nil (fun w hS => ?_)
            have h2 := ((St.pick (St.pick hS (c := rowc (.slice ba lc.length bc) lc.length 5 1 (bcells lc)) (by repeat (first | exact Rem.here | apply Rem.there))) (c := pt bo [q, .slice ba lc.length bc] 91) (by repeat (first | exact Rem.here | apply Rem.there)))).two2
            exact ⟨⟨(q, ba, bc), hq⟩, rfl, h2⟩

theorem put_c : ∀ t : Tree, PutC t
  | .mk op name kids => put_step _ (fun k hk => put_c k)
termination_by t => SizeOf.sizeOf t
decreasing_by
  have hk' : k ∈ kids := hk
  have := List.sizeOf_lt_of_mem hk'
  simp only [Tree.mk.sizeOf_spec]
  omega

end Go.Proofs.Ytbippghgkbapnaa
