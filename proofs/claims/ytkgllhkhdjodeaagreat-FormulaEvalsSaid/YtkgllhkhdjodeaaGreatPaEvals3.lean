import Derived.Test.YtkgllhkhdjodeaaGreatPaEvals2
import Derived.Test.YtkgllhkhdjodeaaGreatSpecD4
import Derived.Test.YtkgllhkhdjodeaaGreatEng12
import Derived.Test.YtkgllhkhdjodeaaGreatSpec9
import Derived.Test.YtkgllhkhdjodeaaGreatSpec
import Derived.RangeFuncOwn
import Derived.RangeFuncLeaves
import Derived.RangeFuncSeq
import Derived.OrdersIn
import Derived.TacticsIn
import Derived.Test.YtkgllhkhdjodeaaGreatSpec11
import Derived.Test.YtkgllhkhdjodeaaGreatSpec10
set_option linter.unusedSimpArgs false
set_option linter.unusedVariables false
namespace Go.Proofs.YtkgllhkhdjodeaaGreat
open Go Go.Eng Go.Proofs Dg
set_option maxRecDepth 100000 in
theorem join_c (g : Nat) (bop : Bool → Bool → Bool) (opf : Nat → Nat → Nat × Bool) (hop : OpOk g bop opf) (bp bm bs : Nat) (la lb : List Dec) (aa ab : Option Addr) (ca cb ra rb : Nat) (ha : Mk la) (hb : Mk lb) (hla : la.length ≤ 16777216) (hlb : lb.length ≤ 16777216) : ∀ (n m : Nat), m ≤ 24 → 24 - m < n →
    ∀ (Fp : List Nat) (l : List Dec) (f : Nat × Nat → Option Nat) (x y : Nat) (w : World), x < la.length + 2 → y < lb.length + 2 → (trs la x).ok m → (trs lb y).ok m → Mk l → SeenOk bop la lb l f → l.length + 2 ^ (24 - m) ≤ 16777216 → JEnv w Fp bp bm bs la lb aa ab ca cb ra rb → St w Fp [jns Fp bm bs l f] w →
    Calls Tryz.prog 163 [pp bp, .int .i64 (x : Int), .int .i64 (y : Int), Value.func (.func g) [].toArray [].toArray].toArray w fun e w' => ∃ z : { z : JT // JPost bop la lb l m x y z }, e = .returned (.int .i64 (z.1.2.2.2 : Int)) ∧ St w Fp [jns z.1.1 bm bs z.1.2.1 z.1.2.2.1] w' := by
  intro n
  induction n with
  | zero => intro m; omega
  | succ n hrec =>
  intro m hm24 hmn Fp l f x y w hx hy hox hoy hm hsn hsz hE hS0
  have hpow : l.length + 1 ≤ l.length + 2 ^ (24 - m) := by have := Nat.one_le_two_pow (n := 24 - m); omega
  obtain ⟨F1, _, h1, h2, hS0⟩ := hS0.bunOpen
  simp only [jnCs, List.cons_append, List.nil_append] at hS0
  refine enter Tryz.func163 rfl Tryz.ntmps163 rfl (C := [mkr F1 bm l, mpg enc2 bs (fun q => (f q).map encI)]) hS0 ?_
  refine WC.seq ?_
  refine WC.region ?_
  refine WL.step ?_
  refine WL.assign rfl rfl ?_
  refine WL.nil ?_
  refine WQ.then_normal ?_
  refine WC.seq ?_
  refine WC.seq ?_
  refine WC.region ?_
  refine WL.step ?_
  refine WL.move rfl rfl ?_
  refine WL.step ?_
  refine WL.move rfl rfl ?_
  refine WL.step ?_
  refine WL.move rfl rfl ?_
  refine WL.step ?_
  refine WL.callF0 (β := Unit) (res := fun _ => .returned (.tuple #[.int .i64 ((opf x y).1 : Int), .bool (opf x y).2])) (cs := fun _ => []) (ψ := fun _ => True) (us := []) (cap := []) hop.fn (fun d h => by cases h; rfl) rfl rfl (fun w hS => (hop.call x y w (by omega) (by omega)).mono (fun e w2 h => ⟨(), trivial, h.1, h.2⟩)) (fun _ _ => ?_)
  refine WL.step ?_
  refine WL.move rfl rfl ?_
  refine WL.step ?_
  refine WL.extract rfl rfl rfl ?_
  refine WL.step ?_
  refine WL.extract rfl rfl rfl ?_
  refine WL.step ?_
  refine WL.assign rfl rfl ?_
  refine WL.step ?_
  refine WL.assign rfl rfl ?_
  refine WL.nil ?_
  refine WQ.then_normal ?_
  refine WC.seq ?_
  refine WC.region ?_
  refine WL.step ?_
  refine WL.move rfl rfl ?_
  refine WL.nil ?_
  refine WQ.then_normal ?_
  refine WC.cond rfl (fun h28 => ?_) (fun h28 => ?_)
  · skip
    refine WC.seq ?_
    refine WC.region ?_
    refine WL.step ?_
    refine WL.move rfl rfl ?_
    refine WL.step ?_
    refine WL.assign rfl rfl ?_
    refine WL.nil ?_
    refine WQ.then_normal ?_
    refine WC.ret ?_
    refine WQ.then_ret ?_
    refine WQ.ret (rs := [.tmp 8]) rfl (.tmp rfl .nil) (fun w hS => ⟨⟨(_, l, f, (opf x y).1), ⟨hm, ⟨[], by simp⟩, hpow, hop.spec.done h28, hsn⟩⟩, rfl, St.jnsClose hS⟩)
  · skip
    refine WC.skip ?_
    refine WQ.then_normal ?_
    refine WC.seq ?_
    refine WC.region ?_
    refine WL.step ?_
    refine WL.move rfl rfl ?_
    refine WL.step ?_
    refine WL.move rfl rfl ?_
    refine WL.step ?_
    refine WL.buildA F.arT243 rfl (by repeat (first | exact Built.nil | apply Built.one rfl rfl (by repeat constructor) | apply Built.agg rfl rfl (by repeat constructor))) rfl ?_
    refine WL.step ?_
    refine WL.alloc F.zero243 rfl (fun b11 => ?_)
    refine WL.step ?_
    refine WL.storeN F.agg243 rfl rfl rfl (by simp [Value.oneCell']) (by repeat (first | exact Upd.here | apply Upd.there)) (by repeat constructor) ?_
    refine WL.nil ?_
    refine WQ.then_normal ?_
    refine WC.seq ?_
    refine WC.seq ?_
    rcases Option.eq_none_or_eq_some (f (x, y)) with hf | ⟨r, hf⟩
    · skip
      refine WC.drawsL (by kernel_rfl) (FactsOk.cons (ds := []) (LoadOk.by (Y := fun w => w.cell? ⟨bp, 5, none⟩ = some (.map (some bs))) (fun w hS => hS.oldc (hE.ce 5 _ rfl) hE.ce')) (FactsOk.cons (ds := []) (LoadOk.whole (t := 11) rfl (by repeat (first | exact List.Mem.head _ | apply List.Mem.tail))) (FactsOk.cons (ds := []) (LoadOk.by (Y := fun w => (mpg enc2 bs (fun q => (f q).map encI)).ok w) (fun w hS => hS.ok _ (by repeat (first | exact List.Mem.head _ | apply List.Mem.tail)))) (FactsOk.nil)))) ?_
      refine WD.take (i := 0) rfl rfl rfl rfl (by kernel_rfl) (by kernel_rfl) (by kernel_rfl) (fun _ _ _ h => h) (by kernel_rfl) need_none (Yl.move rfl) ?_
      refine WD.take (i := 1) rfl rfl rfl rfl (by kernel_rfl) (by kernel_rfl) (by kernel_rfl) (fun _ _ _ h => h) (by kernel_rfl) need_none (Yl.nilCheck rfl) ?_
      refine WD.take (i := 2) rfl rfl rfl rfl (by kernel_rfl) (by kernel_rfl) (by kernel_rfl) (fun _ _ _ h => h) (by kernel_rfl) need_none (Yl.fieldAddr0 F.fld223_3 rfl) ?_
      refine WD.take (i := 3) rfl rfl rfl rfl (by kernel_rfl) (by kernel_rfl) (by kernel_rfl) (fun _ _ _ h => h) (by kernel_rfl) (need_at 0 11 rfl (by kernel_rfl)) (Yl.load1 F.one221 rfl) ?_
      refine WD.take (i := 4) rfl rfl rfl rfl (by kernel_rfl) (by kernel_rfl) (by kernel_rfl) (fun _ _ _ h => h) (by kernel_rfl) (need_at 1 11 rfl (by kernel_rfl)) (Yl.loadN F.agg243 rfl rfl) ?_
      refine WD.take (i := 5) rfl rfl rfl rfl (by kernel_rfl) (by kernel_rfl) (by kernel_rfl) (fun _ _ _ h => h) (by kernel_rfl) (need_at 2 11 rfl (by kernel_rfl)) (Yl.lookupMiss (f := fun q => (f q).map encI) (x, y) undMP keyPair zeroInt rfl rfl rfl (by rw [hf]; rfl)) ?_
      refine WD.take (i := 6) rfl rfl rfl rfl (by kernel_rfl) (by kernel_rfl) (by kernel_rfl) (fun _ _ _ h => h) (by kernel_rfl) need_none (Yl.move rfl) ?_
      refine WD.take (i := 7) rfl rfl rfl rfl (by kernel_rfl) (by kernel_rfl) (by kernel_rfl) (fun _ _ _ h => h) (by kernel_rfl) need_none (Yl.extract rfl rfl) ?_
      refine WD.take (i := 8) rfl rfl rfl rfl (by kernel_rfl) (by kernel_rfl) (by kernel_rfl) (fun _ _ _ h => h) (by kernel_rfl) need_none (Yl.extract rfl rfl) ?_
      refine WD.take (i := 9) rfl rfl rfl rfl (by kernel_rfl) (by kernel_rfl) (by kernel_rfl) (fun _ _ _ h => h) (by kernel_rfl) need_none (Yl.assign rfl) ?_
      refine WD.take (i := 10) rfl rfl rfl rfl (by kernel_rfl) (by kernel_rfl) (by kernel_rfl) (fun _ _ _ h => h) (by kernel_rfl) need_none (Yl.assign rfl) ?_
      refine WD.done (by kernel_rfl) ?_
      refine WQ.then_normal ?_
      refine WC.seq ?_
      refine WC.region ?_
      refine WL.step ?_
      refine WL.move rfl rfl ?_
      refine WL.nil ?_
      refine WQ.then_normal ?_
      refine WC.condF rfl ?_
      refine WC.skip ?_
      refine WQ.then_normal ?_
      refine WC.seq ?_
      refine WC.cutPE (α := Nat × Nat) (fun z => [(0, pp bp), (1, .int .i64 (x : Int)), (2, .int .i64 (y : Int)), (3, Value.func (.func g) [].toArray [].toArray), (11, pp b11), (14, pp z.1), (15, pp z.2)]) (fun z => [pt z.1 [Value.int .i64 ((atD la x).1 : Int), .int .i64 ((atD la x).2.1 : Int), .int .i64 ((atD la x).2.2 : Int)] 104, pt z.2 [Value.int .i64 ((atD lb y).1 : Int), .int .i64 ((atD lb y).2.1 : Int), .int .i64 ((atD lb y).2.2 : Int)] 104, pt b11 [Value.int .i64 (x : Int), .int .i64 (y : Int)] 243, mkr F1 bm l, mpg enc2 bs (fun q => (f q).map encI)]) (fun c a d v w h => by cases d <;> exact h) (fun Q' hP hQ => ?_) (fun xE => ?_)
      · skip
        refine WC.drawsL (by kernel_rfl) (FactsOk.cons (ds := [5, 11, 14, 15]) (LoadOk.by (Y := fun w => ∀ j v, [Value.slice aa la.length ca, .int .i64 (ra : Int)][j]? = some v → w.cell? ⟨bp, 1 + j, none⟩ = some v) (fun w hS => fun j v hv => hS.oldc (hE.ce (1 + j) v (by rw [Nat.add_comm]; rcases j with _ | _ | j <;> first | exact hv | simp at hv)) hE.ce')) (FactsOk.cons (ds := [11, 14, 15]) (LoadOk.by (Y := fun w => ∀ j v, [Value.slice ab lb.length cb, .int .i64 (rb : Int)][j]? = some v → w.cell? ⟨bp, 3 + j, none⟩ = some v) (fun w hS => fun j v hv => hS.oldc (hE.ce (3 + j) v (by rw [Nat.add_comm]; rcases j with _ | _ | j <;> first | exact hv | simp at hv)) hE.ce')) (FactsOk.nil))) ?_
        refine WD.take (i := 0) rfl rfl rfl rfl (by kernel_rfl) (by kernel_rfl) (by kernel_rfl) (fun _ _ _ h => hP _ _ _ _ _ h) (by kernel_rfl) need_none (Yl.move rfl) ?_
        refine WD.take (i := 1) rfl rfl rfl rfl (by kernel_rfl) (by kernel_rfl) (by kernel_rfl) (fun _ _ _ h => hP _ _ _ _ _ h) (by kernel_rfl) need_none (Yl.nilCheck rfl) ?_
        refine WD.take (i := 2) rfl rfl rfl rfl (by kernel_rfl) (by kernel_rfl) (by kernel_rfl) (fun _ _ _ h => hP _ _ _ _ _ h) (by kernel_rfl) need_none (Yl.fieldAddr0 F.fld223_1 rfl) ?_
        refine WD.take (i := 3) rfl rfl rfl rfl (by kernel_rfl) (by kernel_rfl) (by kernel_rfl) (fun _ _ _ h => hP _ _ _ _ _ h) (by kernel_rfl) (need_at 0 16 rfl (by kernel_rfl)) (Yl.loadN F.agg35 rfl rfl) ?_
        refine WD.take (i := 4) rfl rfl rfl rfl (by kernel_rfl) (by kernel_rfl) (by kernel_rfl) (fun _ _ _ h => hP _ _ _ _ _ h) (by kernel_rfl) need_none (Yl.move rfl) ?_
        refine WD.take (i := 6) rfl rfl rfl rfl (by kernel_rfl) (by kernel_rfl) (by kernel_rfl) (fun _ _ _ h => hP _ _ _ _ _ h) (by kernel_rfl) need_none (Yl.move rfl) ?_
        refine WD.take (i := 7) rfl rfl rfl rfl (by kernel_rfl) (by kernel_rfl) (by kernel_rfl) (fun _ _ _ h => hP _ _ _ _ _ h) (by kernel_rfl) need_none (Yl.nilCheck rfl) ?_
        refine WD.take (i := 8) rfl rfl rfl rfl (by kernel_rfl) (by kernel_rfl) (by kernel_rfl) (fun _ _ _ h => hP _ _ _ _ _ h) (by kernel_rfl) need_none (Yl.fieldAddr0 F.fld223_2 rfl) ?_
        refine WD.take (i := 9) rfl rfl rfl rfl (by kernel_rfl) (by kernel_rfl) (by kernel_rfl) (fun _ _ _ h => hP _ _ _ _ _ h) (by kernel_rfl) (need_at 1 16 rfl (by kernel_rfl)) (Yl.loadN F.agg35 rfl rfl) ?_
        refine WD.take (i := 10) rfl rfl rfl rfl (by kernel_rfl) (by kernel_rfl) (by kernel_rfl) (fun _ _ _ h => hP _ _ _ _ _ h) (by kernel_rfl) need_none (Yl.move rfl) ?_
        refine WD.three (i := 5) (j := 12) (l := 13) (by kernel_rfl) rfl rfl rfl ?_ ?_ ?_
        · skip
          refine WL.callV F.fun176 rfl rfl (fun w hS => at_c la aa ca ra x w (by omega) hx (hE.rda.now hS)) ?_
          refine WD.on (closed_of (by kernel_rfl)) (fun w hS => Sx.gone rfl (Sx.keep (fun j v hv => hS.oldc (hE.ce (3 + j) v (by rw [Nat.add_comm]; rcases j with _ | _ | j <;> first | exact hv | simp at hv)) hE.ce') (Sx.none))) ?_
          refine WD.three (i := 11) (j := 12) (l := 13) (by kernel_rfl) rfl rfl rfl ?_ ?_ ?_
          · skip
            refine WL.callV F.fun176 rfl rfl (fun w hS => at_c lb ab cb rb y w (by omega) hy (hE.rdb.now hS)) ?_
            refine WD.on (closed_of (by kernel_rfl)) (fun w hS => Sx.gone rfl (Sx.gone rfl (Sx.none))) ?_
            refine WD.two (i := 12) (j := 13) (by kernel_rfl) rfl rfl ?_ ?_
            · skip
              refine WL.alloc F.zero104 rfl (fun b14 => ?_)
              refine WD.on (closed_of (by kernel_rfl)) (fun w hS => Sx.gone rfl (Sx.gone rfl (Sx.none))) ?_
              refine WD.one (i := 13) (by kernel_rfl) rfl ?_
              refine WL.alloc F.zero104 rfl (fun b15 => ?_)
              refine WD.on (closed_of (by kernel_rfl)) (fun w hS => Sx.gone rfl (Sx.gone rfl (Sx.none))) ?_
              refine WD.one (i := 14) (by kernel_rfl) rfl ?_
              refine WL.storeN F.agg104 rfl rfl rfl (by simp [Value.oneCell']) (by repeat (first | exact Upd.here | apply Upd.there)) (by repeat constructor) ?_
              refine WD.on (closed_of (by kernel_rfl)) (fun w hS => Sx.gone rfl (Sx.gone rfl (Sx.none))) ?_
              refine WD.one (i := 15) (by kernel_rfl) rfl ?_
              refine WL.storeN F.agg104 rfl rfl rfl (by simp [Value.oneCell']) (by repeat (first | exact Upd.here | apply Upd.there)) (by repeat constructor) ?_
              refine WD.on (closed_of (by kernel_rfl)) (fun w hS => Sx.gone rfl (Sx.gone rfl (Sx.none))) ?_
              refine WD.done (by kernel_rfl) ?_
              refine WQ.chunks (C' := [pt (b14, b15).1 [Value.int .i64 ((atD la x).1 : Int), .int .i64 ((atD la x).2.1 : Int), .int .i64 ((atD la x).2.2 : Int)] 104, pt (b14, b15).2 [Value.int .i64 ((atD lb y).1 : Int), .int .i64 ((atD lb y).2.1 : Int), .int .i64 ((atD lb y).2.2 : Int)] 104, pt b11 [Value.int .i64 (x : Int), .int .i64 (y : Int)] 243, mkr F1 bm l, mpg enc2 bs (fun q => (f q).map encI)]) (fun w hS => ((St.pick (St.pick (St.pick (St.pick (St.pick hS (c := mpg enc2 bs (fun q => (f q).map encI)) (by repeat (first | exact Rem.here | apply Rem.there))) (c := mkr F1 bm l) (by repeat (first | exact Rem.here | apply Rem.there))) (c := pt b11 [Value.int .i64 (x : Int), .int .i64 (y : Int)] 243) (by repeat (first | exact Rem.here | apply Rem.there))) (c := pt (b14, b15).2 [Value.int .i64 ((atD lb y).1 : Int), .int .i64 ((atD lb y).2.1 : Int), .int .i64 ((atD lb y).2.2 : Int)] 104) (by repeat (first | exact Rem.here | apply Rem.there))) (c := pt (b14, b15).1 [Value.int .i64 ((atD la x).1 : Int), .int .i64 ((atD la x).2.1 : Int), .int .i64 ((atD la x).2.2 : Int)] 104) (by repeat (first | exact Rem.here | apply Rem.there)))).sublist (List.Sublist.cons_cons _ (List.Sublist.cons_cons _ (List.Sublist.cons_cons _ (List.Sublist.cons_cons _ (List.Sublist.cons_cons _ (List.nil_sublist _))))))) ?_
              exact WQ.byCut (hQ (b14, b15)) ⟨rfl, rfl, rfl, rfl, rfl, rfl, rfl, trivial⟩
            · skip
              refine WL.alloc F.zero104 rfl (fun b15 => ?_)
              refine WD.on (closed_of (by kernel_rfl)) (fun w hS => Sx.gone rfl (Sx.gone rfl (Sx.none))) ?_
              refine WD.one (i := 12) (by kernel_rfl) rfl ?_
              refine WL.alloc F.zero104 rfl (fun b14 => ?_)
              refine WD.on (closed_of (by kernel_rfl)) (fun w hS => Sx.gone rfl (Sx.gone rfl (Sx.none))) ?_
              refine WD.one (i := 14) (by kernel_rfl) rfl ?_
              refine WL.storeN F.agg104 rfl rfl rfl (by simp [Value.oneCell']) (by repeat (first | exact Upd.here | apply Upd.there)) (by repeat constructor) ?_
              refine WD.on (closed_of (by kernel_rfl)) (fun w hS => Sx.gone rfl (Sx.gone rfl (Sx.none))) ?_
              refine WD.one (i := 15) (by kernel_rfl) rfl ?_
              refine WL.storeN F.agg104 rfl rfl rfl (by simp [Value.oneCell']) (by repeat (first | exact Upd.here | apply Upd.there)) (by repeat constructor) ?_
              refine WD.on (closed_of (by kernel_rfl)) (fun w hS => Sx.gone rfl (Sx.gone rfl (Sx.none))) ?_
              refine WD.done (by kernel_rfl) ?_
              refine WQ.chunks (C' := [pt (b14, b15).1 [Value.int .i64 ((atD la x).1 : Int), .int .i64 ((atD la x).2.1 : Int), .int .i64 ((atD la x).2.2 : Int)] 104, pt (b14, b15).2 [Value.int .i64 ((atD lb y).1 : Int), .int .i64 ((atD lb y).2.1 : Int), .int .i64 ((atD lb y).2.2 : Int)] 104, pt b11 [Value.int .i64 (x : Int), .int .i64 (y : Int)] 243, mkr F1 bm l, mpg enc2 bs (fun q => (f q).map encI)]) (fun w hS => ((St.pick (St.pick (St.pick (St.pick (St.pick hS (c := mpg enc2 bs (fun q => (f q).map encI)) (by repeat (first | exact Rem.here | apply Rem.there))) (c := mkr F1 bm l) (by repeat (first | exact Rem.here | apply Rem.there))) (c := pt b11 [Value.int .i64 (x : Int), .int .i64 (y : Int)] 243) (by repeat (first | exact Rem.here | apply Rem.there))) (c := pt (b14, b15).2 [Value.int .i64 ((atD lb y).1 : Int), .int .i64 ((atD lb y).2.1 : Int), .int .i64 ((atD lb y).2.2 : Int)] 104) (by repeat (first | exact Rem.here | apply Rem.there))) (c := pt (b14, b15).1 [Value.int .i64 ((atD la x).1 : Int), .int .i64 ((atD la x).2.1 : Int), .int .i64 ((atD la x).2.2 : Int)] 104) (by repeat (first | exact Rem.here | apply Rem.there)))).sublist (List.Sublist.cons_cons _ (List.Sublist.cons_cons _ (List.Sublist.cons_cons _ (List.Sublist.cons_cons _ (List.Sublist.cons_cons _ (List.nil_sublist _))))))) ?_
              exact WQ.byCut (hQ (b14, b15)) ⟨rfl, rfl, rfl, rfl, rfl, rfl, rfl, trivial⟩
          · skip
            refine WL.alloc F.zero104 rfl (fun b14 => ?_)
            refine WD.on (closed_of (by kernel_rfl)) (fun w hS => Sx.gone rfl (Sx.keep (fun j v hv => hS.oldc (hE.ce (3 + j) v (by rw [Nat.add_comm]; rcases j with _ | _ | j <;> first | exact hv | simp at hv)) hE.ce') (Sx.none))) ?_
            refine WD.two (i := 11) (j := 13) (by kernel_rfl) rfl rfl ?_ ?_
            · skip
              refine WL.callV F.fun176 rfl rfl (fun w hS => at_c lb ab cb rb y w (by omega) hy (hE.rdb.now hS)) ?_
              refine WD.on (closed_of (by kernel_rfl)) (fun w hS => Sx.gone rfl (Sx.gone rfl (Sx.none))) ?_
              refine WD.one (i := 13) (by kernel_rfl) rfl ?_
              refine WL.alloc F.zero104 rfl (fun b15 => ?_)
              refine WD.on (closed_of (by kernel_rfl)) (fun w hS => Sx.gone rfl (Sx.gone rfl (Sx.none))) ?_
              refine WD.one (i := 14) (by kernel_rfl) rfl ?_
              refine WL.storeN F.agg104 rfl rfl rfl (by simp [Value.oneCell']) (by repeat (first | exact Upd.here | apply Upd.there)) (by repeat constructor) ?_
              refine WD.on (closed_of (by kernel_rfl)) (fun w hS => Sx.gone rfl (Sx.gone rfl (Sx.none))) ?_
              refine WD.one (i := 15) (by kernel_rfl) rfl ?_
              refine WL.storeN F.agg104 rfl rfl rfl (by simp [Value.oneCell']) (by repeat (first | exact Upd.here | apply Upd.there)) (by repeat constructor) ?_
              refine WD.on (closed_of (by kernel_rfl)) (fun w hS => Sx.gone rfl (Sx.gone rfl (Sx.none))) ?_
              refine WD.done (by kernel_rfl) ?_
              refine WQ.chunks (C' := [pt (b14, b15).1 [Value.int .i64 ((atD la x).1 : Int), .int .i64 ((atD la x).2.1 : Int), .int .i64 ((atD la x).2.2 : Int)] 104, pt (b14, b15).2 [Value.int .i64 ((atD lb y).1 : Int), .int .i64 ((atD lb y).2.1 : Int), .int .i64 ((atD lb y).2.2 : Int)] 104, pt b11 [Value.int .i64 (x : Int), .int .i64 (y : Int)] 243, mkr F1 bm l, mpg enc2 bs (fun q => (f q).map encI)]) (fun w hS => ((St.pick (St.pick (St.pick (St.pick (St.pick hS (c := mpg enc2 bs (fun q => (f q).map encI)) (by repeat (first | exact Rem.here | apply Rem.there))) (c := mkr F1 bm l) (by repeat (first | exact Rem.here | apply Rem.there))) (c := pt b11 [Value.int .i64 (x : Int), .int .i64 (y : Int)] 243) (by repeat (first | exact Rem.here | apply Rem.there))) (c := pt (b14, b15).2 [Value.int .i64 ((atD lb y).1 : Int), .int .i64 ((atD lb y).2.1 : Int), .int .i64 ((atD lb y).2.2 : Int)] 104) (by repeat (first | exact Rem.here | apply Rem.there))) (c := pt (b14, b15).1 [Value.int .i64 ((atD la x).1 : Int), .int .i64 ((atD la x).2.1 : Int), .int .i64 ((atD la x).2.2 : Int)] 104) (by repeat (first | exact Rem.here | apply Rem.there)))).sublist (List.Sublist.cons_cons _ (List.Sublist.cons_cons _ (List.Sublist.cons_cons _ (List.Sublist.cons_cons _ (List.Sublist.cons_cons _ (List.nil_sublist _))))))) ?_
              exact WQ.byCut (hQ (b14, b15)) ⟨rfl, rfl, rfl, rfl, rfl, rfl, rfl, trivial⟩
            · skip
              refine WL.alloc F.zero104 rfl (fun b15 => ?_)
              refine WD.on (closed_of (by kernel_rfl)) (fun w hS => Sx.gone rfl (Sx.keep (fun j v hv => hS.oldc (hE.ce (3 + j) v (by rw [Nat.add_comm]; rcases j with _ | _ | j <;> first | exact hv | simp at hv)) hE.ce') (Sx.none))) ?_
              refine WD.one (i := 11) (by kernel_rfl) rfl ?_
              refine WL.callV F.fun176 rfl rfl (fun w hS => at_c lb ab cb rb y w (by omega) hy (hE.rdb.now hS)) ?_
              refine WD.on (closed_of (by kernel_rfl)) (fun w hS => Sx.gone rfl (Sx.gone rfl (Sx.none))) ?_
              refine WD.one (i := 14) (by kernel_rfl) rfl ?_
              refine WL.storeN F.agg104 rfl rfl rfl (by simp [Value.oneCell']) (by repeat (first | exact Upd.here | apply Upd.there)) (by repeat constructor) ?_
              refine WD.on (closed_of (by kernel_rfl)) (fun w hS => Sx.gone rfl (Sx.gone rfl (Sx.none))) ?_
              refine WD.one (i := 15) (by kernel_rfl) rfl ?_
              refine WL.storeN F.agg104 rfl rfl rfl (by simp [Value.oneCell']) (by repeat (first | exact Upd.here | apply Upd.there)) (by repeat constructor) ?_
              refine WD.on (closed_of (by kernel_rfl)) (fun w hS => Sx.gone rfl (Sx.gone rfl (Sx.none))) ?_
              refine WD.done (by kernel_rfl) ?_
              refine WQ.chunks (C' := [pt (b14, b15).1 [Value.int .i64 ((atD la x).1 : Int), .int .i64 ((atD la x).2.1 : Int), .int .i64 ((atD la x).2.2 : Int)] 104, pt (b14, b15).2 [Value.int .i64 ((atD lb y).1 : Int), .int .i64 ((atD lb y).2.1 : Int), .int .i64 ((atD lb y).2.2 : Int)] 104, pt b11 [Value.int .i64 (x : Int), .int .i64 (y : Int)] 243, mkr F1 bm l, mpg enc2 bs (fun q => (f q).map encI)]) (fun w hS => ((St.pick (St.pick (St.pick (St.pick (St.pick hS (c := mpg enc2 bs (fun q => (f q).map encI)) (by repeat (first | exact Rem.here | apply Rem.there))) (c := mkr F1 bm l) (by repeat (first | exact Rem.here | apply Rem.there))) (c := pt b11 [Value.int .i64 (x : Int), .int .i64 (y : Int)] 243) (by repeat (first | exact Rem.here | apply Rem.there))) (c := pt (b14, b15).2 [Value.int .i64 ((atD lb y).1 : Int), .int .i64 ((atD lb y).2.1 : Int), .int .i64 ((atD lb y).2.2 : Int)] 104) (by repeat (first | exact Rem.here | apply Rem.there))) (c := pt (b14, b15).1 [Value.int .i64 ((atD la x).1 : Int), .int .i64 ((atD la x).2.1 : Int), .int .i64 ((atD la x).2.2 : Int)] 104) (by repeat (first | exact Rem.here | apply Rem.there)))).sublist (List.Sublist.cons_cons _ (List.Sublist.cons_cons _ (List.Sublist.cons_cons _ (List.Sublist.cons_cons _ (List.Sublist.cons_cons _ (List.nil_sublist _))))))) ?_
              exact WQ.byCut (hQ (b14, b15)) ⟨rfl, rfl, rfl, rfl, rfl, rfl, rfl, trivial⟩
          · skip
            refine WL.alloc F.zero104 rfl (fun b15 => ?_)
            refine WD.on (closed_of (by kernel_rfl)) (fun w hS => Sx.gone rfl (Sx.keep (fun j v hv => hS.oldc (hE.ce (3 + j) v (by rw [Nat.add_comm]; rcases j with _ | _ | j <;> first | exact hv | simp at hv)) hE.ce') (Sx.none))) ?_
            refine WD.two (i := 11) (j := 12) (by kernel_rfl) rfl rfl ?_ ?_
            · skip
              refine WL.callV F.fun176 rfl rfl (fun w hS => at_c lb ab cb rb y w (by omega) hy (hE.rdb.now hS)) ?_
              refine WD.on (closed_of (by kernel_rfl)) (fun w hS => Sx.gone rfl (Sx.gone rfl (Sx.none))) ?_
              refine WD.one (i := 12) (by kernel_rfl) rfl ?_
              refine WL.alloc F.zero104 rfl (fun b14 => ?_)
              refine WD.on (closed_of (by kernel_rfl)) (fun w hS => Sx.gone rfl (Sx.gone rfl (Sx.none))) ?_
              refine WD.one (i := 14) (by kernel_rfl) rfl ?_
              refine WL.storeN F.agg104 rfl rfl rfl (by simp [Value.oneCell']) (by repeat (first | exact Upd.here | apply Upd.there)) (by repeat constructor) ?_
              refine WD.on (closed_of (by kernel_rfl)) (fun w hS => Sx.gone rfl (Sx.gone rfl (Sx.none))) ?_
              refine WD.one (i := 15) (by kernel_rfl) rfl ?_
              refine WL.storeN F.agg104 rfl rfl rfl (by simp [Value.oneCell']) (by repeat (first | exact Upd.here | apply Upd.there)) (by repeat constructor) ?_
              refine WD.on (closed_of (by kernel_rfl)) (fun w hS => Sx.gone rfl (Sx.gone rfl (Sx.none))) ?_
              refine WD.done (by kernel_rfl) ?_
              refine WQ.chunks (C' := [pt (b14, b15).1 [Value.int .i64 ((atD la x).1 : Int), .int .i64 ((atD la x).2.1 : Int), .int .i64 ((atD la x).2.2 : Int)] 104, pt (b14, b15).2 [Value.int .i64 ((atD lb y).1 : Int), .int .i64 ((atD lb y).2.1 : Int), .int .i64 ((atD lb y).2.2 : Int)] 104, pt b11 [Value.int .i64 (x : Int), .int .i64 (y : Int)] 243, mkr F1 bm l, mpg enc2 bs (fun q => (f q).map encI)]) (fun w hS => ((St.pick (St.pick (St.pick (St.pick (St.pick hS (c := mpg enc2 bs (fun q => (f q).map encI)) (by repeat (first | exact Rem.here | apply Rem.there))) (c := mkr F1 bm l) (by repeat (first | exact Rem.here | apply Rem.there))) (c := pt b11 [Value.int .i64 (x : Int), .int .i64 (y : Int)] 243) (by repeat (first | exact Rem.here | apply Rem.there))) (c := pt (b14, b15).2 [Value.int .i64 ((atD lb y).1 : Int), .int .i64 ((atD lb y).2.1 : Int), .int .i64 ((atD lb y).2.2 : Int)] 104) (by repeat (first | exact Rem.here | apply Rem.there))) (c := pt (b14, b15).1 [Value.int .i64 ((atD la x).1 : Int), .int .i64 ((atD la x).2.1 : Int), .int .i64 ((atD la x).2.2 : Int)] 104) (by repeat (first | exact Rem.here | apply Rem.there)))).sublist (List.Sublist.cons_cons _ (List.Sublist.cons_cons _ (List.Sublist.cons_cons _ (List.Sublist.cons_cons _ (List.Sublist.cons_cons _ (List.nil_sublist _))))))) ?_
              exact WQ.byCut (hQ (b14, b15)) ⟨rfl, rfl, rfl, rfl, rfl, rfl, rfl, trivial⟩
            · skip
              refine WL.alloc F.zero104 rfl (fun b14 => ?_)
              refine WD.on (closed_of (by kernel_rfl)) (fun w hS => Sx.gone rfl (Sx.keep (fun j v hv => hS.oldc (hE.ce (3 + j) v (by rw [Nat.add_comm]; rcases j with _ | _ | j <;> first | exact hv | simp at hv)) hE.ce') (Sx.none))) ?_
              refine WD.one (i := 11) (by kernel_rfl) rfl ?_
              refine WL.callV F.fun176 rfl rfl (fun w hS => at_c lb ab cb rb y w (by omega) hy (hE.rdb.now hS)) ?_
              refine WD.on (closed_of (by kernel_rfl)) (fun w hS => Sx.gone rfl (Sx.gone rfl (Sx.none))) ?_
              refine WD.one (i := 14) (by kernel_rfl) rfl ?_
              refine WL.storeN F.agg104 rfl rfl rfl (by simp [Value.oneCell']) (by repeat (first | exact Upd.here | apply Upd.there)) (by repeat constructor) ?_
              refine WD.on (closed_of (by kernel_rfl)) (fun w hS => Sx.gone rfl (Sx.gone rfl (Sx.none))) ?_
              refine WD.one (i := 15) (by kernel_rfl) rfl ?_
              refine WL.storeN F.agg104 rfl rfl rfl (by simp [Value.oneCell']) (by repeat (first | exact Upd.here | apply Upd.there)) (by repeat constructor) ?_
              refine WD.on (closed_of (by kernel_rfl)) (fun w hS => Sx.gone rfl (Sx.gone rfl (Sx.none))) ?_
              refine WD.done (by kernel_rfl) ?_
              refine WQ.chunks (C' := [pt (b14, b15).1 [Value.int .i64 ((atD la x).1 : Int), .int .i64 ((atD la x).2.1 : Int), .int .i64 ((atD la x).2.2 : Int)] 104, pt (b14, b15).2 [Value.int .i64 ((atD lb y).1 : Int), .int .i64 ((atD lb y).2.1 : Int), .int .i64 ((atD lb y).2.2 : Int)] 104, pt b11 [Value.int .i64 (x : Int), .int .i64 (y : Int)] 243, mkr F1 bm l, mpg enc2 bs (fun q => (f q).map encI)]) (fun w hS => ((St.pick (St.pick (St.pick (St.pick (St.pick hS (c := mpg enc2 bs (fun q => (f q).map encI)) (by repeat (first | exact Rem.here | apply Rem.there))) (c := mkr F1 bm l) (by repeat (first | exact Rem.here | apply Rem.there))) (c := pt b11 [Value.int .i64 (x : Int), .int .i64 (y : Int)] 243) (by repeat (first | exact Rem.here | apply Rem.there))) (c := pt (b14, b15).2 [Value.int .i64 ((atD lb y).1 : Int), .int .i64 ((atD lb y).2.1 : Int), .int .i64 ((atD lb y).2.2 : Int)] 104) (by repeat (first | exact Rem.here | apply Rem.there))) (c := pt (b14, b15).1 [Value.int .i64 ((atD la x).1 : Int), .int .i64 ((atD la x).2.1 : Int), .int .i64 ((atD la x).2.2 : Int)] 104) (by repeat (first | exact Rem.here | apply Rem.there)))).sublist (List.Sublist.cons_cons _ (List.Sublist.cons_cons _ (List.Sublist.cons_cons _ (List.Sublist.cons_cons _ (List.Sublist.cons_cons _ (List.nil_sublist _))))))) ?_
              exact WQ.byCut (hQ (b14, b15)) ⟨rfl, rfl, rfl, rfl, rfl, rfl, rfl, trivial⟩
        · skip
          refine WL.alloc F.zero104 rfl (fun b14 => ?_)
          refine WD.on (closed_of (by kernel_rfl)) (fun w hS => Sx.keep (fun j v hv => hS.oldc (hE.ce (1 + j) v (by rw [Nat.add_comm]; rcases j with _ | _ | j <;> first | exact hv | simp at hv)) hE.ce') (Sx.keep (fun j v hv => hS.oldc (hE.ce (3 + j) v (by rw [Nat.add_comm]; rcases j with _ | _ | j <;> first | exact hv | simp at hv)) hE.ce') (Sx.none))) ?_
          refine WD.two (i := 5) (j := 13) (by kernel_rfl) rfl rfl ?_ ?_
          · skip
            refine WL.callV F.fun176 rfl rfl (fun w hS => at_c la aa ca ra x w (by omega) hx (hE.rda.now hS)) ?_
            refine WD.on (closed_of (by kernel_rfl)) (fun w hS => Sx.gone rfl (Sx.keep (fun j v hv => hS.oldc (hE.ce (3 + j) v (by rw [Nat.add_comm]; rcases j with _ | _ | j <;> first | exact hv | simp at hv)) hE.ce') (Sx.none))) ?_
            refine WD.two (i := 11) (j := 13) (by kernel_rfl) rfl rfl ?_ ?_
            · skip
              refine WL.callV F.fun176 rfl rfl (fun w hS => at_c lb ab cb rb y w (by omega) hy (hE.rdb.now hS)) ?_
              refine WD.on (closed_of (by kernel_rfl)) (fun w hS => Sx.gone rfl (Sx.gone rfl (Sx.none))) ?_
              refine WD.one (i := 13) (by kernel_rfl) rfl ?_
              refine WL.alloc F.zero104 rfl (fun b15 => ?_)
              refine WD.on (closed_of (by kernel_rfl)) (fun w hS => Sx.gone rfl (Sx.gone rfl (Sx.none))) ?_
              refine WD.one (i := 14) (by kernel_rfl) rfl ?_
              refine WL.storeN F.agg104 rfl rfl rfl (by simp [Value.oneCell']) (by repeat (first | exact Upd.here | apply Upd.there)) (by repeat constructor) ?_
              refine WD.on (closed_of (by kernel_rfl)) (fun w hS => Sx.gone rfl (Sx.gone rfl (Sx.none))) ?_
              refine WD.one (i := 15) (by kernel_rfl) rfl ?_
              refine WL.storeN F.agg104 rfl rfl rfl (by simp [Value.oneCell']) (by repeat (first | exact Upd.here | apply Upd.there)) (by repeat constructor) ?_
              refine WD.on (closed_of (by kernel_rfl)) (fun w hS => Sx.gone rfl (Sx.gone rfl (Sx.none))) ?_
              refine WD.done (by kernel_rfl) ?_
              refine WQ.chunks (C' := [pt (b14, b15).1 [Value.int .i64 ((atD la x).1 : Int), .int .i64 ((atD la x).2.1 : Int), .int .i64 ((atD la x).2.2 : Int)] 104, pt (b14, b15).2 [Value.int .i64 ((atD lb y).1 : Int), .int .i64 ((atD lb y).2.1 : Int), .int .i64 ((atD lb y).2.2 : Int)] 104, pt b11 [Value.int .i64 (x : Int), .int .i64 (y : Int)] 243, mkr F1 bm l, mpg enc2 bs (fun q => (f q).map encI)]) (fun w hS => ((St.pick (St.pick (St.pick (St.pick (St.pick hS (c := mpg enc2 bs (fun q => (f q).map encI)) (by repeat (first | exact Rem.here | apply Rem.there))) (c := mkr F1 bm l) (by repeat (first | exact Rem.here | apply Rem.there))) (c := pt b11 [Value.int .i64 (x : Int), .int .i64 (y : Int)] 243) (by repeat (first | exact Rem.here | apply Rem.there))) (c := pt (b14, b15).2 [Value.int .i64 ((atD lb y).1 : Int), .int .i64 ((atD lb y).2.1 : Int), .int .i64 ((atD lb y).2.2 : Int)] 104) (by repeat (first | exact Rem.here | apply Rem.there))) (c := pt (b14, b15).1 [Value.int .i64 ((atD la x).1 : Int), .int .i64 ((atD la x).2.1 : Int), .int .i64 ((atD la x).2.2 : Int)] 104) (by repeat (first | exact Rem.here | apply Rem.there)))).sublist (List.Sublist.cons_cons _ (List.Sublist.cons_cons _ (List.Sublist.cons_cons _ (List.Sublist.cons_cons _ (List.Sublist.cons_cons _ (List.nil_sublist _))))))) ?_
              exact WQ.byCut (hQ (b14, b15)) ⟨rfl, rfl, rfl, rfl, rfl, rfl, rfl, trivial⟩
            · skip
              refine WL.alloc F.zero104 rfl (fun b15 => ?_)
              refine WD.on (closed_of (by kernel_rfl)) (fun w hS => Sx.gone rfl (Sx.keep (fun j v hv => hS.oldc (hE.ce (3 + j) v (by rw [Nat.add_comm]; rcases j with _ | _ | j <;> first | exact hv | simp at hv)) hE.ce') (Sx.none))) ?_
              refine WD.one (i := 11) (by kernel_rfl) rfl ?_
              refine WL.callV F.fun176 rfl rfl (fun w hS => at_c lb ab cb rb y w (by omega) hy (hE.rdb.now hS)) ?_
              refine WD.on (closed_of (by kernel_rfl)) (fun w hS => Sx.gone rfl (Sx.gone rfl (Sx.none))) ?_
              refine WD.one (i := 14) (by kernel_rfl) rfl ?_
              refine WL.storeN F.agg104 rfl rfl rfl (by simp [Value.oneCell']) (by repeat (first | exact Upd.here | apply Upd.there)) (by repeat constructor) ?_
              refine WD.on (closed_of (by kernel_rfl)) (fun w hS => Sx.gone rfl (Sx.gone rfl (Sx.none))) ?_
              refine WD.one (i := 15) (by kernel_rfl) rfl ?_
              refine WL.storeN F.agg104 rfl rfl rfl (by simp [Value.oneCell']) (by repeat (first | exact Upd.here | apply Upd.there)) (by repeat constructor) ?_
              refine WD.on (closed_of (by kernel_rfl)) (fun w hS => Sx.gone rfl (Sx.gone rfl (Sx.none))) ?_
              refine WD.done (by kernel_rfl) ?_
              refine WQ.chunks (C' := [pt (b14, b15).1 [Value.int .i64 ((atD la x).1 : Int), .int .i64 ((atD la x).2.1 : Int), .int .i64 ((atD la x).2.2 : Int)] 104, pt (b14, b15).2 [Value.int .i64 ((atD lb y).1 : Int), .int .i64 ((atD lb y).2.1 : Int), .int .i64 ((atD lb y).2.2 : Int)] 104, pt b11 [Value.int .i64 (x : Int), .int .i64 (y : Int)] 243, mkr F1 bm l, mpg enc2 bs (fun q => (f q).map encI)]) (fun w hS => ((St.pick (St.pick (St.pick (St.pick (St.pick hS (c := mpg enc2 bs (fun q => (f q).map encI)) (by repeat (first | exact Rem.here | apply Rem.there))) (c := mkr F1 bm l) (by repeat (first | exact Rem.here | apply Rem.there))) (c := pt b11 [Value.int .i64 (x : Int), .int .i64 (y : Int)] 243) (by repeat (first | exact Rem.here | apply Rem.there))) (c := pt (b14, b15).2 [Value.int .i64 ((atD lb y).1 : Int), .int .i64 ((atD lb y).2.1 : Int), .int .i64 ((atD lb y).2.2 : Int)] 104) (by repeat (first | exact Rem.here | apply Rem.there))) (c := pt (b14, b15).1 [Value.int .i64 ((atD la x).1 : Int), .int .i64 ((atD la x).2.1 : Int), .int .i64 ((atD la x).2.2 : Int)] 104) (by repeat (first | exact Rem.here | apply Rem.there)))).sublist (List.Sublist.cons_cons _ (List.Sublist.cons_cons _ (List.Sublist.cons_cons _ (List.Sublist.cons_cons _ (List.Sublist.cons_cons _ (List.nil_sublist _))))))) ?_
              exact WQ.byCut (hQ (b14, b15)) ⟨rfl, rfl, rfl, rfl, rfl, rfl, rfl, trivial⟩
          · skip
            refine WL.alloc F.zero104 rfl (fun b15 => ?_)
            refine WD.on (closed_of (by kernel_rfl)) (fun w hS => Sx.keep (fun j v hv => hS.oldc (hE.ce (1 + j) v (by rw [Nat.add_comm]; rcases j with _ | _ | j <;> first | exact hv | simp at hv)) hE.ce') (Sx.keep (fun j v hv => hS.oldc (hE.ce (3 + j) v (by rw [Nat.add_comm]; rcases j with _ | _ | j <;> first | exact hv | simp at hv)) hE.ce') (Sx.none))) ?_
            refine WD.one (i := 5) (by kernel_rfl) rfl ?_
            refine WL.callV F.fun176 rfl rfl (fun w hS => at_c la aa ca ra x w (by omega) hx (hE.rda.now hS)) ?_
            refine WD.on (closed_of (by kernel_rfl)) (fun w hS => Sx.gone rfl (Sx.keep (fun j v hv => hS.oldc (hE.ce (3 + j) v (by rw [Nat.add_comm]; rcases j with _ | _ | j <;> first | exact hv | simp at hv)) hE.ce') (Sx.none))) ?_
            refine WD.one (i := 11) (by kernel_rfl) rfl ?_
            refine WL.callV F.fun176 rfl rfl (fun w hS => at_c lb ab cb rb y w (by omega) hy (hE.rdb.now hS)) ?_
            refine WD.on (closed_of (by kernel_rfl)) (fun w hS => Sx.gone rfl (Sx.gone rfl (Sx.none))) ?_
            refine WD.one (i := 14) (by kernel_rfl) rfl ?_
            refine WL.storeN F.agg104 rfl rfl rfl (by simp [Value.oneCell']) (by repeat (first | exact Upd.here | apply Upd.there)) (by repeat constructor) ?_
            refine WD.on (closed_of (by kernel_rfl)) (fun w hS => Sx.gone rfl (Sx.gone rfl (Sx.none))) ?_
            refine WD.one (i := 15) (by kernel_rfl) rfl ?_
            refine WL.storeN F.agg104 rfl rfl rfl (by simp [Value.oneCell']) (by repeat (first | exact Upd.here | apply Upd.there)) (by repeat constructor) ?_
            refine WD.on (closed_of (by kernel_rfl)) (fun w hS => Sx.gone rfl (Sx.gone rfl (Sx.none))) ?_
            refine WD.done (by kernel_rfl) ?_
            refine WQ.chunks (C' := [pt (b14, b15).1 [Value.int .i64 ((atD la x).1 : Int), .int .i64 ((atD la x).2.1 : Int), .int .i64 ((atD la x).2.2 : Int)] 104, pt (b14, b15).2 [Value.int .i64 ((atD lb y).1 : Int), .int .i64 ((atD lb y).2.1 : Int), .int .i64 ((atD lb y).2.2 : Int)] 104, pt b11 [Value.int .i64 (x : Int), .int .i64 (y : Int)] 243, mkr F1 bm l, mpg enc2 bs (fun q => (f q).map encI)]) (fun w hS => ((St.pick (St.pick (St.pick (St.pick (St.pick hS (c := mpg enc2 bs (fun q => (f q).map encI)) (by repeat (first | exact Rem.here | apply Rem.there))) (c := mkr F1 bm l) (by repeat (first | exact Rem.here | apply Rem.there))) (c := pt b11 [Value.int .i64 (x : Int), .int .i64 (y : Int)] 243) (by repeat (first | exact Rem.here | apply Rem.there))) (c := pt (b14, b15).2 [Value.int .i64 ((atD lb y).1 : Int), .int .i64 ((atD lb y).2.1 : Int), .int .i64 ((atD lb y).2.2 : Int)] 104) (by repeat (first | exact Rem.here | apply Rem.there))) (c := pt (b14, b15).1 [Value.int .i64 ((atD la x).1 : Int), .int .i64 ((atD la x).2.1 : Int), .int .i64 ((atD la x).2.2 : Int)] 104) (by repeat (first | exact Rem.here | apply Rem.there)))).sublist (List.Sublist.cons_cons _ (List.Sublist.cons_cons _ (List.Sublist.cons_cons _ (List.Sublist.cons_cons _ (List.Sublist.cons_cons _ (List.nil_sublist _))))))) ?_
            exact WQ.byCut (hQ (b14, b15)) ⟨rfl, rfl, rfl, rfl, rfl, rfl, rfl, trivial⟩
        · skip
          refine WL.alloc F.zero104 rfl (fun b15 => ?_)
          refine WD.on (closed_of (by kernel_rfl)) (fun w hS => Sx.keep (fun j v hv => hS.oldc (hE.ce (1 + j) v (by rw [Nat.add_comm]; rcases j with _ | _ | j <;> first | exact hv | simp at hv)) hE.ce') (Sx.keep (fun j v hv => hS.oldc (hE.ce (3 + j) v (by rw [Nat.add_comm]; rcases j with _ | _ | j <;> first | exact hv | simp at hv)) hE.ce') (Sx.none))) ?_
          refine WD.two (i := 5) (j := 12) (by kernel_rfl) rfl rfl ?_ ?_
          · skip
            refine WL.callV F.fun176 rfl rfl (fun w hS => at_c la aa ca ra x w (by omega) hx (hE.rda.now hS)) ?_
            refine WD.on (closed_of (by kernel_rfl)) (fun w hS => Sx.gone rfl (Sx.keep (fun j v hv => hS.oldc (hE.ce (3 + j) v (by rw [Nat.add_comm]; rcases j with _ | _ | j <;> first | exact hv | simp at hv)) hE.ce') (Sx.none))) ?_
            refine WD.two (i := 11) (j := 12) (by kernel_rfl) rfl rfl ?_ ?_
            · skip
              refine WL.callV F.fun176 rfl rfl (fun w hS => at_c lb ab cb rb y w (by omega) hy (hE.rdb.now hS)) ?_
              refine WD.on (closed_of (by kernel_rfl)) (fun w hS => Sx.gone rfl (Sx.gone rfl (Sx.none))) ?_
              refine WD.one (i := 12) (by kernel_rfl) rfl ?_
              refine WL.alloc F.zero104 rfl (fun b14 => ?_)
              refine WD.on (closed_of (by kernel_rfl)) (fun w hS => Sx.gone rfl (Sx.gone rfl (Sx.none))) ?_
              refine WD.one (i := 14) (by kernel_rfl) rfl ?_
              refine WL.storeN F.agg104 rfl rfl rfl (by simp [Value.oneCell']) (by repeat (first | exact Upd.here | apply Upd.there)) (by repeat constructor) ?_
              refine WD.on (closed_of (by kernel_rfl)) (fun w hS => Sx.gone rfl (Sx.gone rfl (Sx.none))) ?_
              refine WD.one (i := 15) (by kernel_rfl) rfl ?_
              refine WL.storeN F.agg104 rfl rfl rfl (by simp [Value.oneCell']) (by repeat (first | exact Upd.here | apply Upd.there)) (by repeat constructor) ?_
              refine WD.on (closed_of (by kernel_rfl)) (fun w hS => Sx.gone rfl (Sx.gone rfl (Sx.none))) ?_
              refine WD.done (by kernel_rfl) ?_
              refine WQ.chunks (C' := [pt (b14, b15).1 [Value.int .i64 ((atD la x).1 : Int), .int .i64 ((atD la x).2.1 : Int), .int .i64 ((atD la x).2.2 : Int)] 104, pt (b14, b15).2 [Value.int .i64 ((atD lb y).1 : Int), .int .i64 ((atD lb y).2.1 : Int), .int .i64 ((atD lb y).2.2 : Int)] 104, pt b11 [Value.int .i64 (x : Int), .int .i64 (y : Int)] 243, mkr F1 bm l, mpg enc2 bs (fun q => (f q).map encI)]) (fun w hS => ((St.pick (St.pick (St.pick (St.pick (St.pick hS (c := mpg enc2 bs (fun q => (f q).map encI)) (by repeat (first | exact Rem.here | apply Rem.there))) (c := mkr F1 bm l) (by repeat (first | exact Rem.here | apply Rem.there))) (c := pt b11 [Value.int .i64 (x : Int), .int .i64 (y : Int)] 243) (by repeat (first | exact Rem.here | apply Rem.there))) (c := pt (b14, b15).2 [Value.int .i64 ((atD lb y).1 : Int), .int .i64 ((atD lb y).2.1 : Int), .int .i64 ((atD lb y).2.2 : Int)] 104) (by repeat (first | exact Rem.here | apply Rem.there))) (c := pt (b14, b15).1 [Value.int .i64 ((atD la x).1 : Int), .int .i64 ((atD la x).2.1 : Int), .int .i64 ((atD la x).2.2 : Int)] 104) (by repeat (first | exact Rem.here | apply Rem.there)))).sublist (List.Sublist.cons_cons _ (List.Sublist.cons_cons _ (List.Sublist.cons_cons _ (List.Sublist.cons_cons _ (List.Sublist.cons_cons _ (List.nil_sublist _))))))) ?_
              exact WQ.byCut (hQ (b14, b15)) ⟨rfl, rfl, rfl, rfl, rfl, rfl, rfl, trivial⟩
            · skip
              refine WL.alloc F.zero104 rfl (fun b14 => ?_)
              refine WD.on (closed_of (by kernel_rfl)) (fun w hS => Sx.gone rfl (Sx.keep (fun j v hv => hS.oldc (hE.ce (3 + j) v (by rw [Nat.add_comm]; rcases j with _ | _ | j <;> first | exact hv | simp at hv)) hE.ce') (Sx.none))) ?_
              refine WD.one (i := 11) (by kernel_rfl) rfl ?_
              refine WL.callV F.fun176 rfl rfl (fun w hS => at_c lb ab cb rb y w (by omega) hy (hE.rdb.now hS)) ?_
              refine WD.on (closed_of (by kernel_rfl)) (fun w hS => Sx.gone rfl (Sx.gone rfl (Sx.none))) ?_
              refine WD.one (i := 14) (by kernel_rfl) rfl ?_
              refine WL.storeN F.agg104 rfl rfl rfl (by simp [Value.oneCell']) (by repeat (first | exact Upd.here | apply Upd.there)) (by repeat constructor) ?_
              refine WD.on (closed_of (by kernel_rfl)) (fun w hS => Sx.gone rfl (Sx.gone rfl (Sx.none))) ?_
              refine WD.one (i := 15) (by kernel_rfl) rfl ?_
              refine WL.storeN F.agg104 rfl rfl rfl (by simp [Value.oneCell']) (by repeat (first | exact Upd.here | apply Upd.there)) (by repeat constructor) ?_
              refine WD.on (closed_of (by kernel_rfl)) (fun w hS => Sx.gone rfl (Sx.gone rfl (Sx.none))) ?_
              refine WD.done (by kernel_rfl) ?_
              refine WQ.chunks (C' := [pt (b14, b15).1 [Value.int .i64 ((atD la x).1 : Int), .int .i64 ((atD la x).2.1 : Int), .int .i64 ((atD la x).2.2 : Int)] 104, pt (b14, b15).2 [Value.int .i64 ((atD lb y).1 : Int), .int .i64 ((atD lb y).2.1 : Int), .int .i64 ((atD lb y).2.2 : Int)] 104, pt b11 [Value.int .i64 (x : Int), .int .i64 (y : Int)] 243, mkr F1 bm l, mpg enc2 bs (fun q => (f q).map encI)]) (fun w hS => ((St.pick (St.pick (St.pick (St.pick (St.pick hS (c := mpg enc2 bs (fun q => (f q).map encI)) (by repeat (first | exact Rem.here | apply Rem.there))) (c := mkr F1 bm l) (by repeat (first | exact Rem.here | apply Rem.there))) (c := pt b11 [Value.int .i64 (x : Int), .int .i64 (y : Int)] 243) (by repeat (first | exact Rem.here | apply Rem.there))) (c := pt (b14, b15).2 [Value.int .i64 ((atD lb y).1 : Int), .int .i64 ((atD lb y).2.1 : Int), .int .i64 ((atD lb y).2.2 : Int)] 104) (by repeat (first | exact Rem.here | apply Rem.there))) (c := pt (b14, b15).1 [Value.int .i64 ((atD la x).1 : Int), .int .i64 ((atD la x).2.1 : Int), .int .i64 ((atD la x).2.2 : Int)] 104) (by repeat (first | exact Rem.here | apply Rem.there)))).sublist (List.Sublist.cons_cons _ (List.Sublist.cons_cons _ (List.Sublist.cons_cons _ (List.Sublist.cons_cons _ (List.Sublist.cons_cons _ (List.nil_sublist _))))))) ?_
              exact WQ.byCut (hQ (b14, b15)) ⟨rfl, rfl, rfl, rfl, rfl, rfl, rfl, trivial⟩
          · skip
            refine WL.alloc F.zero104 rfl (fun b14 => ?_)
            refine WD.on (closed_of (by kernel_rfl)) (fun w hS => Sx.keep (fun j v hv => hS.oldc (hE.ce (1 + j) v (by rw [Nat.add_comm]; rcases j with _ | _ | j <;> first | exact hv | simp at hv)) hE.ce') (Sx.keep (fun j v hv => hS.oldc (hE.ce (3 + j) v (by rw [Nat.add_comm]; rcases j with _ | _ | j <;> first | exact hv | simp at hv)) hE.ce') (Sx.none))) ?_
            refine WD.one (i := 5) (by kernel_rfl) rfl ?_
            refine WL.callV F.fun176 rfl rfl (fun w hS => at_c la aa ca ra x w (by omega) hx (hE.rda.now hS)) ?_
            refine WD.on (closed_of (by kernel_rfl)) (fun w hS => Sx.gone rfl (Sx.keep (fun j v hv => hS.oldc (hE.ce (3 + j) v (by rw [Nat.add_comm]; rcases j with _ | _ | j <;> first | exact hv | simp at hv)) hE.ce') (Sx.none))) ?_
            refine WD.one (i := 11) (by kernel_rfl) rfl ?_
            refine WL.callV F.fun176 rfl rfl (fun w hS => at_c lb ab cb rb y w (by omega) hy (hE.rdb.now hS)) ?_
            refine WD.on (closed_of (by kernel_rfl)) (fun w hS => Sx.gone rfl (Sx.gone rfl (Sx.none))) ?_
            refine WD.one (i := 14) (by kernel_rfl) rfl ?_
            refine WL.storeN F.agg104 rfl rfl rfl (by simp [Value.oneCell']) (by repeat (first | exact Upd.here | apply Upd.there)) (by repeat constructor) ?_
            refine WD.on (closed_of (by kernel_rfl)) (fun w hS => Sx.gone rfl (Sx.gone rfl (Sx.none))) ?_
            refine WD.one (i := 15) (by kernel_rfl) rfl ?_
            refine WL.storeN F.agg104 rfl rfl rfl (by simp [Value.oneCell']) (by repeat (first | exact Upd.here | apply Upd.there)) (by repeat constructor) ?_
            refine WD.on (closed_of (by kernel_rfl)) (fun w hS => Sx.gone rfl (Sx.gone rfl (Sx.none))) ?_
            refine WD.done (by kernel_rfl) ?_
            refine WQ.chunks (C' := [pt (b14, b15).1 [Value.int .i64 ((atD la x).1 : Int), .int .i64 ((atD la x).2.1 : Int), .int .i64 ((atD la x).2.2 : Int)] 104, pt (b14, b15).2 [Value.int .i64 ((atD lb y).1 : Int), .int .i64 ((atD lb y).2.1 : Int), .int .i64 ((atD lb y).2.2 : Int)] 104, pt b11 [Value.int .i64 (x : Int), .int .i64 (y : Int)] 243, mkr F1 bm l, mpg enc2 bs (fun q => (f q).map encI)]) (fun w hS => ((St.pick (St.pick (St.pick (St.pick (St.pick hS (c := mpg enc2 bs (fun q => (f q).map encI)) (by repeat (first | exact Rem.here | apply Rem.there))) (c := mkr F1 bm l) (by repeat (first | exact Rem.here | apply Rem.there))) (c := pt b11 [Value.int .i64 (x : Int), .int .i64 (y : Int)] 243) (by repeat (first | exact Rem.here | apply Rem.there))) (c := pt (b14, b15).2 [Value.int .i64 ((atD lb y).1 : Int), .int .i64 ((atD lb y).2.1 : Int), .int .i64 ((atD lb y).2.2 : Int)] 104) (by repeat (first | exact Rem.here | apply Rem.there))) (c := pt (b14, b15).1 [Value.int .i64 ((atD la x).1 : Int), .int .i64 ((atD la x).2.1 : Int), .int .i64 ((atD la x).2.2 : Int)] 104) (by repeat (first | exact Rem.here | apply Rem.there)))).sublist (List.Sublist.cons_cons _ (List.Sublist.cons_cons _ (List.Sublist.cons_cons _ (List.Sublist.cons_cons _ (List.Sublist.cons_cons _ (List.nil_sublist _))))))) ?_
            exact WQ.byCut (hQ (b14, b15)) ⟨rfl, rfl, rfl, rfl, rfl, rfl, rfl, trivial⟩
      obtain ⟨b14, b15⟩ := xE
      show WQ _ _ _ _ _ _ [(0, pp bp), (1, .int .i64 (x : Int)), (2, .int .i64 (y : Int)), (3, Value.func (.func g) [].toArray [].toArray), (11, pp b11), (14, pp b14), (15, pp b15)] [pt b14 [Value.int .i64 ((atD la x).1 : Int), .int .i64 ((atD la x).2.1 : Int), .int .i64 ((atD la x).2.2 : Int)] 104, pt b15 [Value.int .i64 ((atD lb y).1 : Int), .int .i64 ((atD lb y).2.1 : Int), .int .i64 ((atD lb y).2.2 : Int)] 104, pt b11 [Value.int .i64 (x : Int), .int .i64 (y : Int)] 243, mkr F1 bm l, mpg enc2 bs (fun q => (f q).map encI)]
      obtain ⟨i, hi⟩ : ∃ i, i = min (atD la x).1 (atD lb y).1 := ⟨_, rfl⟩
      have hgo := hop.spec.go x y h28
      have hi24 : i < 24 := by
        rcases hgo with h | h
        · have := atD_lt ha hx h; omega
        · have := atD_lt hb hy h; omega
      have hmi : m ≤ i := by have e1 := atD_ok ha hx hox hm24; have e2 := atD_ok hb hy hoy hm24; omega
      obtain ⟨a1, a2, a3, a4, _, _, a7⟩ := half_at ha hx hox (i := i) (by omega) hi24
      obtain ⟨c1, c2, c3, c4, _, _, c7⟩ := half_at hb hy hoy (i := i) (by omega) hi24
      have hp2 : 2 ^ (24 - (i + 1)) + 2 ^ (24 - (i + 1)) ≤ 2 ^ (24 - m) := by (have e1 : 2 ^ (24 - i) = 2 ^ (24 - (i + 1)) * 2 := by (rw [← Nat.pow_succ]; congr 1; omega)); (have e2 : 2 ^ (24 - i) ≤ 2 ^ (24 - m) := Nat.pow_le_pow_right (by decide) (by omega)); omega
      refine WQ.then_normal ?_
      refine WC.seq ?_
      refine WC.region ?_
      refine WL.step ?_
      refine WL.fieldAddr0 F.fld104_0 rfl rfl ?_
      refine WL.step ?_
      refine WL.loadP F.one3 rfl rfl (by repeat (first | exact List.Mem.head _ | apply List.Mem.tail)) rfl ?_
      refine WL.step ?_
      refine WL.fieldAddr0 F.fld104_0 rfl rfl ?_
      refine WL.step ?_
      refine WL.loadP F.one3 rfl rfl (by repeat (first | exact List.Mem.head _ | apply List.Mem.tail)) rfl ?_
      refine WL.step ?_
      refine WL.minI (r := (i : Int)) rfl rfl rfl (by (split) <;> omega) ?_
      refine WL.step ?_
      refine WL.assign rfl rfl ?_
      refine WL.nil ?_
      refine WQ.then_normal ?_
      refine WC.seq ?_
      refine WC.region ?_
      refine WL.step ?_
      refine WL.move rfl rfl ?_
      refine WL.step ?_
      refine WL.move rfl rfl ?_
      refine WL.step ?_
      refine WL.buildA F.arT243 rfl (by repeat (first | exact Built.nil | apply Built.one rfl rfl (by repeat constructor) | apply Built.agg rfl rfl (by repeat constructor))) rfl ?_
      refine WL.step ?_
      refine WL.move rfl rfl ?_
      refine WL.step ?_
      refine WL.move rfl rfl ?_
      refine WL.step ?_
      refine WL.buildA F.arT243 rfl (by repeat (first | exact Built.nil | apply Built.one rfl rfl (by repeat constructor) | apply Built.agg rfl rfl (by repeat constructor))) rfl ?_
      refine WL.step ?_
      refine WL.alloc F.zero243 rfl (fun b17 => ?_)
      refine WL.step ?_
      refine WL.alloc F.zero243 rfl (fun b18 => ?_)
      refine WL.step ?_
      refine WL.storeN F.agg243 rfl rfl rfl (by simp [Value.oneCell']) (by repeat (first | exact Upd.here | apply Upd.there)) (by repeat constructor) ?_
      refine WL.step ?_
      refine WL.storeN F.agg243 rfl rfl rfl (by simp [Value.oneCell']) (by repeat (first | exact Upd.here | apply Upd.there)) (by repeat constructor) ?_
      refine WL.nil ?_
      refine WQ.then_normal ?_
      refine WC.seq ?_
      refine WC.seq ?_
      refine WC.region ?_
      refine WL.step ?_
      refine WL.fieldAddr0 F.fld104_0 rfl rfl ?_
      refine WL.step ?_
      refine WL.loadP F.one3 rfl rfl (by repeat (first | exact List.Mem.head _ | apply List.Mem.tail)) rfl ?_
      refine WL.step ?_
      refine WL.move rfl rfl ?_
      refine WL.step ?_
      refine WL.eqI rfl rfl rfl ?_
      refine WL.nil ?_
      refine WQ.then_normal ?_
      refine WC.cutQ ([(0, pp bp), (1, .int .i64 (x : Int)), (2, .int .i64 (y : Int)), (3, Value.func (.func g) [].toArray [].toArray), (11, pp b11), (14, pp b14), (15, pp b15), (16, .int .i64 (i : Int)), (17, pp b17), (18, pp b18)]) ([pt b17 [.int .i64 (loP la x i : Int), .int .i64 (y : Int)] 243, pt b18 [.int .i64 (hiP la x i : Int), .int .i64 (y : Int)] 243, pt b15 [Value.int .i64 ((atD lb y).1 : Int), .int .i64 ((atD lb y).2.1 : Int), .int .i64 ((atD lb y).2.2 : Int)] 104, pt b11 [Value.int .i64 (x : Int), .int .i64 (y : Int)] 243, mkr F1 bm l, mpg enc2 bs (fun q => (f q).map encI)]) (fun c a d v w h => by cases d <;> exact h) (fun Q' hP hQ => ?_) ?_
      · skip
        refine WC.cond rfl (fun h70 => ?_) (fun h70 => ?_)
        · skip
          have h70n : (atD la x).1 = i := by simp at h70; omega
          have e70 : loP la x i = (atD la x).2.1 ∧ hiP la x i = (atD la x).2.2 := by unfold loP hiP; rw [if_pos h70n, if_pos h70n]; exact ⟨rfl, rfl⟩
          refine WC.drawsL (by kernel_rfl) (FactsOk.cons (ds := [5, 7]) (LoadOk.one (t := 14) (off := 1) rfl (by repeat (first | exact List.Mem.head _ | apply List.Mem.tail)) rfl) (FactsOk.cons (ds := [7]) (LoadOk.one (t := 14) (off := 2) rfl (by repeat (first | exact List.Mem.head _ | apply List.Mem.tail)) rfl) (FactsOk.nil))) ?_
          refine WD.take (i := 0) rfl rfl rfl rfl (by kernel_rfl) (by kernel_rfl) (by kernel_rfl) (fun _ _ _ h => hP _ _ _ _ _ h) (by kernel_rfl) need_none (Yl.fieldAddr0 F.fld104_1 rfl) ?_
          refine WD.take (i := 1) rfl rfl rfl rfl (by kernel_rfl) (by kernel_rfl) (by kernel_rfl) (fun _ _ _ h => hP _ _ _ _ _ h) (by kernel_rfl) (need_at 0 8 rfl (by kernel_rfl)) (Yl.load1 F.one3 rfl) ?_
          refine WD.take (i := 2) rfl rfl rfl rfl (by kernel_rfl) (by kernel_rfl) (by kernel_rfl) (fun _ _ _ h => hP _ _ _ _ _ h) (by kernel_rfl) need_none (Yl.fieldAddr0 F.fld104_2 rfl) ?_
          refine WD.take (i := 3) rfl rfl rfl rfl (by kernel_rfl) (by kernel_rfl) (by kernel_rfl) (fun _ _ _ h => hP _ _ _ _ _ h) (by kernel_rfl) (need_at 1 8 rfl (by kernel_rfl)) (Yl.load1 F.one3 rfl) ?_
          refine WD.take (i := 4) rfl rfl rfl rfl (by kernel_rfl) (by kernel_rfl) (by kernel_rfl) (fun _ _ _ h => hP _ _ _ _ _ h) (by kernel_rfl) need_none (Yl.indexAddrA (i := 0) F.arT243 rfl rfl (by decide)) ?_
          refine WD.one (i := 5) (by kernel_rfl) rfl ?_
          refine WL.store1 F.one3 rfl rfl rfl (by repeat (first | exact Upd.here | apply Upd.there)) (by repeat constructor) ?_
          refine WD.on (closed_of (by kernel_rfl)) (fun w hS => Sx.gone rfl (Sx.keep (hS.cell (by repeat (first | exact List.Mem.head _ | apply List.Mem.tail)) rfl) (Sx.none))) ?_
          refine WD.take (i := 6) rfl rfl rfl rfl (by kernel_rfl) (by kernel_rfl) (by kernel_rfl) (fun _ _ _ h => hP _ _ _ _ _ h) (by kernel_rfl) need_none (Yl.indexAddrA (i := 0) F.arT243 rfl rfl (by decide)) ?_
          refine WD.one (i := 7) (by kernel_rfl) rfl ?_
          refine WL.store1 F.one3 rfl rfl rfl (by repeat (first | exact Upd.here | apply Upd.there)) (by repeat constructor) ?_
          refine WD.on (closed_of (by kernel_rfl)) (fun w hS => Sx.gone rfl (Sx.gone rfl (Sx.none))) ?_
          refine WD.done (by kernel_rfl) ?_
          refine WQ.chunks (C' := [pt b17 [.int .i64 (loP la x i : Int), .int .i64 (y : Int)] 243, pt b18 [.int .i64 (hiP la x i : Int), .int .i64 (y : Int)] 243, pt b15 [Value.int .i64 ((atD lb y).1 : Int), .int .i64 ((atD lb y).2.1 : Int), .int .i64 ((atD lb y).2.2 : Int)] 104, pt b11 [Value.int .i64 (x : Int), .int .i64 (y : Int)] 243, mkr F1 bm l, mpg enc2 bs (fun q => (f q).map encI)]) (fun w hS => ?_) (WQ.byCut hQ ⟨rfl, rfl, rfl, rfl, rfl, rfl, rfl, rfl, rfl, rfl, trivial⟩)
          rw [e70.1, e70.2]
          first | exact ((St.pick (St.pick (St.pick (St.pick (St.pick (St.pick hS (c := mpg enc2 bs (fun q => (f q).map encI)) (by repeat (first | exact Rem.here | apply Rem.there))) (c := mkr F1 bm l) (by repeat (first | exact Rem.here | apply Rem.there))) (c := pt b11 [Value.int .i64 (x : Int), .int .i64 (y : Int)] 243) (by repeat (first | exact Rem.here | apply Rem.there))) (c := pt b15 [Value.int .i64 ((atD lb y).1 : Int), .int .i64 ((atD lb y).2.1 : Int), .int .i64 ((atD lb y).2.2 : Int)] 104) (by repeat (first | exact Rem.here | apply Rem.there))) (c := pt b18 [.int .i64 ((atD la x).2.2 : Int), .int .i64 (y : Int)] 243) (by repeat (first | exact Rem.here | apply Rem.there))) (c := pt b17 [.int .i64 ((atD la x).2.1 : Int), .int .i64 (y : Int)] 243) (by repeat (first | exact Rem.here | apply Rem.there)))).sublist (List.Sublist.cons_cons _ (List.Sublist.cons_cons _ (List.Sublist.cons_cons _ (List.Sublist.cons_cons _ (List.Sublist.cons_cons _ (List.Sublist.cons_cons _ (List.nil_sublist _))))))) | exact ((St.pick (St.pick (St.pick (St.pick (St.pick (St.pick hS (c := mpg enc2 bs (fun q => (f q).map encI)) (by repeat (first | exact Rem.here | apply Rem.there))) (c := mkr F1 bm l) (by repeat (first | exact Rem.here | apply Rem.there))) (c := pt b11 [Value.int .i64 (x : Int), .int .i64 (y : Int)] 243) (by repeat (first | exact Rem.here | apply Rem.there))) (c := pt b15 [Value.int .i64 ((atD lb y).1 : Int), .int .i64 ((atD lb y).2.1 : Int), .int .i64 ((atD lb y).2.2 : Int)] 104) (by repeat (first | exact Rem.here | apply Rem.there))) (c := pt b18 [.int .i64 (x : Int), .int .i64 (y : Int)] 243) (by repeat (first | exact Rem.here | apply Rem.there))) (c := pt b17 [.int .i64 (x : Int), .int .i64 (y : Int)] 243) (by repeat (first | exact Rem.here | apply Rem.there)))).sublist (List.Sublist.cons_cons _ (List.Sublist.cons_cons _ (List.Sublist.cons_cons _ (List.Sublist.cons_cons _ (List.Sublist.cons_cons _ (List.Sublist.cons_cons _ (List.nil_sublist _)))))))
        · skip
          have h70n : ¬ (atD la x).1 = i := by simp at h70; omega
          have e70 : loP la x i = x ∧ hiP la x i = x := by unfold loP hiP; rw [if_neg h70n, if_neg h70n]; exact ⟨rfl, rfl⟩
          refine WC.skip ?_
          refine WQ.chunks (C' := [pt b17 [.int .i64 (loP la x i : Int), .int .i64 (y : Int)] 243, pt b18 [.int .i64 (hiP la x i : Int), .int .i64 (y : Int)] 243, pt b15 [Value.int .i64 ((atD lb y).1 : Int), .int .i64 ((atD lb y).2.1 : Int), .int .i64 ((atD lb y).2.2 : Int)] 104, pt b11 [Value.int .i64 (x : Int), .int .i64 (y : Int)] 243, mkr F1 bm l, mpg enc2 bs (fun q => (f q).map encI)]) (fun w hS => ?_) (WQ.byCut hQ ⟨rfl, rfl, rfl, rfl, rfl, rfl, rfl, rfl, rfl, rfl, trivial⟩)
          rw [e70.1, e70.2]
          first | exact ((St.pick (St.pick (St.pick (St.pick (St.pick (St.pick hS (c := mpg enc2 bs (fun q => (f q).map encI)) (by repeat (first | exact Rem.here | apply Rem.there))) (c := mkr F1 bm l) (by repeat (first | exact Rem.here | apply Rem.there))) (c := pt b11 [Value.int .i64 (x : Int), .int .i64 (y : Int)] 243) (by repeat (first | exact Rem.here | apply Rem.there))) (c := pt b15 [Value.int .i64 ((atD lb y).1 : Int), .int .i64 ((atD lb y).2.1 : Int), .int .i64 ((atD lb y).2.2 : Int)] 104) (by repeat (first | exact Rem.here | apply Rem.there))) (c := pt b18 [.int .i64 ((atD la x).2.2 : Int), .int .i64 (y : Int)] 243) (by repeat (first | exact Rem.here | apply Rem.there))) (c := pt b17 [.int .i64 ((atD la x).2.1 : Int), .int .i64 (y : Int)] 243) (by repeat (first | exact Rem.here | apply Rem.there)))).sublist (List.Sublist.cons_cons _ (List.Sublist.cons_cons _ (List.Sublist.cons_cons _ (List.Sublist.cons_cons _ (List.Sublist.cons_cons _ (List.Sublist.cons_cons _ (List.nil_sublist _))))))) | exact ((St.pick (St.pick (St.pick (St.pick (St.pick (St.pick hS (c := mpg enc2 bs (fun q => (f q).map encI)) (by repeat (first | exact Rem.here | apply Rem.there))) (c := mkr F1 bm l) (by repeat (first | exact Rem.here | apply Rem.there))) (c := pt b11 [Value.int .i64 (x : Int), .int .i64 (y : Int)] 243) (by repeat (first | exact Rem.here | apply Rem.there))) (c := pt b15 [Value.int .i64 ((atD lb y).1 : Int), .int .i64 ((atD lb y).2.1 : Int), .int .i64 ((atD lb y).2.2 : Int)] 104) (by repeat (first | exact Rem.here | apply Rem.there))) (c := pt b18 [.int .i64 (x : Int), .int .i64 (y : Int)] 243) (by repeat (first | exact Rem.here | apply Rem.there))) (c := pt b17 [.int .i64 (x : Int), .int .i64 (y : Int)] 243) (by repeat (first | exact Rem.here | apply Rem.there)))).sublist (List.Sublist.cons_cons _ (List.Sublist.cons_cons _ (List.Sublist.cons_cons _ (List.Sublist.cons_cons _ (List.Sublist.cons_cons _ (List.Sublist.cons_cons _ (List.nil_sublist _)))))))
      refine WQ.then_normal ?_
      refine WC.seq ?_
      refine WC.seq ?_
      refine WC.region ?_
      refine WL.step ?_
      refine WL.fieldAddr0 F.fld104_0 rfl rfl ?_
      refine WL.step ?_
      refine WL.loadP F.one3 rfl rfl (by repeat (first | exact List.Mem.head _ | apply List.Mem.tail)) rfl ?_
      refine WL.step ?_
      refine WL.move rfl rfl ?_
      refine WL.step ?_
      refine WL.eqI rfl rfl rfl ?_
      refine WL.nil ?_
      refine WQ.then_normal ?_
      refine WC.cutQ ([(0, pp bp), (3, Value.func (.func g) [].toArray [].toArray), (11, pp b11), (14, pp b14), (15, pp b15), (16, .int .i64 (i : Int)), (17, pp b17), (18, pp b18)]) ([pt b17 [.int .i64 (loP la x i : Int), .int .i64 (loP lb y i : Int)] 243, pt b18 [.int .i64 (hiP la x i : Int), .int .i64 (hiP lb y i : Int)] 243, pt b11 [Value.int .i64 (x : Int), .int .i64 (y : Int)] 243, mkr F1 bm l, mpg enc2 bs (fun q => (f q).map encI)]) (fun c a d v w h => by cases d <;> exact h) (fun Q' hP hQ => ?_) ?_
      · skip
        refine WC.cond rfl (fun h80 => ?_) (fun h80 => ?_)
        · skip
          have h80n : (atD lb y).1 = i := by simp at h80; omega
          have e80 : loP lb y i = (atD lb y).2.1 ∧ hiP lb y i = (atD lb y).2.2 := by unfold loP hiP; rw [if_pos h80n, if_pos h80n]; exact ⟨rfl, rfl⟩
          refine WC.drawsL (by kernel_rfl) (FactsOk.cons (ds := [5, 7]) (LoadOk.one (t := 15) (off := 1) rfl (by repeat (first | exact List.Mem.head _ | apply List.Mem.tail)) rfl) (FactsOk.cons (ds := [7]) (LoadOk.one (t := 15) (off := 2) rfl (by repeat (first | exact List.Mem.head _ | apply List.Mem.tail)) rfl) (FactsOk.nil))) ?_
          refine WD.take (i := 0) rfl rfl rfl rfl (by kernel_rfl) (by kernel_rfl) (by kernel_rfl) (fun _ _ _ h => hP _ _ _ _ _ h) (by kernel_rfl) need_none (Yl.fieldAddr0 F.fld104_1 rfl) ?_
          refine WD.take (i := 1) rfl rfl rfl rfl (by kernel_rfl) (by kernel_rfl) (by kernel_rfl) (fun _ _ _ h => hP _ _ _ _ _ h) (by kernel_rfl) (need_at 0 8 rfl (by kernel_rfl)) (Yl.load1 F.one3 rfl) ?_
          refine WD.take (i := 2) rfl rfl rfl rfl (by kernel_rfl) (by kernel_rfl) (by kernel_rfl) (fun _ _ _ h => hP _ _ _ _ _ h) (by kernel_rfl) need_none (Yl.fieldAddr0 F.fld104_2 rfl) ?_
          refine WD.take (i := 3) rfl rfl rfl rfl (by kernel_rfl) (by kernel_rfl) (by kernel_rfl) (fun _ _ _ h => hP _ _ _ _ _ h) (by kernel_rfl) (need_at 1 8 rfl (by kernel_rfl)) (Yl.load1 F.one3 rfl) ?_
          refine WD.take (i := 4) rfl rfl rfl rfl (by kernel_rfl) (by kernel_rfl) (by kernel_rfl) (fun _ _ _ h => hP _ _ _ _ _ h) (by kernel_rfl) need_none (Yl.indexAddrA (i := 1) F.arT243 rfl rfl (by decide)) ?_
          refine WD.one (i := 5) (by kernel_rfl) rfl ?_
          refine WL.store1 F.one3 rfl rfl rfl (by repeat (first | exact Upd.here | apply Upd.there)) (by repeat constructor) ?_
          refine WD.on (closed_of (by kernel_rfl)) (fun w hS => Sx.gone rfl (Sx.keep (hS.cell (by repeat (first | exact List.Mem.head _ | apply List.Mem.tail)) rfl) (Sx.none))) ?_
          refine WD.take (i := 6) rfl rfl rfl rfl (by kernel_rfl) (by kernel_rfl) (by kernel_rfl) (fun _ _ _ h => hP _ _ _ _ _ h) (by kernel_rfl) need_none (Yl.indexAddrA (i := 1) F.arT243 rfl rfl (by decide)) ?_
          refine WD.one (i := 7) (by kernel_rfl) rfl ?_
          refine WL.store1 F.one3 rfl rfl rfl (by repeat (first | exact Upd.here | apply Upd.there)) (by repeat constructor) ?_
          refine WD.on (closed_of (by kernel_rfl)) (fun w hS => Sx.gone rfl (Sx.gone rfl (Sx.none))) ?_
          refine WD.done (by kernel_rfl) ?_
          refine WQ.chunks (C' := [pt b17 [.int .i64 (loP la x i : Int), .int .i64 (loP lb y i : Int)] 243, pt b18 [.int .i64 (hiP la x i : Int), .int .i64 (hiP lb y i : Int)] 243, pt b11 [Value.int .i64 (x : Int), .int .i64 (y : Int)] 243, mkr F1 bm l, mpg enc2 bs (fun q => (f q).map encI)]) (fun w hS => ?_) (WQ.byCut hQ ⟨rfl, rfl, rfl, rfl, rfl, rfl, rfl, rfl, trivial⟩)
          rw [e80.1, e80.2]
          first | exact ((St.pick (St.pick (St.pick (St.pick (St.pick hS (c := mpg enc2 bs (fun q => (f q).map encI)) (by repeat (first | exact Rem.here | apply Rem.there))) (c := mkr F1 bm l) (by repeat (first | exact Rem.here | apply Rem.there))) (c := pt b11 [Value.int .i64 (x : Int), .int .i64 (y : Int)] 243) (by repeat (first | exact Rem.here | apply Rem.there))) (c := pt b18 [.int .i64 (hiP la x i : Int), .int .i64 ((atD lb y).2.2 : Int)] 243) (by repeat (first | exact Rem.here | apply Rem.there))) (c := pt b17 [.int .i64 (loP la x i : Int), .int .i64 ((atD lb y).2.1 : Int)] 243) (by repeat (first | exact Rem.here | apply Rem.there)))).sublist (List.Sublist.cons_cons _ (List.Sublist.cons_cons _ (List.Sublist.cons_cons _ (List.Sublist.cons_cons _ (List.Sublist.cons_cons _ (List.nil_sublist _)))))) | exact ((St.pick (St.pick (St.pick (St.pick (St.pick hS (c := mpg enc2 bs (fun q => (f q).map encI)) (by repeat (first | exact Rem.here | apply Rem.there))) (c := mkr F1 bm l) (by repeat (first | exact Rem.here | apply Rem.there))) (c := pt b11 [Value.int .i64 (x : Int), .int .i64 (y : Int)] 243) (by repeat (first | exact Rem.here | apply Rem.there))) (c := pt b18 [.int .i64 (hiP la x i : Int), .int .i64 (y : Int)] 243) (by repeat (first | exact Rem.here | apply Rem.there))) (c := pt b17 [.int .i64 (loP la x i : Int), .int .i64 (y : Int)] 243) (by repeat (first | exact Rem.here | apply Rem.there)))).sublist (List.Sublist.cons_cons _ (List.Sublist.cons_cons _ (List.Sublist.cons_cons _ (List.Sublist.cons_cons _ (List.Sublist.cons_cons _ (List.nil_sublist _))))))
        · skip
          have h80n : ¬ (atD lb y).1 = i := by simp at h80; omega
          have e80 : loP lb y i = y ∧ hiP lb y i = y := by unfold loP hiP; rw [if_neg h80n, if_neg h80n]; exact ⟨rfl, rfl⟩
          refine WC.skip ?_
          refine WQ.chunks (C' := [pt b17 [.int .i64 (loP la x i : Int), .int .i64 (loP lb y i : Int)] 243, pt b18 [.int .i64 (hiP la x i : Int), .int .i64 (hiP lb y i : Int)] 243, pt b11 [Value.int .i64 (x : Int), .int .i64 (y : Int)] 243, mkr F1 bm l, mpg enc2 bs (fun q => (f q).map encI)]) (fun w hS => ?_) (WQ.byCut hQ ⟨rfl, rfl, rfl, rfl, rfl, rfl, rfl, rfl, trivial⟩)
          rw [e80.1, e80.2]
          first | exact ((St.pick (St.pick (St.pick (St.pick (St.pick hS (c := mpg enc2 bs (fun q => (f q).map encI)) (by repeat (first | exact Rem.here | apply Rem.there))) (c := mkr F1 bm l) (by repeat (first | exact Rem.here | apply Rem.there))) (c := pt b11 [Value.int .i64 (x : Int), .int .i64 (y : Int)] 243) (by repeat (first | exact Rem.here | apply Rem.there))) (c := pt b18 [.int .i64 (hiP la x i : Int), .int .i64 ((atD lb y).2.2 : Int)] 243) (by repeat (first | exact Rem.here | apply Rem.there))) (c := pt b17 [.int .i64 (loP la x i : Int), .int .i64 ((atD lb y).2.1 : Int)] 243) (by repeat (first | exact Rem.here | apply Rem.there)))).sublist (List.Sublist.cons_cons _ (List.Sublist.cons_cons _ (List.Sublist.cons_cons _ (List.Sublist.cons_cons _ (List.Sublist.cons_cons _ (List.nil_sublist _)))))) | exact ((St.pick (St.pick (St.pick (St.pick (St.pick hS (c := mpg enc2 bs (fun q => (f q).map encI)) (by repeat (first | exact Rem.here | apply Rem.there))) (c := mkr F1 bm l) (by repeat (first | exact Rem.here | apply Rem.there))) (c := pt b11 [Value.int .i64 (x : Int), .int .i64 (y : Int)] 243) (by repeat (first | exact Rem.here | apply Rem.there))) (c := pt b18 [.int .i64 (hiP la x i : Int), .int .i64 (y : Int)] 243) (by repeat (first | exact Rem.here | apply Rem.there))) (c := pt b17 [.int .i64 (loP la x i : Int), .int .i64 (y : Int)] 243) (by repeat (first | exact Rem.here | apply Rem.there)))).sublist (List.Sublist.cons_cons _ (List.Sublist.cons_cons _ (List.Sublist.cons_cons _ (List.Sublist.cons_cons _ (List.Sublist.cons_cons _ (List.nil_sublist _))))))
      refine WQ.then_normal ?_
      refine WC.seq ?_
      refine WC.region ?_
      refine WL.step ?_
      refine WL.move rfl rfl ?_
      refine WL.step ?_
      refine WL.indexAddrA (i := 0) F.arT243 rfl rfl rfl (by decide) ?_
      refine WL.step ?_
      refine WL.loadP F.one3 rfl rfl (by repeat (first | exact List.Mem.head _ | apply List.Mem.tail)) rfl ?_
      refine WL.step ?_
      refine WL.indexAddrA (i := 1) F.arT243 rfl rfl rfl (by decide) ?_
      refine WL.step ?_
      refine WL.loadP F.one3 rfl rfl (by repeat (first | exact List.Mem.head _ | apply List.Mem.tail)) rfl ?_
      refine WL.step ?_
      refine WL.move rfl rfl ?_
      refine WA.chunks (C' := [jns (F1 ++ ([bs] ++ [])) bm bs l f, pt b17 [.int .i64 (loP la x i : Int), .int .i64 (loP lb y i : Int)] 243, pt b18 [.int .i64 (hiP la x i : Int), .int .i64 (hiP lb y i : Int)] 243, pt b11 [Value.int .i64 (x : Int), .int .i64 (y : Int)] 243]) (fun w hS => St.jnsClose (((St.pick (St.pick (St.pick (St.pick (St.pick hS (c := pt b11 [Value.int .i64 (x : Int), .int .i64 (y : Int)] 243) (by repeat (first | exact Rem.here | apply Rem.there))) (c := pt b18 [.int .i64 (hiP la x i : Int), .int .i64 (hiP lb y i : Int)] 243) (by repeat (first | exact Rem.here | apply Rem.there))) (c := pt b17 [.int .i64 (loP la x i : Int), .int .i64 (loP lb y i : Int)] 243) (by repeat (first | exact Rem.here | apply Rem.there))) (c := mpg enc2 bs (fun q => (f q).map encI)) (by repeat (first | exact Rem.here | apply Rem.there))) (c := mkr F1 bm l) (by repeat (first | exact Rem.here | apply Rem.there)))).sublist (List.Sublist.cons_cons _ (List.Sublist.cons_cons _ (List.Sublist.cons_cons _ (List.Sublist.cons_cons _ (List.Sublist.cons_cons _ (List.nil_sublist _)))))))) ?_
      refine WL.step ?_
      refine WL.callC (β := { z : JT // JPost bop la lb l (i + 1) (loP la x i) (loP lb y i) z }) (res := fun z => .int .i64 (z.1.2.2.2 : Int)) (cs := fun z => [jns z.1.1 bm bs z.1.2.1 z.1.2.2.1]) (Cs := [jns (F1 ++ ([bs] ++ [])) bm bs l f]) (C1 := [pt b17 [.int .i64 (loP la x i : Int), .int .i64 (loP lb y i : Int)] 243, pt b18 [.int .i64 (hiP la x i : Int), .int .i64 (hiP lb y i : Int)] 243, pt b11 [Value.int .i64 (x : Int), .int .i64 (y : Int)] 243]) (O' := (F1 ++ ([bs] ++ []))) F.fun163 (fun d h => by cases h; rfl) rfl (List.Perm.refl _) bun_O1 bun_O2 (fun w hS hS2 => hrec (i + 1) (by omega) (by omega) (F1 ++ ([bs] ++ [])) l f (loP la x i) (loP lb y i) w a1 c1 a3 c3 hm hsn (by omega) (hE.next hS) hS2) (fun ⟨z1, hz1⟩ => ?_)
      obtain ⟨G1, l1, f1, p1⟩ := z1
      obtain ⟨j1, j2, j3, j4, j5⟩ := hz1
      dsimp only at j1 j2 j3 j4 j5 ⊢
      refine WL.step ?_
      refine WL.assign rfl rfl ?_
      refine WL.nil ?_
      refine WQ.then_normal ?_
      refine WC.seq ?_
      refine WC.drawsL (by kernel_rfl) (FactsOk.cons (ds := [13]) (LoadOk.by (Y := fun w => w.cell? ⟨bp, 0, none⟩ = some (pp bm)) (fun w hS => hS.oldc (hE.ce 0 _ rfl) hE.ce')) (FactsOk.cons (ds := [12, 13]) (LoadOk.by (Y := fun w => w.cell? ⟨b18, 0 + 0 * 1, none⟩ = some (.int .i64 (hiP la x i : Int))) (fun w hS => hS.cell (cs := [.int .i64 (hiP la x i : Int), .int .i64 (hiP lb y i : Int)]) (by repeat (first | exact List.Mem.head _ | apply List.Mem.tail)) rfl)) (FactsOk.cons (ds := [12, 13]) (LoadOk.by (Y := fun w => w.cell? ⟨b18, 0 + 1 * 1, none⟩ = some (.int .i64 (hiP lb y i : Int))) (fun w hS => hS.cell (cs := [.int .i64 (hiP la x i : Int), .int .i64 (hiP lb y i : Int)]) (by repeat (first | exact List.Mem.head _ | apply List.Mem.tail)) rfl)) (FactsOk.nil)))) ?_
      refine WD.take (i := 0) rfl rfl rfl rfl (by kernel_rfl) (by kernel_rfl) (by kernel_rfl) (fun _ _ _ h => h) (by kernel_rfl) need_none (Yl.move rfl) ?_
      refine WD.take (i := 1) rfl rfl rfl rfl (by kernel_rfl) (by kernel_rfl) (by kernel_rfl) (fun _ _ _ h => h) (by kernel_rfl) need_none (Yl.nilCheck rfl) ?_
      refine WD.take (i := 2) rfl rfl rfl rfl (by kernel_rfl) (by kernel_rfl) (by kernel_rfl) (fun _ _ _ h => h) (by kernel_rfl) need_none (Yl.fieldAddr0 F.fld223_0 rfl) ?_
      refine WD.take (i := 3) rfl rfl rfl rfl (by kernel_rfl) (by kernel_rfl) (by kernel_rfl) (fun _ _ _ h => h) (by kernel_rfl) (need_at 0 15 rfl (by kernel_rfl)) (Yl.load1 F.one200 rfl) ?_
      refine WD.take (i := 4) rfl rfl rfl rfl (by kernel_rfl) (by kernel_rfl) (by kernel_rfl) (fun _ _ _ h => h) (by kernel_rfl) need_none (Yl.move rfl) ?_
      refine WD.take (i := 5) rfl rfl rfl rfl (by kernel_rfl) (by kernel_rfl) (by kernel_rfl) (fun _ _ _ h => h) (by kernel_rfl) need_none (Yl.move rfl) ?_
      refine WD.take (i := 6) rfl rfl rfl rfl (by kernel_rfl) (by kernel_rfl) (by kernel_rfl) (fun _ _ _ h => h) (by kernel_rfl) need_none (Yl.move rfl) ?_
      refine WD.take (i := 7) rfl rfl rfl rfl (by kernel_rfl) (by kernel_rfl) (by kernel_rfl) (fun _ _ _ h => h) (by kernel_rfl) need_none (Yl.indexAddrA (i := 0) F.arT243 rfl rfl (by decide)) ?_
      refine WD.take (i := 8) rfl rfl rfl rfl (by kernel_rfl) (by kernel_rfl) (by kernel_rfl) (fun _ _ _ h => h) (by kernel_rfl) (need_at 1 15 rfl (by kernel_rfl)) (Yl.load1 F.one3 rfl) ?_
      refine WD.take (i := 9) rfl rfl rfl rfl (by kernel_rfl) (by kernel_rfl) (by kernel_rfl) (fun _ _ _ h => h) (by kernel_rfl) need_none (Yl.indexAddrA (i := 1) F.arT243 rfl rfl (by decide)) ?_
      refine WD.take (i := 10) rfl rfl rfl rfl (by kernel_rfl) (by kernel_rfl) (by kernel_rfl) (fun _ _ _ h => h) (by kernel_rfl) (need_at 2 15 rfl (by kernel_rfl)) (Yl.load1 F.one3 rfl) ?_
      refine WD.take (i := 11) rfl rfl rfl rfl (by kernel_rfl) (by kernel_rfl) (by kernel_rfl) (fun _ _ _ h => h) (by kernel_rfl) need_none (Yl.move rfl) ?_
      refine WD.one (i := 12) (by kernel_rfl) rfl ?_
      refine WL.callC (β := { z : JT // JPost bop la lb l1 (i + 1) (hiP la x i) (hiP lb y i) z }) (res := fun z => .int .i64 (z.1.2.2.2 : Int)) (cs := fun z => [jns z.1.1 bm bs z.1.2.1 z.1.2.2.1]) (Cs := [jns G1 bm bs l1 f1]) (C1 := [pt b17 [.int .i64 (loP la x i : Int), .int .i64 (loP lb y i : Int)] 243, pt b18 [.int .i64 (hiP la x i : Int), .int .i64 (hiP lb y i : Int)] 243, pt b11 [Value.int .i64 (x : Int), .int .i64 (y : Int)] 243]) (O' := G1) F.fun163 (fun d h => by cases h; rfl) rfl (List.Perm.refl _) bun_O1 bun_O2 (fun w hS hS2 => hrec (i + 1) (by omega) (by omega) G1 l1 f1 (hiP la x i) (hiP lb y i) w a2 c2 a4 c4 j1 j5 (by omega) (hE.next hS) hS2) (fun ⟨z2, hz2⟩ => ?_)
      refine WD.on (closed_of (by kernel_rfl)) (fun w hS => Sx.keep (hS.oldc (hE.ce 0 _ rfl) hE.ce') (Sx.gone rfl (Sx.gone rfl (Sx.none)))) ?_
      obtain ⟨G2, l2, f2, p2⟩ := z2
      obtain ⟨k1, k2, k3, k4, k5⟩ := hz2
      dsimp only at k1 k2 k3 k4 k5 ⊢
      refine WD.one (i := 13) (by kernel_rfl) rfl ?_
      refine WA.openB (fun G3 _ _ _ => ?_)
      simp only [jnCs, List.cons_append, List.nil_append]
      refine WL.callC (β := { z : List Nat × List Dec × Nat // MadeN l2 z.2.1 z.2.2 (mkN i (trs l2 p1) (trs l2 p2)) ∧ z.2.1.length ≤ l2.length + 1 }) (res := fun z => .int .i64 (z.1.2.2 : Int)) (cs := fun z => [mkr z.1.1 bm z.1.2.1]) (Cs := [mkr G3 bm l2]) (C1 := [mpg enc2 bs (fun q => (f2 q).map encI), pt b17 [.int .i64 (loP la x i : Int), .int .i64 (loP lb y i : Int)] 243, pt b18 [.int .i64 (hiP la x i : Int), .int .i64 (hiP lb y i : Int)] 243, pt b11 [Value.int .i64 (x : Int), .int .i64 (y : Int)] 243]) (O' := G3) F.fun149 (fun d h => by cases h; rfl) rfl (List.Perm.refl _) bun_O1 bun_O2 (fun w hS hS2 => mnode_c G3 bm l2 i p1 p2 w hi24 k1 (j4.ext k2).lt k4.lt (by omega) hS2) (fun ⟨z3, hz3, hz3l⟩ => ?_)
      refine WD.on (closed_of (by kernel_rfl)) (fun w hS => Sx.gone rfl (Sx.gone rfl (Sx.gone rfl (Sx.none)))) ?_
      obtain ⟨G4, l3, r3⟩ := z3
      dsimp only at hz3 hz3l ⊢
      refine WD.take (i := 14) rfl rfl rfl rfl (by kernel_rfl) (by kernel_rfl) (by kernel_rfl) (fun _ _ _ h => h) (by kernel_rfl) need_none (Yl.assign rfl) ?_
      refine WD.done (by kernel_rfl) ?_
      refine WQ.then_normal ?_
      refine WC.seq ?_
      refine WC.drawsL (by kernel_rfl) (FactsOk.cons (ds := [6]) (LoadOk.by (Y := fun w => w.cell? ⟨bp, 5, none⟩ = some (.map (some bs))) (fun w hS => hS.oldc (hE.ce 5 _ rfl) hE.ce')) (FactsOk.cons (ds := [6]) (LoadOk.whole (t := 11) rfl (by repeat (first | exact List.Mem.head _ | apply List.Mem.tail))) (FactsOk.nil))) ?_
      refine WD.take (i := 0) rfl rfl rfl rfl (by kernel_rfl) (by kernel_rfl) (by kernel_rfl) (fun _ _ _ h => h) (by kernel_rfl) need_none (Yl.move rfl) ?_
      refine WD.take (i := 1) rfl rfl rfl rfl (by kernel_rfl) (by kernel_rfl) (by kernel_rfl) (fun _ _ _ h => h) (by kernel_rfl) need_none (Yl.nilCheck rfl) ?_
      refine WD.take (i := 2) rfl rfl rfl rfl (by kernel_rfl) (by kernel_rfl) (by kernel_rfl) (fun _ _ _ h => h) (by kernel_rfl) need_none (Yl.fieldAddr0 F.fld223_3 rfl) ?_
      refine WD.take (i := 3) rfl rfl rfl rfl (by kernel_rfl) (by kernel_rfl) (by kernel_rfl) (fun _ _ _ h => h) (by kernel_rfl) (need_at 0 7 rfl (by kernel_rfl)) (Yl.load1 F.one221 rfl) ?_
      refine WD.take (i := 4) rfl rfl rfl rfl (by kernel_rfl) (by kernel_rfl) (by kernel_rfl) (fun _ _ _ h => h) (by kernel_rfl) (need_at 1 7 rfl (by kernel_rfl)) (Yl.loadN F.agg243 rfl rfl) ?_
      refine WD.take (i := 5) rfl rfl rfl rfl (by kernel_rfl) (by kernel_rfl) (by kernel_rfl) (fun _ _ _ h => h) (by kernel_rfl) need_none (Yl.move rfl) ?_
      refine WD.one (i := 6) (by kernel_rfl) rfl ?_
      refine WL.mapPutG (f := fun q => (f2 q).map encI) (x, y) undMP keyPair rfl rfl rfl rfl (by repeat (first | exact Upd.here | apply Upd.there)) ?_
      refine WD.on (closed_of (by kernel_rfl)) (fun w hS => Sx.gone rfl (Sx.gone rfl (Sx.none))) ?_
      refine WD.done (by kernel_rfl) ?_
      refine WQ.then_normal ?_
      refine WC.seq ?_
      refine WC.region ?_
      refine WL.step ?_
      refine WL.move rfl rfl ?_
      refine WL.step ?_
      refine WL.assign rfl rfl ?_
      refine WL.nil ?_
      refine WQ.then_normal ?_
      refine WC.ret ?_
      have hjr := JR.node ha hb hx hy hox hoy hi hi24 j4 k4 k2 hz3
      have hpre : ∃ t, l3 = l ++ t := by (obtain ⟨t1, e1⟩ := j2; obtain ⟨t2, e2⟩ := k2; obtain ⟨t3, e3⟩ := hz3.pre; exact ⟨t1 ++ t2 ++ t3, by rw [e3, e2, e1]; simp⟩)
      refine WQ.ret (rs := [.tmp 8]) rfl (.tmp rfl .nil) (fun w hS => ⟨⟨(G4 ++ ([bs] ++ []), l3, fun q => if q = (x, y) then some r3 else f2 q, r3), ⟨hz3.ismk, hpre, by dsimp only; omega, hjr, (k5.ext hz3.pre).put hjr⟩⟩, rfl, ?_⟩)
      refine St.jnsClose (F1 := G4) ?_
      rw [← pair_map (z := (r3 : Int)) rfl]
      exact ((St.pick (St.pick hS (c := mpg enc2 bs (fun q => if q = (x, y) then some (.int .i64 (r3 : Int)) else (f2 q).map encI)) (by repeat (first | exact Rem.here | apply Rem.there))) (c := mkr G4 bm l3) (by repeat (first | exact Rem.here | apply Rem.there)))).sublist (List.Sublist.cons_cons _ (List.Sublist.cons_cons _ (List.nil_sublist _)))
    · skip
      refine WC.drawsL (by kernel_rfl) (FactsOk.cons (ds := []) (LoadOk.by (Y := fun w => w.cell? ⟨bp, 5, none⟩ = some (.map (some bs))) (fun w hS => hS.oldc (hE.ce 5 _ rfl) hE.ce')) (FactsOk.cons (ds := []) (LoadOk.whole (t := 11) rfl (by repeat (first | exact List.Mem.head _ | apply List.Mem.tail))) (FactsOk.cons (ds := []) (LoadOk.by (Y := fun w => (mpg enc2 bs (fun q => (f q).map encI)).ok w) (fun w hS => hS.ok _ (by repeat (first | exact List.Mem.head _ | apply List.Mem.tail)))) (FactsOk.nil)))) ?_
      refine WD.take (i := 0) rfl rfl rfl rfl (by kernel_rfl) (by kernel_rfl) (by kernel_rfl) (fun _ _ _ h => h) (by kernel_rfl) need_none (Yl.move rfl) ?_
      refine WD.take (i := 1) rfl rfl rfl rfl (by kernel_rfl) (by kernel_rfl) (by kernel_rfl) (fun _ _ _ h => h) (by kernel_rfl) need_none (Yl.nilCheck rfl) ?_
      refine WD.take (i := 2) rfl rfl rfl rfl (by kernel_rfl) (by kernel_rfl) (by kernel_rfl) (fun _ _ _ h => h) (by kernel_rfl) need_none (Yl.fieldAddr0 F.fld223_3 rfl) ?_
      refine WD.take (i := 3) rfl rfl rfl rfl (by kernel_rfl) (by kernel_rfl) (by kernel_rfl) (fun _ _ _ h => h) (by kernel_rfl) (need_at 0 11 rfl (by kernel_rfl)) (Yl.load1 F.one221 rfl) ?_
      refine WD.take (i := 4) rfl rfl rfl rfl (by kernel_rfl) (by kernel_rfl) (by kernel_rfl) (fun _ _ _ h => h) (by kernel_rfl) (need_at 1 11 rfl (by kernel_rfl)) (Yl.loadN F.agg243 rfl rfl) ?_
      refine WD.take (i := 5) rfl rfl rfl rfl (by kernel_rfl) (by kernel_rfl) (by kernel_rfl) (fun _ _ _ h => h) (by kernel_rfl) (need_at 2 11 rfl (by kernel_rfl)) (Yl.lookupHit (f := fun q => (f q).map encI) (v := encI r) (x, y) undMP keyPair zeroInt rfl rfl rfl (by rw [hf]; rfl)) ?_
      refine WD.take (i := 6) rfl rfl rfl rfl (by kernel_rfl) (by kernel_rfl) (by kernel_rfl) (fun _ _ _ h => h) (by kernel_rfl) need_none (Yl.move rfl) ?_
      refine WD.take (i := 7) rfl rfl rfl rfl (by kernel_rfl) (by kernel_rfl) (by kernel_rfl) (fun _ _ _ h => h) (by kernel_rfl) need_none (Yl.extract rfl rfl) ?_
      refine WD.take (i := 8) rfl rfl rfl rfl (by kernel_rfl) (by kernel_rfl) (by kernel_rfl) (fun _ _ _ h => h) (by kernel_rfl) need_none (Yl.extract rfl rfl) ?_
      refine WD.take (i := 9) rfl rfl rfl rfl (by kernel_rfl) (by kernel_rfl) (by kernel_rfl) (fun _ _ _ h => h) (by kernel_rfl) need_none (Yl.assign rfl) ?_
      refine WD.take (i := 10) rfl rfl rfl rfl (by kernel_rfl) (by kernel_rfl) (by kernel_rfl) (fun _ _ _ h => h) (by kernel_rfl) need_none (Yl.assign rfl) ?_
      refine WD.done (by kernel_rfl) ?_
      refine WQ.then_normal ?_
      refine WC.seq ?_
      refine WC.region ?_
      refine WL.step ?_
      refine WL.move rfl rfl ?_
      refine WL.nil ?_
      refine WQ.then_normal ?_
      refine WC.condT rfl ?_
      refine WC.seq ?_
      refine WC.region ?_
      refine WL.step ?_
      refine WL.move rfl rfl ?_
      refine WL.step ?_
      refine WL.assign rfl rfl ?_
      refine WL.nil ?_
      refine WQ.then_normal ?_
      refine WC.ret ?_
      refine WQ.then_ret ?_
      refine WQ.ret (rs := [.tmp 8]) rfl (.tmp rfl .nil) (fun w hS => ⟨⟨(_, l, f, r), ⟨hm, ⟨[], by simp⟩, hpow, hsn x y r hf, hsn⟩⟩, rfl, St.jnsClose (((St.pick (St.pick hS (c := mpg enc2 bs (fun q => (f q).map encI)) (by repeat (first | exact Rem.here | apply Rem.there))) (c := mkr F1 bm l) (by repeat (first | exact Rem.here | apply Rem.there)))).sublist (List.Sublist.cons_cons _ (List.Sublist.cons_cons _ (List.nil_sublist _))))⟩)

end Go.Proofs.YtkgllhkhdjodeaaGreat

/-
 What an operation on diagrams yields.
-/
namespace Go.Proofs.YtkgllhkhdjodeaaGreat
open Go Go.Eng Go.Proofs Dg
/-- A diagram of the function f, made anew. -/
abbrev DRes (f : Cf → Bool) : Type := { z : BT × Option Addr × Nat // z.1.ok 0 ∧ ∀ c, z.1.ev c = f c }
abbrev DRes.v {f : Cf → Bool} (z : DRes f) : Value := dval z.1.1 z.1.2.1 z.1.2.2
abbrev DRes.ch {f : Cf → Bool} (z : DRes f) : Chunk := dC z.1.2.1 z.1.2.2 z.1.1
def DPost (f : Cf → Bool) (w : World) (e : Ending) (w' : World) : Prop := ∃ z : DRes f, e = .returned z.v ∧ St w [] [z.ch] w'
theorem DRes.rd {f : Cf → Bool} (z : DRes f) {w0 w : World} {O : List Nat} {C : List Chunk} (hS : St w0 O C w) (hm : z.ch ∈ C) : RdD w z.1.1 z.1.2.1 := RdD.of_row z.2.1 (hS.ok _ hm)
theorem jenv_of {w0 w : World} {C : List Chunk} {F : List Nat} {bp bm bs ca cb ra rb : Nat} {la lb l : List Dec} {aa ab : Option Addr} {f : Nat × Nat → Option Nat} {e : TypeId}
  (hS : St w0 [] (jns F bm bs l f :: pt bp [pp bm, .slice aa la.length ca, .int .i64 (ra : Int), .slice ab lb.length cb, .int .i64 (rb : Int), .map (some bs)] e :: C) w) (hra : RdDec w0 la aa) (hrb : RdDec w0 lb ab) : JEnv w F bp bm bs la lb aa ab ca cb ra rb := by
 have hd := (List.pairwise_cons.1 hS.disj).1
 have hnew : ∀ b, b < w0.heap.size → b ∉ F := fun b hb hF => by
  have := (hS.bnd _ (List.mem_cons_self ..) b hF).2 hb
  simp at this
 refine ⟨fun j v hv => hS.cell (List.mem_cons_of_mem _ (List.mem_cons_self ..)) hv, fun hF => hd _ (List.mem_cons_self ..) bp hF rfl, fun j u hu => ?_, fun j u hu => ?_⟩
 ·obtain ⟨b, off, e1, e2⟩ := hra j u hu
  exact ⟨b, off, e1, hS.oldc e2 (by simp), hnew b (World.block_lt_of_cell? w0 _ e2)⟩
 ·obtain ⟨b, off, e1, e2⟩ := hrb j u hu
  exact ⟨b, off, e1, hS.oldc e2 (by simp), hnew b (World.block_lt_of_cell? w0 _ e2)⟩
end Go.Proofs.YtkgllhkhdjodeaaGreat

namespace Go.Proofs.YtkgllhkhdjodeaaGreat
open Go Go.Eng Go.Proofs Dg
theorem dwith_c (g : Nat) (bop : Bool → Bool → Bool) (opf : Nat → Nat → Nat × Bool) (hop : OpOk g bop opf) (s t : BT) (aa ab : Option Addr) (ca cb : Nat) (w : World) (hs : RdD w s aa) (ht : RdD w t ab) :
    Calls Tryz.prog 129 [dval s aa ca, dval t ab cb, Value.func (.func g) [].toArray [].toArray].toArray w (DPost (fun c => bop (s.ev c) (t.ev c)) w) := by
  refine enter Tryz.func129 rfl Tryz.ntmps129 rfl (St.init _) ?_
  refine WC.seq ?_
  refine WC.region ?_
  refine WL.step ?_
  refine WL.boxN rfl rfl (fun b3 => ?_)
  refine WL.step ?_
  refine WL.boxN rfl rfl (fun b4 => ?_)
  refine WL.step ?_
  refine WL.alloc F.zero35 rfl (fun b6 => ?_)
  refine WL.nil ?_
  refine WQ.then_normal ?_
  refine WC.seq ?_
  refine WC.cutPE (α := Nat × Nat × Nat × List Nat) (fun x => [(7, pp x.1), (2, Value.func (.func g) [].toArray [].toArray), (3, pp b3), (4, pp b4), (6, pp b6)]) (fun x => [pt x.1 [pp x.2.1, .slice aa (canon s).1.length ca, .int .i64 ((canon s).2 : Int), .slice ab (canon t).1.length cb, .int .i64 ((canon t).2 : Int), .map (some x.2.2.1)] 223, mkr x.2.2.2 x.2.1 [], mpg enc2 x.2.2.1 (fun _ => none), pt b3 [.slice aa (canon s).1.length ca, .int .i64 ((canon s).2 : Int)] 35, pt b4 [.slice ab (canon t).1.length cb, .int .i64 ((canon t).2 : Int)] 35, pt b6 [.slice none 0 0, .int .i64 0] 35]) (fun c a d v w h => by cases d <;> exact h) (fun Q' hP hQ => ?_) (fun xE => ?_)
  · skip
    refine WC.drawsL (by kernel_rfl) (FactsOk.cons (ds := [5]) (LoadOk.whole (t := 3) rfl (by repeat (first | exact List.Mem.head _ | apply List.Mem.tail))) (FactsOk.cons (ds := [5]) (LoadOk.whole (t := 4) rfl (by repeat (first | exact List.Mem.head _ | apply List.Mem.tail))) (FactsOk.nil))) ?_
    refine WD.take (i := 1) rfl rfl rfl rfl (by kernel_rfl) (by kernel_rfl) (by kernel_rfl) (fun _ _ _ h => hP _ _ _ _ _ h) (by kernel_rfl) (need_at 0 7 rfl (by kernel_rfl)) (Yl.loadN F.agg35 rfl rfl) ?_
    refine WD.take (i := 2) rfl rfl rfl rfl (by kernel_rfl) (by kernel_rfl) (by kernel_rfl) (fun _ _ _ h => hP _ _ _ _ _ h) (by kernel_rfl) (need_at 1 7 rfl (by kernel_rfl)) (Yl.loadN F.agg35 rfl rfl) ?_
    refine WD.two (i := 0) (j := 3) (by kernel_rfl) rfl rfl ?_ ?_
    · skip
      refine WL.call0 (β := List Nat × Nat) (res := fun x => .returned (pp x.2)) (cs := fun x => [mkr x.1 x.2 []]) (ψ := fun _ => True) F.fun147 (fun d h => by cases h; rfl) rfl (fun w hS => (newMaker_c w).mono (fun e w2 ⟨x, h1, h2⟩ => ⟨x, trivial, h1, h2⟩)) (fun x8 _ => ?_)
      refine WD.on (closed_of (by kernel_rfl)) (fun w hS => Sx.keep ((fun j v hv => by rw [Nat.zero_add]; exact hS.cell (by repeat (first | exact List.Mem.head _ | apply List.Mem.tail)) hv)) (Sx.keep ((fun j v hv => by rw [Nat.zero_add]; exact hS.cell (by repeat (first | exact List.Mem.head _ | apply List.Mem.tail)) hv)) (Sx.none))) ?_
      refine WD.one (i := 3) (by kernel_rfl) rfl ?_
      refine WL.makeMapG enc2 rfl (fun b11 => ?_)
      refine WD.on (closed_of (by kernel_rfl)) (fun w hS => Sx.keep ((fun j v hv => by rw [Nat.zero_add]; exact hS.cell (by repeat (first | exact List.Mem.head _ | apply List.Mem.tail)) hv)) (Sx.keep ((fun j v hv => by rw [Nat.zero_add]; exact hS.cell (by repeat (first | exact List.Mem.head _ | apply List.Mem.tail)) hv)) (Sx.none))) ?_
      refine WD.take (i := 4) rfl rfl rfl rfl (by kernel_rfl) (by kernel_rfl) (by kernel_rfl) (fun _ _ _ h => hP _ _ _ _ _ h) (by kernel_rfl) need_none (Yl.build F.stT223 rfl (by repeat (first | exact Built.nil | apply Built.one rfl rfl (by repeat constructor) | apply Built.agg rfl rfl (by repeat constructor)))) ?_
      refine WD.one (i := 5) (by kernel_rfl) rfl ?_
      refine WL.boxN rfl rfl (fun b13 => ?_)
      refine WD.on (closed_of (by kernel_rfl)) (fun w hS => Sx.gone rfl (Sx.gone rfl (Sx.none))) ?_
      refine WD.take (i := 6) rfl rfl rfl rfl (by kernel_rfl) (by kernel_rfl) (by kernel_rfl) (fun _ _ _ h => hP _ _ _ _ _ h) (by kernel_rfl) need_none (Yl.assign rfl) ?_
      refine WD.done (by kernel_rfl) ?_
      refine WQ.chunks (C' := [pt b13 [pp x8.2, .slice aa (canon s).1.length ca, .int .i64 ((canon s).2 : Int), .slice ab (canon t).1.length cb, .int .i64 ((canon t).2 : Int), .map (some b11)] 223, mkr x8.1 x8.2 [], mpg enc2 b11 (fun _ => none), pt b3 [.slice aa (canon s).1.length ca, .int .i64 ((canon s).2 : Int)] 35, pt b4 [.slice ab (canon t).1.length cb, .int .i64 ((canon t).2 : Int)] 35, pt b6 [.slice none 0 0, .int .i64 0] 35]) (fun w hS => ((St.pick (St.pick (St.pick (St.pick (St.pick (St.pick hS (c := pt b6 [.slice none 0 0, .int .i64 0] 35) (by repeat (first | exact Rem.here | apply Rem.there))) (c := pt b4 [.slice ab (canon t).1.length cb, .int .i64 ((canon t).2 : Int)] 35) (by repeat (first | exact Rem.here | apply Rem.there))) (c := pt b3 [.slice aa (canon s).1.length ca, .int .i64 ((canon s).2 : Int)] 35) (by repeat (first | exact Rem.here | apply Rem.there))) (c := mpg enc2 b11 (fun _ => none)) (by repeat (first | exact Rem.here | apply Rem.there))) (c := mkr x8.1 x8.2 []) (by repeat (first | exact Rem.here | apply Rem.there))) (c := pt b13 [pp x8.2, .slice aa (canon s).1.length ca, .int .i64 ((canon s).2 : Int), .slice ab (canon t).1.length cb, .int .i64 ((canon t).2 : Int), .map (some b11)] 223) (by repeat (first | exact Rem.here | apply Rem.there)))).sublist (List.Sublist.cons_cons _ (List.Sublist.cons_cons _ (List.Sublist.cons_cons _ (List.Sublist.cons_cons _ (List.Sublist.cons_cons _ (List.Sublist.cons_cons _ (List.nil_sublist _)))))))) ?_
      exact WQ.byCut (hQ (b13, x8.2, b11, x8.1)) ⟨rfl, rfl, rfl, rfl, rfl, trivial⟩
    · skip
      refine WL.makeMapG enc2 rfl (fun b11 => ?_)
      refine WD.on (closed_of (by kernel_rfl)) (fun w hS => Sx.keep ((fun j v hv => by rw [Nat.zero_add]; exact hS.cell (by repeat (first | exact List.Mem.head _ | apply List.Mem.tail)) hv)) (Sx.keep ((fun j v hv => by rw [Nat.zero_add]; exact hS.cell (by repeat (first | exact List.Mem.head _ | apply List.Mem.tail)) hv)) (Sx.none))) ?_
      refine WD.one (i := 0) (by kernel_rfl) rfl ?_
      refine WL.call0 (β := List Nat × Nat) (res := fun x => .returned (pp x.2)) (cs := fun x => [mkr x.1 x.2 []]) (ψ := fun _ => True) F.fun147 (fun d h => by cases h; rfl) rfl (fun w hS => (newMaker_c w).mono (fun e w2 ⟨x, h1, h2⟩ => ⟨x, trivial, h1, h2⟩)) (fun x8 _ => ?_)
      refine WD.on (closed_of (by kernel_rfl)) (fun w hS => Sx.keep ((fun j v hv => by rw [Nat.zero_add]; exact hS.cell (by repeat (first | exact List.Mem.head _ | apply List.Mem.tail)) hv)) (Sx.keep ((fun j v hv => by rw [Nat.zero_add]; exact hS.cell (by repeat (first | exact List.Mem.head _ | apply List.Mem.tail)) hv)) (Sx.none))) ?_
      refine WD.take (i := 4) rfl rfl rfl rfl (by kernel_rfl) (by kernel_rfl) (by kernel_rfl) (fun _ _ _ h => hP _ _ _ _ _ h) (by kernel_rfl) need_none (Yl.build F.stT223 rfl (by repeat (first | exact Built.nil | apply Built.one rfl rfl (by repeat constructor) | apply Built.agg rfl rfl (by repeat constructor)))) ?_
      refine WD.one (i := 5) (by kernel_rfl) rfl ?_
      refine WL.boxN rfl rfl (fun b13 => ?_)
      refine WD.on (closed_of (by kernel_rfl)) (fun w hS => Sx.gone rfl (Sx.gone rfl (Sx.none))) ?_
      refine WD.take (i := 6) rfl rfl rfl rfl (by kernel_rfl) (by kernel_rfl) (by kernel_rfl) (fun _ _ _ h => hP _ _ _ _ _ h) (by kernel_rfl) need_none (Yl.assign rfl) ?_
      refine WD.done (by kernel_rfl) ?_
      refine WQ.chunks (C' := [pt b13 [pp x8.2, .slice aa (canon s).1.length ca, .int .i64 ((canon s).2 : Int), .slice ab (canon t).1.length cb, .int .i64 ((canon t).2 : Int), .map (some b11)] 223, mkr x8.1 x8.2 [], mpg enc2 b11 (fun _ => none), pt b3 [.slice aa (canon s).1.length ca, .int .i64 ((canon s).2 : Int)] 35, pt b4 [.slice ab (canon t).1.length cb, .int .i64 ((canon t).2 : Int)] 35, pt b6 [.slice none 0 0, .int .i64 0] 35]) (fun w hS => ((St.pick (St.pick (St.pick (St.pick (St.pick (St.pick hS (c := pt b6 [.slice none 0 0, .int .i64 0] 35) (by repeat (first | exact Rem.here | apply Rem.there))) (c := pt b4 [.slice ab (canon t).1.length cb, .int .i64 ((canon t).2 : Int)] 35) (by repeat (first | exact Rem.here | apply Rem.there))) (c := pt b3 [.slice aa (canon s).1.length ca, .int .i64 ((canon s).2 : Int)] 35) (by repeat (first | exact Rem.here | apply Rem.there))) (c := mpg enc2 b11 (fun _ => none)) (by repeat (first | exact Rem.here | apply Rem.there))) (c := mkr x8.1 x8.2 []) (by repeat (first | exact Rem.here | apply Rem.there))) (c := pt b13 [pp x8.2, .slice aa (canon s).1.length ca, .int .i64 ((canon s).2 : Int), .slice ab (canon t).1.length cb, .int .i64 ((canon t).2 : Int), .map (some b11)] 223) (by repeat (first | exact Rem.here | apply Rem.there)))).sublist (List.Sublist.cons_cons _ (List.Sublist.cons_cons _ (List.Sublist.cons_cons _ (List.Sublist.cons_cons _ (List.Sublist.cons_cons _ (List.Sublist.cons_cons _ (List.nil_sublist _)))))))) ?_
      exact WQ.byCut (hQ (b13, x8.2, b11, x8.1)) ⟨rfl, rfl, rfl, rfl, rfl, trivial⟩
  obtain ⟨bp, bm, bs, F1⟩ := xE
  show WQ _ _ _ _ _ _ [(7, pp bp), (2, Value.func (.func g) [].toArray [].toArray), (3, pp b3), (4, pp b4), (6, pp b6)] [pt bp [pp bm, .slice aa (canon s).1.length ca, .int .i64 ((canon s).2 : Int), .slice ab (canon t).1.length cb, .int .i64 ((canon t).2 : Int), .map (some bs)] 223, mkr F1 bm [], mpg enc2 bs (fun _ => none), pt b3 [.slice aa (canon s).1.length ca, .int .i64 ((canon s).2 : Int)] 35, pt b4 [.slice ab (canon t).1.length cb, .int .i64 ((canon t).2 : Int)] 35, pt b6 [.slice none 0 0, .int .i64 0] 35]
  refine WQ.then_normal ?_
  refine WC.seq ?_
  refine WC.chunks (C' := [jns (F1 ++ ([bs] ++ [])) bm bs [] (fun _ => none), pt bp [pp bm, .slice aa (canon s).1.length ca, .int .i64 ((canon s).2 : Int), .slice ab (canon t).1.length cb, .int .i64 ((canon t).2 : Int), .map (some bs)] 223, pt b3 [.slice aa (canon s).1.length ca, .int .i64 ((canon s).2 : Int)] 35, pt b4 [.slice ab (canon t).1.length cb, .int .i64 ((canon t).2 : Int)] 35, pt b6 [.slice none 0 0, .int .i64 0] 35]) (fun w hS => St.jnsClose (f := fun _ => none) (((St.pick (St.pick (St.pick (St.pick (St.pick (St.pick hS (c := pt b6 [.slice none 0 0, .int .i64 0] 35) (by repeat (first | exact Rem.here | apply Rem.there))) (c := pt b4 [.slice ab (canon t).1.length cb, .int .i64 ((canon t).2 : Int)] 35) (by repeat (first | exact Rem.here | apply Rem.there))) (c := pt b3 [.slice aa (canon s).1.length ca, .int .i64 ((canon s).2 : Int)] 35) (by repeat (first | exact Rem.here | apply Rem.there))) (c := pt bp [pp bm, .slice aa (canon s).1.length ca, .int .i64 ((canon s).2 : Int), .slice ab (canon t).1.length cb, .int .i64 ((canon t).2 : Int), .map (some bs)] 223) (by repeat (first | exact Rem.here | apply Rem.there))) (c := mpg enc2 bs (fun _ => none)) (by repeat (first | exact Rem.here | apply Rem.there))) (c := mkr F1 bm []) (by repeat (first | exact Rem.here | apply Rem.there)))).sublist (List.Sublist.cons_cons _ (List.Sublist.cons_cons _ (List.Sublist.cons_cons _ (List.Sublist.cons_cons _ (List.Sublist.cons_cons _ (List.Sublist.cons_cons _ (List.nil_sublist _))))))))) ?_
  · skip
    refine WC.drawsL (by kernel_rfl) (FactsOk.cons (ds := [11, 12]) (LoadOk.one (t := 7) (off := 0) rfl (by repeat (first | exact List.Mem.head _ | apply List.Mem.tail)) rfl) (FactsOk.cons (ds := [10, 11, 12]) (LoadOk.one (t := 3) (off := 1) rfl (by repeat (first | exact List.Mem.head _ | apply List.Mem.tail)) rfl) (FactsOk.cons (ds := [10, 11, 12]) (LoadOk.one (t := 4) (off := 1) rfl (by repeat (first | exact List.Mem.head _ | apply List.Mem.tail)) rfl) (FactsOk.nil)))) ?_
    refine WD.take (i := 0) rfl rfl rfl rfl (by kernel_rfl) (by kernel_rfl) (by kernel_rfl) (fun _ _ _ h => h) (by kernel_rfl) need_none (Yl.move rfl) ?_
    refine WD.take (i := 1) rfl rfl rfl rfl (by kernel_rfl) (by kernel_rfl) (by kernel_rfl) (fun _ _ _ h => h) (by kernel_rfl) need_none (Yl.nilCheck rfl) ?_
    refine WD.take (i := 2) rfl rfl rfl rfl (by kernel_rfl) (by kernel_rfl) (by kernel_rfl) (fun _ _ _ h => h) (by kernel_rfl) need_none (Yl.fieldAddr0 F.fld223_0 rfl) ?_
    refine WD.take (i := 3) rfl rfl rfl rfl (by kernel_rfl) (by kernel_rfl) (by kernel_rfl) (fun _ _ _ h => h) (by kernel_rfl) (need_at 0 13 rfl (by kernel_rfl)) (Yl.load1 F.one200 rfl) ?_
    refine WD.take (i := 4) rfl rfl rfl rfl (by kernel_rfl) (by kernel_rfl) (by kernel_rfl) (fun _ _ _ h => h) (by kernel_rfl) need_none (Yl.move rfl) ?_
    refine WD.take (i := 5) rfl rfl rfl rfl (by kernel_rfl) (by kernel_rfl) (by kernel_rfl) (fun _ _ _ h => h) (by kernel_rfl) need_none (Yl.fieldAddr0 F.fld35_1 rfl) ?_
    refine WD.take (i := 6) rfl rfl rfl rfl (by kernel_rfl) (by kernel_rfl) (by kernel_rfl) (fun _ _ _ h => h) (by kernel_rfl) (need_at 1 13 rfl (by kernel_rfl)) (Yl.load1 F.one3 rfl) ?_
    refine WD.take (i := 7) rfl rfl rfl rfl (by kernel_rfl) (by kernel_rfl) (by kernel_rfl) (fun _ _ _ h => h) (by kernel_rfl) need_none (Yl.fieldAddr0 F.fld35_1 rfl) ?_
    refine WD.take (i := 8) rfl rfl rfl rfl (by kernel_rfl) (by kernel_rfl) (by kernel_rfl) (fun _ _ _ h => h) (by kernel_rfl) (need_at 2 13 rfl (by kernel_rfl)) (Yl.load1 F.one3 rfl) ?_
    refine WD.take (i := 9) rfl rfl rfl rfl (by kernel_rfl) (by kernel_rfl) (by kernel_rfl) (fun _ _ _ h => h) (by kernel_rfl) need_none (Yl.move rfl) ?_
    refine WD.one (i := 10) (by kernel_rfl) rfl ?_
    refine WL.callC (β := { z : JT // JPost bop (canon s).1 (canon t).1 [] 0 (canon s).2 (canon t).2 z }) (res := fun z => .int .i64 (z.1.2.2.2 : Int)) (cs := fun z => [jns z.1.1 bm bs z.1.2.1 z.1.2.2.1]) (Cs := [jns (F1 ++ ([bs] ++ [])) bm bs [] (fun _ => none)]) (C1 := [pt bp [pp bm, .slice aa (canon s).1.length ca, .int .i64 ((canon s).2 : Int), .slice ab (canon t).1.length cb, .int .i64 ((canon t).2 : Int), .map (some bs)] 223, pt b3 [.slice aa (canon s).1.length ca, .int .i64 ((canon s).2 : Int)] 35, pt b4 [.slice ab (canon t).1.length cb, .int .i64 ((canon t).2 : Int)] 35, pt b6 [.slice none 0 0, .int .i64 0] 35]) (O' := (F1 ++ ([bs] ++ []))) F.fun163 (fun d h => by cases h; rfl) rfl (List.Perm.refl _) bun_O1 bun_O2 (fun w hS hS2 => join_c g bop opf hop bp bm bs (canon s).1 (canon t).1 aa ab ca cb (canon s).2 (canon t).2 (canon_mk hs.1) (canon_mk ht.1) (Nat.le_of_lt (canon_len hs.1)) (Nat.le_of_lt (canon_len ht.1)) 25 0 (by omega) (by omega) (F1 ++ ([bs] ++ [])) [] (fun _ => none) (canon s).2 (canon t).2 w (canon_at s).1 (canon_at t).1 (by rw [(canon_at s).2]; exact hs.1) (by rw [(canon_at t).2]; exact ht.1) Mk.nil (fun _ _ _ h => by cases h) (by decide) (jenv_of hS hs.2 ht.2) hS2) (fun ⟨z1, hz1⟩ => ?_)
    refine WD.on (closed_of (by kernel_rfl)) (fun w hS => Sx.keep (hS.cell (by repeat (first | exact List.Mem.head _ | apply List.Mem.tail)) rfl) (Sx.gone rfl (Sx.gone rfl (Sx.none)))) ?_
    refine WD.one (i := 11) (by kernel_rfl) rfl ?_
    obtain ⟨G1, l1, f1, r1⟩ := z1
    obtain ⟨j1, j2, j3, j4, j5⟩ := hz1
    dsimp only at j1 j2 j3 j4 j5 ⊢
    rw [(canon_at s).2, (canon_at t).2] at j4
    have hl1 : l1.length ≤ 16777216 := by
      have e : 2 ^ (24 - 0) = 16777216 := by decide
      simp only [List.length_nil] at j3
      omega
    refine WA.openB (fun G3 _ _ _ => ?_)
    simp only [jnCs, List.cons_append, List.nil_append]
    refine WL.callC (β := Option Addr × Nat) (res := fun z => dval (trs l1 r1) z.1 z.2) (cs := fun z => [dC z.1 z.2 (trs l1 r1)]) (Cs := [mkr G3 bm l1]) (C1 := [mpg enc2 bs (fun q => (f1 q).map encI), pt bp [pp bm, .slice aa (canon s).1.length ca, .int .i64 ((canon s).2 : Int), .slice ab (canon t).1.length cb, .int .i64 ((canon t).2 : Int), .map (some bs)] 223, pt b3 [.slice aa (canon s).1.length ca, .int .i64 ((canon s).2 : Int)] 35, pt b4 [.slice ab (canon t).1.length cb, .int .i64 ((canon t).2 : Int)] 35, pt b6 [.slice none 0 0, .int .i64 0] 35]) (O' := G3) F.fun148 (fun d h => by cases h; rfl) rfl (List.Perm.refl _) bun_O1 bun_O2 (fun w hS hS2 => done_c G3 bm l1 r1 w j1 j4.lt (j4.ok 0 hs.1 ht.1) hl1 hS2) (fun z3 => ?_)
    refine WD.on (closed_of (by kernel_rfl)) (fun w hS => Sx.gone rfl (Sx.gone rfl (Sx.gone rfl (Sx.none)))) ?_
    refine WD.one (i := 12) (by kernel_rfl) rfl ?_
    refine WL.storeN F.agg35 rfl rfl rfl (by simp [Value.oneCell']) (by repeat (first | exact Upd.here | apply Upd.there)) (by repeat constructor) ?_
    refine WD.on (closed_of (by kernel_rfl)) (fun w hS => Sx.gone rfl (Sx.gone rfl (Sx.gone rfl (Sx.none)))) ?_
    refine WD.done (by kernel_rfl) ?_
    refine WQ.then_normal ?_
    refine WC.ret ?_
    refine WQ.ret (rs := [.cell 6 35]) rfl (.cellN F.agg35 rfl (by repeat (first | exact List.Mem.head _ | apply List.Mem.tail)) rfl .nil) (fun w hS => ⟨⟨(trs l1 r1, z3), j4.ok 0 hs.1 ht.1, j4.ev⟩, rfl, ((St.pick hS (c := dC z3.1 z3.2 (trs l1 r1)) (by repeat (first | exact Rem.here | apply Rem.there)))).sublist (List.Sublist.cons_cons _ (List.nil_sublist _))⟩)

theorem And_c (s t : BT) (aa ab : Option Addr) (ca cb : Nat) (w : World) (hs : RdD w s aa) (ht : RdD w t ab) :
    Calls Tryz.prog 75 [dval s aa ca, dval t ab cb].toArray w (DPost (fun c => (fun p q : Bool => p && q) (s.ev c) (t.ev c)) w) := by
  refine enter Tryz.func75 rfl Tryz.ntmps75 rfl (St.init _) ?_
  refine WC.seq ?_
  refine WC.region ?_
  refine WL.step ?_
  refine WL.boxN rfl rfl (fun b2 => ?_)
  refine WL.step ?_
  refine WL.boxN rfl rfl (fun b3 => ?_)
  refine WL.step ?_
  refine WL.alloc F.zero35 rfl (fun b4 => ?_)
  refine WL.nil ?_
  refine WQ.then_normal ?_
  refine WC.seq ?_
  refine WC.region ?_
  refine WL.step ?_
  refine WL.loadW F.agg35 rfl rfl (by repeat (first | exact List.Mem.head _ | apply List.Mem.tail)) rfl ?_
  refine WL.step ?_
  refine WL.loadW F.agg35 rfl rfl (by repeat (first | exact List.Mem.head _ | apply List.Mem.tail)) rfl ?_
  refine WL.step ?_
  refine WL.call0 (β := DRes (fun c => (fun p q : Bool => p && q) (s.ev c) (t.ev c))) (res := fun z => .returned z.v) (cs := fun z => [z.ch]) (ψ := fun _ => True) F.fun129 (fun d h => by cases h; rfl) rfl (fun w hS => (dwith_c _ _ _ both_ok s t aa ab ca cb w (hs.next0 hS) (ht.next0 hS)).mono (fun e w2 ⟨x, h1, h2⟩ => ⟨x, trivial, h1, h2⟩)) (fun z7 _ => ?_)
  refine WL.step ?_
  refine WL.storeN F.agg35 rfl rfl rfl (by simp [Value.oneCell']) (by repeat (first | exact Upd.here | apply Upd.there)) (by repeat constructor) ?_
  refine WL.nil ?_
  refine WQ.then_normal ?_
  refine WC.ret ?_
  refine WQ.ret (rs := [.cell 4 35]) rfl (.cellN F.agg35 rfl (by repeat (first | exact List.Mem.head _ | apply List.Mem.tail)) rfl .nil) (fun w hS => ⟨z7, rfl, ((St.pick hS (c := z7.ch) (by repeat (first | exact Rem.here | apply Rem.there)))).sublist (List.Sublist.cons_cons _ (List.nil_sublist _))⟩)

theorem Or_c (s t : BT) (aa ab : Option Addr) (ca cb : Nat) (w : World) (hs : RdD w s aa) (ht : RdD w t ab) :
    Calls Tryz.prog 105 [dval s aa ca, dval t ab cb].toArray w (DPost (fun c => (fun p q : Bool => p || q) (s.ev c) (t.ev c)) w) := by
  refine enter Tryz.func105 rfl Tryz.ntmps105 rfl (St.init _) ?_
  refine WC.seq ?_
  refine WC.region ?_
  refine WL.step ?_
  refine WL.boxN rfl rfl (fun b2 => ?_)
  refine WL.step ?_
  refine WL.boxN rfl rfl (fun b3 => ?_)
  refine WL.step ?_
  refine WL.alloc F.zero35 rfl (fun b4 => ?_)
  refine WL.nil ?_
  refine WQ.then_normal ?_
  refine WC.seq ?_
  refine WC.region ?_
  refine WL.step ?_
  refine WL.loadW F.agg35 rfl rfl (by repeat (first | exact List.Mem.head _ | apply List.Mem.tail)) rfl ?_
  refine WL.step ?_
  refine WL.loadW F.agg35 rfl rfl (by repeat (first | exact List.Mem.head _ | apply List.Mem.tail)) rfl ?_
  refine WL.step ?_
  refine WL.call0 (β := DRes (fun c => (fun p q : Bool => p || q) (s.ev c) (t.ev c))) (res := fun z => .returned z.v) (cs := fun z => [z.ch]) (ψ := fun _ => True) F.fun129 (fun d h => by cases h; rfl) rfl (fun w hS => (dwith_c _ _ _ either_ok s t aa ab ca cb w (hs.next0 hS) (ht.next0 hS)).mono (fun e w2 ⟨x, h1, h2⟩ => ⟨x, trivial, h1, h2⟩)) (fun z7 _ => ?_)
  refine WL.step ?_
  refine WL.storeN F.agg35 rfl rfl rfl (by simp [Value.oneCell']) (by repeat (first | exact Upd.here | apply Upd.there)) (by repeat constructor) ?_
  refine WL.nil ?_
  refine WQ.then_normal ?_
  refine WC.ret ?_
  refine WQ.ret (rs := [.cell 4 35]) rfl (.cellN F.agg35 rfl (by repeat (first | exact List.Mem.head _ | apply List.Mem.tail)) rfl .nil) (fun w hS => ⟨z7, rfl, ((St.pick hS (c := z7.ch) (by repeat (first | exact Rem.here | apply Rem.there)))).sublist (List.Sublist.cons_cons _ (List.nil_sublist _))⟩)

theorem Xor_c (s t : BT) (aa ab : Option Addr) (ca cb : Nat) (w : World) (hs : RdD w s aa) (ht : RdD w t ab) :
    Calls Tryz.prog 104 [dval s aa ca, dval t ab cb].toArray w (DPost (fun c => (fun p q : Bool => p != q) (s.ev c) (t.ev c)) w) := by
  refine enter Tryz.func104 rfl Tryz.ntmps104 rfl (St.init _) ?_
  refine WC.seq ?_
  refine WC.region ?_
  refine WL.step ?_
  refine WL.boxN rfl rfl (fun b2 => ?_)
  refine WL.step ?_
  refine WL.boxN rfl rfl (fun b3 => ?_)
  refine WL.step ?_
  refine WL.alloc F.zero35 rfl (fun b4 => ?_)
  refine WL.nil ?_
  refine WQ.then_normal ?_
  refine WC.seq ?_
  refine WC.region ?_
  refine WL.step ?_
  refine WL.loadW F.agg35 rfl rfl (by repeat (first | exact List.Mem.head _ | apply List.Mem.tail)) rfl ?_
  refine WL.step ?_
  refine WL.loadW F.agg35 rfl rfl (by repeat (first | exact List.Mem.head _ | apply List.Mem.tail)) rfl ?_
  refine WL.step ?_
  refine WL.call0 (β := DRes (fun c => (fun p q : Bool => p != q) (s.ev c) (t.ev c))) (res := fun z => .returned z.v) (cs := fun z => [z.ch]) (ψ := fun _ => True) F.fun129 (fun d h => by cases h; rfl) rfl (fun w hS => (dwith_c _ _ _ odd_ok s t aa ab ca cb w (hs.next0 hS) (ht.next0 hS)).mono (fun e w2 ⟨x, h1, h2⟩ => ⟨x, trivial, h1, h2⟩)) (fun z7 _ => ?_)
  refine WL.step ?_
  refine WL.storeN F.agg35 rfl rfl rfl (by simp [Value.oneCell']) (by repeat (first | exact Upd.here | apply Upd.there)) (by repeat constructor) ?_
  refine WL.nil ?_
  refine WQ.then_normal ?_
  refine WC.ret ?_
  refine WQ.ret (rs := [.cell 4 35]) rfl (.cellN F.agg35 rfl (by repeat (first | exact List.Mem.head _ | apply List.Mem.tail)) rfl .nil) (fun w hS => ⟨z7, rfl, ((St.pick hS (c := z7.ch) (by repeat (first | exact Rem.here | apply Rem.there)))).sublist (List.Sublist.cons_cons _ (List.nil_sublist _))⟩)

end Go.Proofs.YtkgllhkhdjodeaaGreat

namespace Go.Proofs.YtkgllhkhdjodeaaGreat
open Go Go.Eng Go.Proofs Dg
abbrev fcf (f : Cf → Bool) : Cf → Bool := f
theorem True_c (w : World) : Calls Tryz.prog 74 [].toArray w (DPost (fun _ => true) w) := by
 refine enter Tryz.func74 rfl Tryz.ntmps74 rfl (St.init _) ?_
 refine jN 3 ?_
 refine WL.alloc F.zero35 rfl (fun b0 => ?_)
 refine jN 11 ?_
 refine WQ.ret (rs := [.cell 0 35]) rfl (.cellN F.agg35 rfl jM rfl .nil) (fun w hS => ⟨⟨(.lf true, none, 0), trivial, fun _ => rfl⟩, rfl, ?_⟩)
 exact (hS.drop).rowNil _ _

theorem False_c (w : World) : Calls Tryz.prog 103 [].toArray w (DPost (fun _ => false) w) := by
 refine enter Tryz.func103 rfl Tryz.ntmps103 rfl (St.init _) ?_
 refine jN 3 ?_
 refine WL.alloc F.zero35 rfl (fun b0 => ?_)
 refine jN 11 ?_
 refine WQ.ret (rs := [.cell 0 35]) rfl (.cellN F.agg35 rfl jM rfl .nil) (fun w hS => ⟨⟨(.lf false, none, 0), trivial, fun _ => rfl⟩, rfl, ?_⟩)
 exact (hS.drop).rowNil _ _

theorem canon_var (i : Nat) : canon (.nd i (.lf false) (.lf true)) = ([(i, 0, 1)], 2) := by
 have h : Dg.look [] (.nd i (.lf false) (.lf true)) = none := by
  cases hl : Dg.look [] (.nd i (.lf false) (.lf true)) with
  | none => rfl
  | some p =>
   obtain ⟨h1, h2⟩ := look_some hl
   rcases p with _ | _ | p
   ·rw [(trs_zero _).1] at h2; cases h2
   ·rw [(trs_zero _).2] at h2; cases h2
   ·simp at h1; omega
 unfold canon
 conv => lhs; unfold visitT
 rw [h]
 simp [visitT]

theorem Var_in (n : Nat) (hn : n < 24) (w : World) : Calls Tryz.prog 99 [.int .i64 (n : Int)].toArray w fun e w' => ∃ z : DRes (fun c => c n), e = .returned (.tuple #[z.v, .int .i64 0]) ∧ St w [] [z.ch] w' := by
 refine enter Tryz.func99 rfl Tryz.ntmps99 rfl (St.init _) ?_
 refine jN 3 ?_
 refine WL.alloc F.zero35 rfl (fun b2 => ?_)
 refine jN 13 ?_
 refine WA.splitB (i := 6) rfl (fun g6 => ?_) (fun g6 => ?_)
 ·exfalso; simp at g6; omega
 ·refine jN 10 ?_
  refine WC.cond rfl (fun h9 => ?_) (fun h9 => ?_)
  ·exfalso; simp at h9; omega
  ·refine jN 9 ?_
   refine WL.buildSlice F.sl33 F.ez33 rfl rfl rfl rfl jB rfl (fun b13 => ?_)
   refine jN 9 ?_
   refine WQ.ret (rs := [.cell 2 35, .tmp 3]) rfl (.cellN F.agg35 rfl jM rfl (.tmp rfl .nil)) (fun w hS => ?_)
   refine ⟨⟨(.nd n (.lf false) (.lf true), some ⟨b13, 0, none⟩, 1), ⟨Nat.zero_le _, hn, fun e => (by simp at e), trivial, trivial⟩, fun c => ?_⟩, ?_, ?_⟩
   ·simp only [BT.ev]; cases c n <;> rfl
   ·show _ = Ending.returned (.tuple #[dval _ _ _, _])
    rw [dval, canon_var]; rfl
   ·show St _ [] [dC (some ⟨b13, 0, none⟩) 1 (.nd n (.lf false) (.lf true))] w
    rw [dC, canon_var]
    exact (jK (St.rowOf (n := 1) (sz := 3) (hS.pick (c := pt b13 [.int .i64 (n : Int), .int .i64 0, .int .i64 1] 104) jR) rfl (by decide)))

theorem Empty_c (t : BT) (a : Option Addr) (c : Nat) (w : World) : Pure Tryz.prog 14 [dval t a c] w (.bool ((canon t).2 == 0)) := by
 refine enter Tryz.func14 rfl Tryz.ntmps14 rfl (St.init _) ?_
 refine jN 3 ?_
 refine WL.boxN rfl rfl (fun b1 => ?_)
 refine jN 17 ?_
 refine WQ.ret (rs := [.tmp 2]) rfl (.tmp rfl .nil) (fun w hS => ⟨?_, hS.drop⟩)
 show Ending.returned (.bool (((canon t).2 : Int) == 0)) = _
 have e : (((canon t).2 : Int) == 0) = ((canon t).2 == 0) := by (rw [Bool.eq_iff_iff]; simp)
 rw [e]

theorem Has_c (t : BT) (a : Option Addr) (c n : Nat) (hn : n < 4294967296) (w : World) (ht : RdD w t a) : Pure Tryz.prog 36 [dval t a c, .int .u32 (n : Int)] w (.bool (t.ev (cfg n))) := by
 have hmk := canon_mk ht.1
 have hcl := canon_len ht.1
 refine enter Tryz.func36 rfl Tryz.ntmps36 rfl (St.init _) ?_
 refine jN 3 ?_
 refine WL.boxN rfl rfl (fun b2 => ?_)
 refine jN 16 ?_
 refine WC.loop (α := Nat) (fun r => r < (canon t).1.length + 2 ∧ (trs (canon t).1 r).ev (cfg n) = t.ev (cfg n)) (fun r => [(1, .int .u32 (n : Int)), (2, pp b2), (5, .int .i64 (r : Int))]) (fun _ => [pt b2 [.slice a (canon t).1.length c, .int .i64 ((canon t).2 : Int)] 35]) (fun r => r) ((canon t).2) ?_ ?_ ?_ ?_
 ·exact ⟨(canon_at t).1, by rw [(canon_at t).2]⟩
 ·exact ⟨rfl, rfl, rfl, trivial⟩
 ·rfl
 rintro r ⟨hr, hev⟩
 show WC _ _ _ _ _ _ _ [(1, .int .u32 (n : Int)), (2, pp b2), (5, .int .i64 (r : Int))] [pt b2 [.slice a (canon t).1.length c, .int .i64 ((canon t).2 : Int)] 35]
 refine jN 9 ?_
 refine WC.cond rfl (fun h10 => ?_) (fun h10 => ?_)
 ·have h2 : 2 ≤ r := by simp at h10; omega
  obtain ⟨k, rfl⟩ : ∃ k, r = k + 2 := ⟨r - 2, by omega⟩
  have hk : k < (canon t).1.length := by omega
  obtain ⟨x, hx⟩ : ∃ x, (canon t).1[k]? = some x := ⟨_, List.getElem?_eq_getElem hk⟩
  have hkb := hmk.kid k x hx
  have htr := hmk.at hx
  obtain ⟨bl, off, rfl, hcx⟩ := ht.2.at hx
  have hri : ((k : Nat) : Int) = ((k + 2 : Nat) : Int) - 2 := by omega
  refine jN 13 ?_
  refine WA.say 14 (.int .i64 (k : Int)) (by rw [hri]; rfl) ?_
  refine jN 1 ?_
  refine WL.indexAddr F.sl33 rfl rfl rfl hk ?_
  refine jN 1 ?_
  refine WL.loadN F.agg104 rfl rfl (vs := [Value.int .i64 (x.1 : Int), .int .i64 (x.2.1 : Int), .int .i64 (x.2.2 : Int)]) rfl (fun w hS j v hv => hS.oldc (hcx j v hv) (by simp)) ?_
  refine jN 1 ?_
  refine WL.alloc F.zero104 rfl (fun b6 => ?_)
  refine jN 23 ?_
  refine WL.bin rfl rfl rfl (fun w => run_shr (by omega) _ _ _ w) ?_
  refine jN 1 ?_
  refine WL.bin rfl rfl rfl (fun w => run_and (b := 1) (Nat.lt_of_le_of_lt (by rw [Nat.shiftRight_eq_div_pow]; exact Nat.div_le_self _ _) hn) (by decide) _ _ _ w) ?_
  refine jN 4 ?_
  refine WC.cond rfl (fun h24 => ?_) (fun h24 => ?_)
  ·have hbit : cfg n x.1 = true := by (rw [Fm.testBit_shift] at h24; exact h24)
   refine jN 9 ?_
   refine WQ.chunks (C' := [pt b2 [.slice (some ⟨bl, off, none⟩) (canon t).1.length c, .int .i64 ((canon t).2 : Int)] 35]) (fun w hS => (jK hS)) ?_
   refine WQ.back (x.2.2) ?_ ?_ ?_ ?_
   ·exact ⟨by omega, by rw [← hev, htr]; simp only [BT.ev, hbit, cond_true]⟩
   ·(show x.2.2 < k + 2; omega)
   ·exact ⟨rfl, rfl, rfl, trivial⟩
   ·rfl
  ·have hbit : cfg n x.1 = false := by (rw [Fm.testBit_shift] at h24; exact h24)
   refine jN 2 ?_
   refine WQ.chunks (C' := [pt b2 [.slice (some ⟨bl, off, none⟩) (canon t).1.length c, .int .i64 ((canon t).2 : Int)] 35]) (fun w hS => (jK hS)) ?_
   refine WQ.back (x.2.1) ?_ ?_ ?_ ?_
   ·exact ⟨by omega, by rw [← hev, htr]; simp only [BT.ev, hbit, cond_false]⟩
   ·(show x.2.1 < k + 2; omega)
   ·exact ⟨rfl, rfl, rfl, trivial⟩
   ·rfl
 ·have h2 : r < 2 := by simp at h10; omega
  have hfin : (r == 1) = t.ev (cfg n) := by
   rw [← hev]
   rcases r with _ | _ | r
   ·rw [(trs_zero _).1]; rfl
   ·rw [(trs_zero _).2]; rfl
   ·omega
  refine jN 16 ?_
  refine WQ.ret (rs := [.tmp 4]) rfl (.tmp rfl .nil) (fun w hS => ⟨?_, hS.drop⟩)
  show Ending.returned (.bool ((r : Int) == 1)) = _
  rw [← hfin]
  have e : ((r : Int) == 1) = (r == 1) := by (rw [Bool.eq_iff_iff]; simp; omega)
  rw [e]

end Go.Proofs.YtkgllhkhdjodeaaGreat

/-
 Passes over the nodes of a diagram that make another one.
-/
namespace Go.Proofs.YtkgllhkhdjodeaaGreat
open Go Go.Eng Go.Proofs Dg
theorem rdO_new {w0 w : World} {C : List Chunk} {ch : Chunk} {F : List Nat} {l : List Dec} {a : Option Addr} (hS : St w0 [] C w) (hm : ch ∈ C) (hc : FpIs ch F) (h : RdDec w0 l a) : RdDecO w l a F := fun j u hu => by
 obtain ⟨b, off, e1, e2⟩ := h j u hu
 refine ⟨b, off, e1, hS.oldc e2 (by simp), fun hF => ?_⟩
 have := (hS.bnd _ hm b ((hc b).2 hF)).2 (World.block_lt_of_cell? w0 _ e2)
 simp at this
theorem fi_len {φ : BT → BT} {la l : List Dec} {out : List Int} {x : Dec} (h : FI φ la out l) (hla : la.length < 16777216) (hx : la[out.length - 2]? = some x) : l.length ≤ 16777214 := by
 have h1 := (List.getElem?_eq_some_iff.1 hx).1
 have := h.len
 omega
theorem not_join (bm : Nat) (la : List Dec) (hla : Mk la) (hll : la.length < 16777216) (out : List Int) (s : List Nat × List Dec) (x : Dec) (z1 z2 : Int) (w : World) (hx : la[out.length - 2]? = some x) (hI : FI notT la out s.2) (h1 : out[x.2.1]? = some z1) (h2 : out[x.2.2]? = some z2) (hS : St w s.1 [mkr s.1 bm s.2] w) :
  Calls Tryz.prog 149 ([pp bm] ++ [Value.int .i64 (x.1 : Int), .int .i64 z1, .int .i64 z2] ++ []).toArray w fun e w' => ∃ y : { y : (List Nat × List Dec) × Int // FI notT la (out ++ [y.2]) y.1.2 }, e = .returned (.int .i64 y.1.2) ∧ St w s.1 [mkr y.1.1.1 bm y.1.1.2] w' := by
 obtain ⟨p1, rfl, e1, f1⟩ := hI.at' _ _ h1
 obtain ⟨p2, rfl, e2, f2⟩ := hI.at' _ _ h2
 refine (mnode_c s.1 bm s.2 x.1 p1 p2 w (hla.kid _ _ hx).1 hI.ismk e1 e2 (fi_len hI hll hx) hS).mono ?_
 rintro e w' ⟨⟨⟨F', l', r⟩, hm, hl⟩, he, hS'⟩
 refine ⟨⟨((F', l'), (r : Int)), hI.step hla hx hm.ismk hm.pre hl hm.lt ?_⟩, he, hS'⟩
 rw [hm.tree, f1, f2]; rfl
/-- The memory of With's pass. -/
abbrev wcCs (bi bmv bon bm : Nat) (i : Int) (on : Bool) (l : List Dec) (F1 : List Nat) : List Chunk := [pt bi [.int .i64 i] 3, pt bmv [pp bm] 200, pt bon [.bool on] 4, mkr F1 bm l]
def wch (F : List Nat) (bi bmv bon bm : Nat) (i : Int) (on : Bool) (l : List Dec) : Chunk := bun F (wcCs bi bmv bon bm i on l) (fun _ => True)
end Go.Proofs.YtkgllhkhdjodeaaGreat

namespace Go.Proofs.YtkgllhkhdjodeaaGreat
open Go Go.Eng Go.Proofs Dg
theorem Not_c (t : BT) (a : Option Addr) (c : Nat) (w : World) (ht : RdD w t a) : Calls Tryz.prog 100 [dval t a c].toArray w (DPost (fun c => !t.ev c) w) := by
  have hmk := canon_mk ht.1
  have hcl := canon_len ht.1
  refine enter Tryz.func100 rfl Tryz.ntmps100 rfl (St.init _) ?_
  refine WC.seq ?_
  refine WC.region ?_
  refine WL.step ?_
  refine WL.boxN rfl rfl (fun b1 => ?_)
  refine WL.step ?_
  refine WL.alloc F.zero35 rfl (fun b2 => ?_)
  refine WL.nil ?_
  refine WQ.then_normal ?_
  refine WC.seq ?_
  refine WC.region ?_
  refine WL.step ?_
  refine WL.call0 (β := List Nat × Nat) (res := fun x => .returned (pp x.2)) (cs := fun x => [mkr x.1 x.2 []]) (ψ := fun _ => True) F.fun147 (fun d h => by cases h; rfl) rfl (fun w hS => (newMaker_c w).mono (fun e w2 ⟨x, h1, h2⟩ => ⟨x, trivial, h1, h2⟩)) (fun ⟨F1, bm⟩ _ => ?_)
  refine WL.step ?_
  refine WL.assign rfl rfl ?_
  refine WL.nil ?_
  refine WQ.then_normal ?_
  refine WC.seq ?_
  refine WC.region ?_
  refine WL.step ?_
  refine WL.move rfl rfl ?_
  refine WL.step ?_
  refine WL.loadW F.agg35 rfl rfl (by repeat (first | exact List.Mem.head _ | apply List.Mem.tail)) rfl ?_
  refine WL.step ?_
  refine WL.move rfl rfl ?_
  refine WL.step ?_
  refine WL.makeFunc (us := [pp bm]) (vs := []) rfl rfl rfl ?_
  refine WL.step ?_
  refine WL.callC (β := { y : List Int × (List Nat × List Dec) × Int // FI notT (canon t).1 y.1 y.2.1.2 ∧ y.1.length = (canon t).1.length + 2 ∧ y.1[(canon t).2]? = some y.2.2 }) (res := fun y => .int .i64 y.1.2.2) (cs := fun y => [mkr y.1.2.1.1 bm y.1.2.1.2]) (Cs := [mkr F1 bm []]) (C1 := [pt b2 [.slice none 0 0, .int .i64 0] 35, pt b1 [.slice a (canon t).1.length c, .int .i64 ((canon t).2 : Int)] 35]) (O' := F1) F.fun53 (fun d h => by cases h; rfl) rfl (List.Perm.refl _) bun_O1 bun_O2 (fun w hS hS2 => Fold_c (σ := List Nat × List Dec) (fun s => mkr s.1 bm s.2) (fun s => s.1) (fun s => FpIs.bun) 149 F.fun149 [pp bm] [] (canon t).1 a c (canon t).2 1 0 (fun out s => FI notT (canon t).1 out s.2) (Nat.le_of_lt hcl) (fun k x hx => ⟨(hmk.kid k x hx).2.1, (hmk.kid k x hx).2.2.1⟩) (canon_at t).1 (F1, []) (FI.nil (b0 := true) (b1 := false) rfl rfl) (not_join bm (canon t).1 hmk hcl) w (rdO_new hS (by repeat (first | exact List.Mem.head _ | apply List.Mem.tail)) FpIs.bun ht.2) hS2) (fun ⟨⟨out, ⟨G1, l1⟩, z⟩, hI, hol, hz⟩ => ?_)
  obtain ⟨r1, rfl, hr1, htr⟩ := hI.at' _ _ hz
  rw [(canon_at t).2] at htr
  have hI9 := hI.len
  dsimp only at hI9 hol hI
  have hl1 : l1.length ≤ 16777216 := by omega
  refine WL.step ?_
  refine WL.callC (β := Option Addr × Nat) (res := fun z => dval (trs l1 r1) z.1 z.2) (cs := fun z => [dC z.1 z.2 (trs l1 r1)]) (Cs := [mkr G1 bm l1]) (C1 := [pt b2 [.slice none 0 0, .int .i64 0] 35, pt b1 [.slice a (canon t).1.length c, .int .i64 ((canon t).2 : Int)] 35]) (O' := G1) F.fun148 (fun d h => by cases h; rfl) rfl (List.Perm.refl _) bun_O1 bun_O2 (fun w hS hS2 => done_c G1 bm l1 r1 w hI.ismk hr1 (by rw [htr]; exact notT_ok ht.1) hl1 hS2) (fun z3 => ?_)
  refine WL.step ?_
  refine WL.storeN F.agg35 rfl rfl rfl (by simp [Value.oneCell']) (by repeat (first | exact Upd.here | apply Upd.there)) (by repeat constructor) ?_
  refine WL.nil ?_
  refine WQ.then_normal ?_
  refine WC.ret ?_
  refine WQ.ret (rs := [.cell 2 35]) rfl (.cellN F.agg35 rfl (by repeat (first | exact List.Mem.head _ | apply List.Mem.tail)) rfl .nil) (fun w hS => ⟨⟨(trs l1 r1, z3), by rw [htr]; exact notT_ok ht.1, fun c => by rw [htr]; exact notT_ev t c⟩, rfl, ((St.pick hS (c := dC z3.1 z3.2 (trs l1 r1)) (by repeat (first | exact Rem.here | apply Rem.there)))).sublist (List.Sublist.cons_cons _ (List.nil_sublist _))⟩)

end Go.Proofs.YtkgllhkhdjodeaaGreat

/-! Names and their places. -/
namespace Dg
open Go.Proofs.YtkgllhkhdjodeaaGreat
def idxS (l : List (List UInt8)) (s : List UInt8) : Int := if l.contains s then ((l.findIdx (fun x => x == s) : Nat) : Int) else -1
theorem idxS_hit {l : List (List UInt8)} {s : List UInt8} {i : Nat} (hno : (l.take i).contains s = false) (hx : l[i]? = some s) : idxS l s = i := by
 have hi := (List.getElem?_eq_some_iff.1 hx).1
 have hc : l.contains s = true := by
  rw [List.contains_iff_exists_mem_beq]
  exact ⟨s, List.mem_of_getElem? hx, by simp⟩
 unfold idxS
 rw [if_pos hc]
 congr 1
 have h1 : l.findIdx (fun x => x == s) ≤ i := by
  rcases Nat.lt_or_ge i (l.findIdx (fun x => x == s)) with h | h
  ·have := List.not_of_lt_findIdx h
   obtain ⟨h2, h3⟩ := List.getElem?_eq_some_iff.1 hx
   rw [h3] at this
   simp at this
  ·exact h
 rcases Nat.lt_or_ge (l.findIdx (fun x => x == s)) i with h | h
 ·exfalso
  have h2 : l.findIdx (fun x => x == s) < l.length := by omega
  have h3 := List.findIdx_getElem (p := fun x => x == s) (w := h2)
  have h4 : s ∈ l.take i := by
   rw [List.mem_take_iff_getElem]
   exact ⟨l.findIdx (fun x => x == s), by omega, by simpa using h3⟩
  have : (l.take i).contains s = true := by rw [List.contains_iff_exists_mem_beq]; exact ⟨s, h4, by simp⟩
  rw [hno] at this; cases this
 ·omega
theorem idxS_miss {l : List (List UInt8)} {s : List UInt8} (h : l.contains s = false) : idxS l s = -1 := by
 unfold idxS; rw [h]; rfl
theorem idxS_neg (l : List (List UInt8)) (s : List UInt8) : decide (0 ≤ idxS l s) = l.contains s := by
 unfold idxS
 cases h : l.contains s with
 | true => simp
 | false => simp
theorem idxS_lt {l : List (List UInt8)} {s : List UInt8} (h : l.contains s = true) : ∃ i : Nat, idxS l s = (i : Int) ∧ i < l.length ∧ l[i]? = some s := by
 unfold idxS
 rw [if_pos h]
 rw [List.contains_iff_exists_mem_beq] at h
 obtain ⟨y, hy, hs⟩ := h
 have he : y = s := (by simpa using hs : s = y).symm
 have h2 : l.findIdx (fun x => x == s) < l.length := List.findIdx_lt_length_of_exists ⟨y, hy, by simp [he]⟩
 refine ⟨_, rfl, h2, ?_⟩
 have h3 := List.findIdx_getElem (p := fun x => x == s) (w := h2)
 rw [List.getElem?_eq_getElem h2]
 simpa using h3
/-- The first error of names. -/
def namesG : List (List UInt8) → List (List UInt8) → Int
 | _, [] => 0
 | pre, s :: r => if Fm.isNameB s = false then 6 else if pre.contains s then 7 else namesG (pre ++ [s]) r
def namesE (l : List (List UInt8)) : Int := if 24 < l.length then 5 else namesG [] l
theorem namesG_step {l : List (List UInt8)} {i : Nat} {s : List UInt8} (hx : l[i]? = some s) : namesG (l.take i) (l.drop i) = if Fm.isNameB s = false then 6 else if (l.take i).contains s then 7 else namesG (l.take (i + 1)) (l.drop (i + 1)) := by
 obtain ⟨hi, he⟩ := List.getElem?_eq_some_iff.1 hx
 rw [List.drop_eq_getElem_cons hi, he, List.take_add_one, hx]
 rfl
end Dg

namespace Go.Proofs.YtkgllhkhdjodeaaGreat
open Go Go.Eng Go.Proofs Dg
theorem sidx_c (l : List (List UInt8)) (s : List UInt8) (a : Option Addr) (cap : Nat) (hll : l.length ≤ 1099511627776) (w : World) (hr : RdS w l a) : Pure Tryz.prog 98 [.slice a l.length cap, .string (str s)] w (.int .i64 (idxS l s)) := by
 refine enter Tryz.func98 rfl Tryz.ntmps98 rfl (St.init _) ?_
 refine jN 18 ?_
 refine WC.loop (α := Nat) (fun i => i ≤ l.length ∧ (l.take i).contains s = false) (fun i => [(0, .slice a l.length cap), (1, .string (str s)), (6, .slice a l.length cap), (7, .int .i64 (l.length : Int)), (8, .int .i64 (i : Int))]) (fun _ => []) (fun i => l.length - i) (0) ?_ ?_ ?_ ?_
 ·exact ⟨Nat.zero_le _, rfl⟩
 ·exact ⟨rfl, rfl, rfl, rfl, rfl, trivial⟩
 ·rfl
 rintro i ⟨hi, hno⟩
 refine jN 7 ?_
 refine WC.cond rfl (fun h9 => ?_) (fun h9 => ?_)
 ·have hlt : i < l.length := by simpa using h9
  obtain ⟨y, hx⟩ : ∃ y, l[i]? = some y := ⟨_, List.getElem?_eq_getElem hlt⟩
  obtain ⟨b, off, rfl, hcell⟩ := hr i y hx
  refine jN 21 ?_
  refine WL.indexAddr F.sl25 rfl rfl rfl hlt ?_
  refine jN 1 ?_
  refine WL.load1 F.one9 rfl rfl (v := .string (str y)) (fun w hS => hS.oldc (by simpa using hcell) (by simp)) ?_
  refine jN 4 ?_
  refine WC.cond rfl (fun h16 => ?_) (fun h16 => ?_)
  ·have hys : y = s := by (simp at h16; first | exact h16 | exact h16.symm)
   subst hys
   refine jN 14 ?_
   exact WQ.ret (rs := [.tmp 4]) rfl (.tmp rfl .nil) (fun w hS => ⟨by rw [idxS_hit hno hx]; rfl, hS⟩)
  ·refine jN 9 ?_
   refine WQ.back (i + 1) ?_ ?_ ?_ ?_
   ·exact ⟨by omega, by rw [List.take_add_one, hx]; simp at hno h16 ⊢; exact ⟨hno, fun e => h16 (by first | exact e | exact e.symm)⟩⟩
   ·omega
   ·exact ⟨rfl, rfl, rfl, rfl, rfl, trivial⟩
   ·rfl
 ·have hie : i = l.length := by simp at h9; omega
  subst hie
  rw [List.take_length] at hno
  refine jN 12 ?_
  exact WQ.ret (rs := [.tmp 4]) rfl (.tmp rfl .nil) (fun w hS => ⟨by rw [idxS_miss hno]; rfl, hS⟩)

theorem scontains_c (l : List (List UInt8)) (s : List UInt8) (a : Option Addr) (cap : Nat) (hll : l.length ≤ 1099511627776) (w : World) (hr : RdS w l a) : Pure Tryz.prog 45 [.slice a l.length cap, .string (str s)] w (.bool (l.contains s)) := by
 refine enter Tryz.func45 rfl Tryz.ntmps45 rfl (St.init _) ?_
 refine jN 13 ?_
 refine WL.callV F.fun98 rfl rfl (fun w hS => sidx_c l s a cap hll w (hr.next hS)) ?_
 refine jN 7 ?_
 exact WQ.ret (rs := [.tmp 4]) rfl (.tmp rfl .nil) (fun w hS => ⟨by (show Ending.returned (.bool (decide (0 ≤ idxS l s))) = _; rw [idxS_neg]), hS⟩)

theorem ridx_c (l : List (List UInt8)) (s : List UInt8) (a : Option Addr) (cap : Nat) (hll : l.length ≤ 1099511627776) (w : World) (hr : RdS w l a) : Pure Tryz.prog 47 [.slice a l.length cap, .string (str s)] w (.int .i64 (idxS l s)) := by
 refine enter Tryz.func47 rfl Tryz.ntmps47 rfl (St.init _) ?_
 refine jN 14 ?_
 refine WC.loop (α := Nat) (fun i => i ≤ l.length ∧ (l.take i).contains s = false) (fun i => [(0, .slice a l.length cap), (1, .string (str s)), (5, .int .i64 (i : Int))]) (fun _ => []) (fun i => l.length - i) (0) ?_ ?_ ?_ ?_
 ·exact ⟨Nat.zero_le _, rfl⟩
 ·exact ⟨rfl, rfl, rfl, trivial⟩
 ·rfl
 rintro i ⟨hi, hno⟩
 refine jN 13 ?_
 refine WC.cond rfl (fun h9 => ?_) (fun h9 => ?_)
 ·have hlt : i < l.length := by simpa using h9
  obtain ⟨y, hx⟩ : ∃ y, l[i]? = some y := ⟨_, List.getElem?_eq_getElem hlt⟩
  obtain ⟨b, off, rfl, hcell⟩ := hr i y hx
  refine jN 11 ?_
  refine WL.indexAddr F.sl25 rfl rfl rfl hlt ?_
  refine jN 1 ?_
  refine WL.load1 F.one9 rfl rfl (v := .string (str y)) (fun w hS => hS.oldc (by simpa using hcell) (by simp)) ?_
  refine jN 6 ?_
  refine WC.cond rfl (fun h17 => ?_) (fun h17 => ?_)
  ·have hys : y = s := by (simp at h17; first | exact h17 | exact h17.symm)
   subst hys
   refine jN 14 ?_
   exact WQ.ret (rs := [.tmp 4]) rfl (.tmp rfl .nil) (fun w hS => ⟨by rw [idxS_hit hno hx]; rfl, hS⟩)
  ·refine jN 11 ?_
   refine WQ.back (i + 1) ?_ ?_ ?_ ?_
   ·exact ⟨by omega, by rw [List.take_add_one, hx]; simp at hno h17 ⊢; exact ⟨hno, fun e => h17 (by first | exact e | exact e.symm)⟩⟩
   ·omega
   ·exact ⟨rfl, rfl, rfl, trivial⟩
   ·rfl
 ·have hie : i = l.length := by simp at h9; omega
  subst hie
  rw [List.take_length] at hno
  refine jN 12 ?_
  exact WQ.ret (rs := [.tmp 4]) rfl (.tmp rfl .nil) (fun w hS => ⟨by rw [idxS_miss hno]; rfl, hS⟩)

end Go.Proofs.YtkgllhkhdjodeaaGreat

namespace Go.Proofs.YtkgllhkhdjodeaaGreat
open Go Go.Eng Go.Proofs
theorem refIsName_c (l : List UInt8) (w : World) : Pure Tryz.prog 67 [.string (str l)] w (.bool (Fm.isNameB l)) := by
 refine enter Tryz.func67 rfl Tryz.ntmps67 rfl (St.init _) ?_
 refine jN 8 ?_
 refine WC.cutF [(21, .bool (nmBad l)), (0, .string (str l)), (2, .bool false)] (fun Q' hQ => ?_) ?_
 ·refine jN 9 ?_
  refine WA.splitB (i := 7) rfl (fun h7 => ?_) (fun h7 => ?_)
  ·refine jN 29 ?_
   refine WQ.byCut hQ (subF_bool ?_ ⟨rfl, rfl, trivial⟩ rfl)
   first | exact nmBad_nil h7 | exact nmBad_long h12 | (rw [nmBad_digit hc0 h16]; simp at h12; simp; omega) | (rw [nmBad_nodigit hc0 h16]; simp at h12; simp; omega)
  ·have hpos : 0 < l.length := by simp at h7; omega
   obtain ⟨c0, hc0⟩ : ∃ c, l[0]? = some c := ⟨l[0], by simp [hpos]⟩
   refine jN 13 ?_
   refine WA.splitB (i := 12) rfl (fun h12 => ?_) (fun h12 => ?_)
   ·refine jN 19 ?_
    refine WQ.byCut hQ (subF_bool ?_ ⟨rfl, rfl, trivial⟩ rfl)
    first | exact nmBad_nil h7 | exact nmBad_long h12 | (rw [nmBad_digit hc0 h16]; simp at h12; simp; omega) | (rw [nmBad_nodigit hc0 h16]; simp at h12; simp; omega)
   ·refine jN 5 ?_
    refine WL.indexS (i := 0) F.und9 rfl rfl rfl hc0 ?_
    refine jN 6 ?_
    refine WA.splitB (i := 16) rfl (fun h16 => ?_) (fun h16 => ?_)
    ·refine jN 5 ?_
     refine WL.indexS (i := 0) F.und9 rfl rfl rfl hc0 ?_
     refine jN 9 ?_
     refine WQ.byCut hQ (subF_bool ?_ ⟨rfl, rfl, trivial⟩ rfl)
     first | exact nmBad_nil h7 | exact nmBad_long h12 | (rw [nmBad_digit hc0 h16]; simp at h12; simp; omega) | (rw [nmBad_nodigit hc0 h16]; simp at h12; simp; omega)
    ·refine jN 12 ?_
     refine WQ.byCut hQ (subF_bool ?_ ⟨rfl, rfl, trivial⟩ rfl)
     first | exact nmBad_nil h7 | exact nmBad_long h12 | (rw [nmBad_digit hc0 h16]; simp at h12; simp; omega) | (rw [nmBad_nodigit hc0 h16]; simp at h12; simp; omega)
 refine jN 1 ?_
 refine WC.cond rfl (fun h21 => ?_) (fun h21 => ?_)
 ·refine jN 8 ?_
  exact WQ.ret (rs := [.tmp 2]) rfl (.tmp rfl .nil) (fun w hS => ⟨by simp [tup, nmBad_name, h21], hS⟩)
 ·have hl : l.length ≤ 32 := nmBad_len h21
  refine jN 10 ?_
  refine WC.loop (α := Nat) (fun k => k ≤ l.length ∧ (l.take k).all Fm.inWordB = true) (fun k => [(0, .string (str l)), (2, .bool false), (3, .int .i64 k)]) (fun _ => []) (fun k => l.length - k) (0) ?_ ?_ ?_ ?_
  ·exact ⟨by omega, by simp⟩
  ·exact ⟨rfl, rfl, rfl, trivial⟩
  ·rfl
  rintro k ⟨hk, hal⟩
  refine jN 13 ?_
  refine WC.cond rfl (fun h25 => ?_) (fun h25 => ?_)
  ·have hlt : k < l.length := by simpa using h25
   obtain ⟨c, hc⟩ : ∃ c, l[k]? = some c := ⟨l[k], by simp [hlt]⟩
   refine jN 11 ?_
   refine WL.indexS F.und9 rfl rfl rfl (by assumption) ?_
   refine jN 1 ?_
   refine WL.callV F.fun127 rfl rfl (fun w _ => refInWord_c c w) ?_
   refine jN 4 ?_
   refine WC.cond rfl (fun h31 => ?_) (fun h31 => ?_)
   ·have hcw : Fm.inWordB c = false := by simpa using h31
    refine jN 12 ?_
    exact WQ.ret (rs := [.tmp 2]) rfl (.tmp rfl .nil) (fun w hS => ⟨by simp [tup, nmBad_name]; intro _; exact ⟨c, List.mem_of_getElem? hc, hcw⟩, hS⟩)
   ·have hcw : Fm.inWordB c = true := by simpa using h31
    refine jN 11 ?_
    refine WQ.back (k + 1) ?_ ?_ ?_ ?_
    ·exact ⟨by omega, by rw [take_all hc, hal, hcw]; rfl⟩
    ·omega
    ·exact ⟨rfl, rfl, rfl, trivial⟩
    ·rfl
  ·have hkl : k = l.length := by simp at h25; omega
   subst hkl
   rw [List.take_length] at hal
   refine jN 12 ?_
   exact WQ.ret (rs := [.tmp 2]) rfl (.tmp rfl .nil) (fun w hS => ⟨by simp [tup, nmBad_name, h21, hal], hS⟩)

/-- Tokens in memory. -/
def RdTk (w : World) (T : List Fm.Tk) (a : Option Addr) : Prop := ∀ i t, T[i]? = some t → ∃ b off, a = some ⟨b, off, none⟩ ∧ w.cell? ⟨b, off + i * 2, none⟩ = some (.int .i64 (t.1 : Int)) ∧ w.cell? ⟨b, off + i * 2 + 1, none⟩ = some (.string (str t.2))
theorem RdTk.next {w0 w : World} {C : List Chunk} {T : List Fm.Tk} {a : Option Addr} (h : RdTk w0 T a) (hS : St w0 [] C w) : RdTk w T a := fun i t hx => by
 obtain ⟨b, off, ha, hc, hd⟩ := h i t hx
 exact ⟨b, off, ha, hS.oldc hc (by simp), hS.oldc hd (by simp)⟩
abbrev rdv (T : List Fm.Tk) (a : Option Addr) (c : Nat) (r : Fm.RS) : Value := .agg [.slice a T.length c, .int .i64 (r.1 : Int), .bool r.2].toArray
end Go.Proofs.YtkgllhkhdjodeaaGreat

namespace Go.Proofs.YtkgllhkhdjodeaaGreat
open Go Go.Eng Go.Proofs Dg
theorem check_c (l : List (List UInt8)) (a : Option Addr) (cap : Nat) (hcap : l.length ≤ cap) (hll : l.length ≤ 1099511627776) (w : World) (hr : RdS w l a) : Pure Tryz.prog 43 [.slice a l.length cap] w (.int .i64 (namesE l)) := by
 refine enter Tryz.func43 rfl Tryz.ntmps43 rfl (St.init _) ?_
 refine jN 17 ?_
 refine WC.cond rfl (fun h7 => ?_) (fun h7 => ?_)
 ·have hE : namesE l = 5 := by (unfold namesE; rw [if_pos (by simp at h7; omega)])
  refine jN 8 ?_
  exact WQ.ret (rs := [.tmp 2]) rfl (.tmp rfl .nil) (fun w hS => ⟨by rw [hE]; rfl, hS⟩)
 ·have h24 : l.length ≤ 24 := by simp at h7; omega
  have hE : namesE l = namesG [] l := by (unfold namesE; rw [if_neg (by omega)])
  refine jN 14 ?_
  refine WC.loop (α := Nat) (fun i => i ≤ l.length ∧ namesE l = namesG (l.take i) (l.drop i)) (fun i => [(0, .slice a l.length cap), (8, .slice a l.length cap), (9, .int .i64 (l.length : Int)), (10, .int .i64 (i : Int))]) (fun _ => []) (fun i => l.length - i) (0) ?_ ?_ ?_ ?_
  ·exact ⟨Nat.zero_le _, by rw [hE]; rfl⟩
  ·exact ⟨rfl, rfl, rfl, rfl, trivial⟩
  ·rfl
  rintro i ⟨hi, hEi⟩
  refine jN 7 ?_
  refine WC.cond rfl (fun h11 => ?_) (fun h11 => ?_)
  ·have hlt : i < l.length := by simpa using h11
   obtain ⟨s, hx⟩ : ∃ s, l[i]? = some s := ⟨_, List.getElem?_eq_getElem hlt⟩
   obtain ⟨b, off, rfl, hcell⟩ := hr i s hx
   have hst := namesG_step hx
   have htl : (l.take i).length = i := by simp; omega
   have hrt : ∀ {w0 : World}, RdS w0 l (some ⟨b, off, none⟩) → RdS w0 (l.take i) (some ⟨b, off, none⟩) := fun h j x hj => h j x (by (rw [List.getElem?_take] at hj; split at hj; exact hj; cases hj))
   refine jN 9 ?_
   refine WL.indexAddr F.sl25 rfl rfl rfl hlt ?_
   refine jN 1 ?_
   refine WL.load1 F.one9 rfl rfl (v := .string (str s)) (fun w hS => hS.oldc (by simpa using hcell) (by simp)) ?_
   refine jN 12 ?_
   refine WL.callV F.fun95 rfl rfl (fun w hS => isName_c s w) ?_
   refine jN 6 ?_
   refine WC.cond rfl (fun h15 => ?_) (fun h15 => ?_)
   ·refine jN 13 ?_
    exact WQ.ret (rs := [.tmp 2]) rfl (.tmp rfl .nil) (fun w hS => ⟨by rw [hEi, hst, if_pos (by simpa using h15)]; rfl, hS⟩)
   ·refine jN 7 ?_
    refine WL.y (F := fun _ => True) (Yl.sliceSlTo (n := i) F.sl25 rfl rfl (by omega)) rfl (fun _ _ => trivial) ?_
    refine WA.say 22 (.slice (some ⟨b, off, none⟩) (l.take i).length cap) (by rw [htl]; rfl) ?_
    refine jN 3 ?_
    refine WL.callV F.fun45 rfl rfl (fun w hS => scontains_c (l.take i) s (some ⟨b, off, none⟩) cap (by rw [htl]; omega) w (hrt (hr.next hS))) ?_
    refine jN 4 ?_
    refine WC.cond rfl (fun h19 => ?_) (fun h19 => ?_)
    ·refine jN 13 ?_
     exact WQ.ret (rs := [.tmp 2]) rfl (.tmp rfl .nil) (fun w hS => ⟨by rw [hEi, hst, if_neg (by simpa using h15), if_pos h19]; rfl, hS⟩)
    ·refine jN 10 ?_
     refine WQ.back (i + 1) ?_ ?_ ?_ ?_
     ·exact ⟨by omega, by rw [hEi, hst, if_neg (by simpa using h15), if_neg (by simpa using h19)]⟩
     ·omega
     ·exact ⟨rfl, rfl, rfl, rfl, trivial⟩
     ·rfl
  ·have hie : i = l.length := by simp at h11; omega
   subst hie
   rw [List.drop_length] at hEi
   refine jN 12 ?_
   exact WQ.ret (rs := [.tmp 2]) rfl (.tmp rfl .nil) (fun w hS => ⟨by rw [hEi]; rfl, hS⟩)

theorem rnames_c (l : List (List UInt8)) (a : Option Addr) (cap : Nat) (hcap : l.length ≤ cap) (hll : l.length ≤ 1099511627776) (w : World) (hr : RdS w l a) : Pure Tryz.prog 24 [.slice a l.length cap] w (.int .i64 (namesE l)) := by
 refine enter Tryz.func24 rfl Tryz.ntmps24 rfl (St.init _) ?_
 refine jN 17 ?_
 refine WC.cond rfl (fun h7 => ?_) (fun h7 => ?_)
 ·have hE : namesE l = 5 := by (unfold namesE; rw [if_pos (by simp at h7; omega)])
  refine jN 8 ?_
  exact WQ.ret (rs := [.tmp 2]) rfl (.tmp rfl .nil) (fun w hS => ⟨by rw [hE]; rfl, hS⟩)
 ·have h24 : l.length ≤ 24 := by simp at h7; omega
  have hE : namesE l = namesG [] l := by (unfold namesE; rw [if_neg (by omega)])
  refine jN 10 ?_
  refine WC.loop (α := Nat) (fun i => i ≤ l.length ∧ namesE l = namesG (l.take i) (l.drop i)) (fun i => [(0, .slice a l.length cap), (3, .int .i64 (i : Int))]) (fun _ => []) (fun i => l.length - i) (0) ?_ ?_ ?_ ?_
  ·exact ⟨Nat.zero_le _, by rw [hE]; rfl⟩
  ·exact ⟨rfl, rfl, trivial⟩
  ·rfl
  rintro i ⟨hi, hEi⟩
  refine jN 13 ?_
  refine WC.cond rfl (fun h11 => ?_) (fun h11 => ?_)
  ·have hlt : i < l.length := by simpa using h11
   obtain ⟨s, hx⟩ : ∃ s, l[i]? = some s := ⟨_, List.getElem?_eq_getElem hlt⟩
   obtain ⟨b, off, rfl, hcell⟩ := hr i s hx
   have hst := namesG_step hx
   have htl : (l.take i).length = i := by simp; omega
   have hrt : ∀ {w0 : World}, RdS w0 l (some ⟨b, off, none⟩) → RdS w0 (l.take i) (some ⟨b, off, none⟩) := fun h j x hj => h j x (by (rw [List.getElem?_take] at hj; split at hj; exact hj; cases hj))
   refine jN 12 ?_
   refine WL.indexAddr F.sl25 rfl rfl rfl hlt ?_
   refine jN 1 ?_
   refine WL.load1 F.one9 rfl rfl (v := .string (str s)) (fun w hS => hS.oldc (by simpa using hcell) (by simp)) ?_
   refine jN 1 ?_
   refine WL.callV F.fun67 rfl rfl (fun w hS => refIsName_c s w) ?_
   refine jN 4 ?_
   refine WC.cond rfl (fun h15 => ?_) (fun h15 => ?_)
   ·refine jN 13 ?_
    exact WQ.ret (rs := [.tmp 2]) rfl (.tmp rfl .nil) (fun w hS => ⟨by rw [hEi, hst, if_pos (by simpa using h15)]; rfl, hS⟩)
   ·refine jN 3 ?_
    refine WC.drawsL (by kernel_rfl) (FactsOk.cons (ds := [7]) (LoadOk.by (Y := fun w => w.cell? ⟨b, off + i * 1, none⟩ = some (.string (str s))) (fun w hS => by rw [Nat.mul_one]; exact hS.oldc hcell (by simp))) (FactsOk.nil)) ?_
    refine jT 0 rfl (Yl.move rfl) ?_
    refine jT 1 rfl (Yl.move rfl) ?_
    refine jT 2 rfl (show Yl _ _ _ _ _ _ (Value.slice (some ⟨b, off, none⟩) (l.take i).length cap) from by rw [htl]; exact Yl.sliceSlTo (n := i) F.sl25 rfl rfl (by omega)) ?_
    refine jT 3 rfl (Yl.move rfl) ?_
    refine jT 4 rfl (Yl.move rfl) ?_
    refine jT 5 rfl (Yl.indexAddr F.sl25 rfl rfl hlt) ?_
    refine jF 6 0 rfl rfl (Yl.load1 F.one9 rfl) ?_
    refine jA 7 rfl ?_
    refine WL.callV F.fun47 rfl rfl (fun w hS => ridx_c (l.take i) s (some ⟨b, off, none⟩) cap (by rw [htl]; omega) w (hrt (hr.next hS))) ?_
    refine jG ?_
    refine jT 8 rfl (Yl.geI rfl rfl) ?_
    refine jD ?_
    refine jN 1 ?_
    refine WC.cond rfl (fun h19 => ?_) (fun h19 => ?_)
    ·refine jN 12 ?_
     exact WQ.ret (rs := [.tmp 2]) rfl (.tmp rfl .nil) (fun w hS => ⟨by rw [hEi, hst, if_neg (by simpa using h15), if_pos (by rw [idxS_neg] at h19; exact h19)]; rfl, hS⟩)
    ·refine jN 11 ?_
     refine WQ.back (i + 1) ?_ ?_ ?_ ?_
     ·exact ⟨by omega, by rw [hEi, hst, if_neg (by simpa using h15), if_neg (by rw [idxS_neg] at h19; simpa using h19)]⟩
     ·omega
     ·exact ⟨rfl, rfl, trivial⟩
     ·rfl
  ·have hie : i = l.length := by simp at h11; omega
   subst hie
   rw [List.drop_length] at hEi
   refine jN 12 ?_
   exact WQ.ret (rs := [.tmp 2]) rfl (.tmp rfl .nil) (fun w hS => ⟨by rw [hEi]; rfl, hS⟩)

end Go.Proofs.YtkgllhkhdjodeaaGreat

/-
 A range over a function: the statement, its rounds, the functions that yield. By an AI agent.
-/
namespace Go.Eng
open Go Go.RowKit Go.Proofs.YtkgllhkhdjodeaaGreat
/-! ### from the plain calculus to a round's -/
abbrev FR (l : Nat) : Fence := Fence.wide.inRound l
def isDefer : Op → Bool
 | .defer _ => true
 | _ => false
theorem not_defer {op : Op} (h : isDefer op = false) : ∀ c, op ≠ .defer c := fun c e => by rw [e] at h; cases h
section
variable {P : Program} {ops : Array Oper} {Q : Exit → Act → World → Prop} {n : Nat}
theorem rowsIn_wide {row : String} {args : Array Value} {w : World} {R : Value → World → Prop} (h : Rows P row args w R) : RowsIn Fence.wide n P row args w R := fun c cs _ => by
 obtain ⟨v, w', h1, h2⟩ := h c cs
 exact ⟨v, w', h1, stepsIn_wide.2 h2⟩
theorem upon_in {F : Fence} (hF : F = Fence.wide ∨ ∃ l, F = FR l) {o : Oper} {a : Act} {K : Act → World → Prop} {r : Result Next} (h : o.upon P a K Q r) : o.uponIn F n P a K Q r := by
 have hc : ∀ {m : Nat} {f : FuncId} {args : Array Value} {w : World} {R : Ending → World → Prop}, Calls P f args w R → CallsIn F m P f args w R := fun {m} {f} {args} {w} {R} h => by
  rcases hF with rfl | ⟨l, rfl⟩
  ·exact callsIn_wide.2 h
  ·exact callsIn_wide.2 h
 have hr : ∀ {m : Nat} {row : String} {args : Array Value} {w : World} {R : Value → World → Prop}, Rows P row args w R → RowsIn F m P row args w R := fun {m} {row} {args} {w} {R} h => by
  rcases hF with rfl | ⟨l, rfl⟩
  ·exact rowsIn_wide h
  ·exact rowsIn_wide h
 have hd : F.depth.isSome = true → 1 ≤ n := by
  rcases hF with rfl | ⟨l, rfl⟩ <;> (intro h; cases h)
 cases r with
 | ok x w' =>
  cases x <;> simp only [Oper.upon] at h <;> first
   | exact h
   | exact ⟨hd, hc h⟩
   | exact ⟨hd, hr h⟩
   | exact h.elim
 | halt x w' => cases x <;> first | exact h | exact h.elim
theorem semAt_nd {ρ : Operand → Value} {o : Oper} {ro : Option Nat} (h : isDefer o.op = false) : Oper.semAt ro ρ o = execOp ρ o := Oper.semAt_eq ro ρ o (not_defer h)
theorem fn_in {F : Fence} (hF : F = Fence.wide ∨ ∃ l, F = FR l) (f : FuncId) : F.fn f := by
 rcases hF with rfl | ⟨l, rfl⟩ <;> trivial
theorem oper_in {F : Fence} (hF : F = Fence.wide ∨ ∃ l, F = FR l) {o : Oper} {a : Act} {w : World} {K : Act → World → Prop} (hd : isDefer o.op = false) (h : o.wp P a w K Q) : o.wpIn F n P a w K Q :=
 ⟨fun f _ => fn_in hF f, by rw [semAt_nd hd]; exact upon_in hF h⟩
theorem wpO_in {F : Fence} (hF : F = Fence.wide ∨ ∃ l, F = FR l) {o : Oper} {rest : List Oper} {a : Act} {w : World} (hd : isDefer o.op = false) (hQ : ¬ LetsOut Q) (h : wpO P ops Q o (wpListIn F n P ops Q rest) a w) : wpListIn F n P ops Q (o :: rest) a w := by
 unfold wpO at h
 unfold wpListIn
 split at h
 ·rename_i hw
  rw [if_pos hw]
  rcases h with h | ⟨_, h⟩
  ·exact oper_in hF hd h
  ·exact absurd h hQ
 ·rename_i hw
  rw [if_neg hw]
  exact ⟨fun f _ => fn_in hF f, h⟩
theorem list_in {F : Fence} (hF : F = Fence.wide ∨ ∃ l, F = FR l) (hQ : ¬ LetsOut Q) : ∀ (l : List Oper) (a : Act) (w : World), (l.all fun o => !isDefer o.op) = true → wpList P ops Q l a w → wpListIn F n P ops Q l a w
 | [], _, _, _, h => h
 | o :: rest, a, w, hd, h => by
  simp only [List.all_cons, Bool.and_eq_true, Bool.not_eq_true'] at hd
  unfold wpListIn
  unfold wpList at h
  split at h
  ·rename_i hw
   rw [if_pos hw]
   rcases h with h | ⟨_, h⟩
   ·exact Oper.wpIn_mono (fun a w h => list_in hF hQ rest a w hd.2 h) (oper_in hF hd.1 h)
   ·exact absurd h hQ
  ·rename_i hw
   rw [if_neg hw]
   exact ⟨fun f _ => fn_in hF f, list_in hF hQ rest _ _ hd.2 h⟩
theorem any_in {F : Fence} (hF : F = Fence.wide ∨ ∃ l, F = FR l) (hQ : ¬ LetsOut Q) (hd : (ops.toList.all fun o => !isDefer o.op) = true) : ∀ (fuel : Nat) (listed : Array Bool) (a : Act) (w : World), wpAny P .any ops Q fuel listed a w → wpAnyIn F n P .any ops Q fuel listed a w
 | 0, _, _, _, h => h
 | fuel + 1, listed, a, w, h => ⟨h.1, fun i hi => by
  have h1 := h.2 i hi
  unfold wpOp at h1
  unfold wpOpIn
  split at h1
  ·rename_i ho; simp only [ho]; exact any_in hF hQ hd fuel _ _ _ h1
  ·rename_i o ho
   simp only [ho]
   have hdo : isDefer o.op = false := by
    have := List.all_eq_true.1 hd o (by rw [← Array.getElem?_toList] at ho; exact List.mem_of_getElem? ho)
    simpa using this
   split at h1
   ·rename_i hw
    rw [if_pos hw]
    rcases h1 with h1 | ⟨_, h1⟩
    ·exact Oper.wpIn_mono (fun a w h => any_in hF hQ hd fuel _ a w h) (oper_in hF hdo h1)
    ·exact absurd h1 hQ
   ·rename_i hw
    rw [if_neg hw]
    exact ⟨fun f _ => fn_in hF f, any_in hF hQ hd fuel _ _ _ h1⟩⟩
end
/-! ### the control of a round -/
section
variable {P : Program} {w0 : World} {O : List Nat} {ops : Array Oper} {Q : Exit → Act → World → Prop} {N : Nat} {D : List Deferred} {L : FL} {C : List Chunk} {K : Act → World → Prop}
def WI (P : Program) (l : Nat) (w0 : World) (O : List Nat) (c : Code) (Q : Exit → Act → World → Prop) (N : Nat) (D : List Deferred) (L : FL) (C : List Chunk) : Prop :=
 ∀ a w, Fr N D L a → St w0 O C w → c.wpIn (FR l) 0 P Q a w
variable {l : Nat}
theorem WI.seq {x y : Code} (h : WI P l w0 O x (Exit.then (y.wpIn (FR l) 0 P Q) Q) N D L C) : WI P l w0 O (.seq x y) Q N D L C := fun a w hF hS => wpIn_seq (h a w hF hS)
theorem WI.skip (h : WQ w0 O Q .normal N D L C) : WI P l w0 O .skip Q N D L C := fun a w hF hS => wpIn_skip (h a w hF hS)
theorem WI.label {i : Nat} (h : WQ w0 O Q .normal N D L C) : WI P l w0 O (.label i) Q N D L C := fun a w hF hS => wpIn_label (h a w hF hS)
theorem WI.ret (h : WQ w0 O Q .ret N D L C) : WI P l w0 O .ret Q N D L C := fun a w hF hS => wpIn_ret (h a w hF hS)
theorem WI.exit {i : Nat} (h : WQ w0 O Q (.exit i) N D L C) : WI P l w0 O (.exit i) Q N D L C := fun a w hF hS => wpIn_exit (h a w hF hS)
theorem WI.block {i : Nat} {c : Code} (h : WI P l w0 O c (Exit.inBlock i Q) N D L C) : WI P l w0 O (.block i c) Q N D L C := fun a w hF hS => wpIn_block (h a w hF hS)
theorem WI.region {i : Nat} {r : List Oper} (hQ : ¬ LetsOut Q) (hd : (r.all fun o => !isDefer o.op) = true) (h : WA w0 O (wpList P r.toArray Q r) N D L C) : WI P l w0 O (.region i r.toArray false) Q N D L C := fun a w hF hS =>
 wpIn_region_lit (list_in (.inr ⟨l, rfl⟩) hQ r a w hd (h a w hF hS))
theorem WI.cond {c : Operand} {x y : Code} {t : Bool} (hc : ev L c = some (.bool t)) (ht : t = true → WI P l w0 O x Q N D L C) (hf : t = false → WI P l w0 O y Q N D L C) :
  WI P l w0 O (.cond c x y) Q N D L C := fun a w hF hS => wpIn_cond_split (hF.ev hc) (fun h => ht h a w hF hS) (fun h => hf h a w hF hS)
theorem WI.condT {c : Operand} {x y : Code} (hc : ev L c = some (.bool true)) (h : WI P l w0 O x Q N D L C) : WI P l w0 O (.cond c x y) Q N D L C :=
 fun a w hF hS => wpIn_cond_true (hF.ev hc) (h a w hF hS)
theorem WI.condF {c : Operand} {x y : Code} (hc : ev L c = some (.bool false)) (h : WI P l w0 O y Q N D L C) : WI P l w0 O (.cond c x y) Q N D L C :=
 fun a w hF hS => wpIn_cond_false (hF.ev hc) (h a w hF hS)
theorem WI.chunks {c : Code} {C' : List Chunk} (hs : ∀ w, St w0 O C w → St w0 O C' w) (h : WI P l w0 O c Q N D L C') : WI P l w0 O c Q N D L C := fun a w hF hS => h a w hF (hs w hS)
theorem WI.know {c : Code} {φ : Prop} (hs : ∀ w, St w0 O C w → φ) (h : φ → WI P l w0 O c Q N D L C) : WI P l w0 O c Q N D L C := fun a w hF hS => h (hs w hS) a w hF hS
/-- A region that draws, in a round. -/
theorem WI.drawsL {id : Nat} {r : List Oper} {Fs : List (List Nat × (World → Prop))} (hQ : ¬ LetsOut Q) (hd : (r.all fun o => !isDefer o.op) = true) (hm : P.follows .mixedOrders = true) (hF : FactsOk w0 O L C Fs)
  (h : WD P w0 O r.toArray Q Fs r.length (Array.replicate r.length false) N D L C) : WI P l w0 O (.region id r.toArray true) Q N D L C := fun a w hFr hS => by
 refine wpIn_region_any hm (any_in (.inr ⟨l, rfl⟩) hQ (by simpa using hd) _ _ _ _ (wpAny_of_T (Fs := Fs) _ _ _ _ ?_))
 have hc : Closed r.toArray (Array.replicate r.length false) := by
  intro j oj _ hl
  rcases Nat.lt_or_ge j r.length with h' | h'
  ·simp [h'] at hl
  ·simp [h'] at hl
 have hS' : St w0 O C { w with drawn := w.drawn + 1 } := ⟨hS.os, hS.tape, hS.output, hS.size, hS.old, fun c hc => c.loc w _ (fun _ _ => rfl) (hS.ok c hc), hS.bnd, hS.disj⟩
 have h1 := h hc a { w with drawn := w.drawn + 1 } hFr hS' (fun f hf _ => hF _ hS' f hf)
 simpa using h1
/-! ### a region that yields -/
theorem WIL.nil (h : WQ w0 O Q .normal N D L C) : WA w0 O (wpListIn Fence.wide 0 P ops Q []) N D L C := fun a w hF hS => h a w hF hS
theorem WIL.step {o : Oper} {rest : List Oper} (hQ : ¬ LetsOut Q) (hd : isDefer o.op = false) (h : WK P w0 O ops Q o (wpListIn Fence.wide 0 P ops Q rest) N D L C) : WA w0 O (wpListIn Fence.wide 0 P ops Q (o :: rest)) N D L C := fun a w hF hS =>
 wpO_in (.inl rfl) hd hQ (h a w hF hS)
theorem WIL.guardT {o : Oper} {rest : List Oper} {j : Nat} {g : Bool} {dj : Nat} (hgd : o.guard = some (j, g)) (hj : (ops[j]?).bind (·.dst) = some dj) (hv : lk L dj = some (.bool g))
  (h : WA w0 O (wpListIn Fence.wide 0 P ops Q ({ o with guard := none } :: rest)) N D L C) : WA w0 O (wpListIn Fence.wide 0 P ops Q (o :: rest)) N D L C := fun a w hF hS => by
 have h' := h a w hF hS
 have hw : Region.wanted o (yielded ops a.tmps) = true := by
  have := hF.get dj _ hv
  simp [Region.wanted, hgd, yielded, hj, this]
 unfold wpListIn at h' ⊢
 rw [if_pos hw]
 rw [if_pos (by simp [Region.wanted])] at h'
 exact h'
variable {d : Nat} {ty : TypeId} {pos : String} {af : Array Edge}
end
/-! ### the statement -/
/-- One block that is no row of cells. -/
def ob1 (b : Nat) (o : Obj) : Chunk where
 fp k := k = b
 ok w := w.heap[b]? = some o
 loc w w' h hw := by rw [h b rfl]; exact hw
theorem FpIs.ob1 {b : Nat} {o : Obj} : FpIs (ob1 b o) [b] := fun k => by simp [Eng.ob1]
section
variable {P : Program} {w0 : World} {O : List Nat} {ops : Array Oper} {Q : Exit → Act → World → Prop} {N : Nat} {D : List Deferred} {L : FL} {C : List Chunk} {K : Act → World → Prop}
/-- What a round begins with. -/
def putL : List Nat → List Value → FL → FL
 | p :: ps, v :: vs, L => putL ps vs ((p, v) :: L)
 | _, _, L => L
theorem Fr.putL {Dd : List Deferred} : ∀ (ps : List Nat) (vs : List Value) {L : FL} {t : Array Value}, (ps.all fun p => Nat.blt p N) = true → Fr N Dd L { tmps := t, defers := Dd } →
  Fr N Dd (Eng.putL ps vs L) { tmps := (ps.zip vs).foldl (fun t (q : Nat × Value) => t.setIfInBounds q.1 q.2) t, defers := Dd }
 | [], _, _, _, _, h => by simpa [Eng.putL] using h
 | _ :: _, [], _, _, _, h => by simpa [Eng.putL] using h
 | p :: ps, v :: vs, L, t, hp, h => by
  simp only [List.all_cons, Bool.and_eq_true] at hp
  simp only [Eng.putL, List.zip_cons_cons, List.foldl_cons]
  exact Fr.putL ps vs hp.2 (h.put p v hp.1)
/-- How a round ends: on it goes. -/
def rdPost (G : Prop → Prop) (w1 : World) (O : List Nat) {σ : Type} (I : σ → Prop) (J : σ → List Chunk) : Exit → Act → World → Prop
 | .normal, _, w => ∃ y, I y ∧ St w1 O (J y) w
 | _, _, _ => False
/-- Between the assignment to the loop's left sides and the body. -/
def beginK (P : Program) (l : Nat) (body : Code) (Q : Exit → Act → World → Prop) (a : Act) (w : World) : Prop := ∃ w2, (Instr.beginRound l).run P w = .ok () w2 ∧ body.wpIn (FR l) 0 P Q a w2
abbrev recOf (fn : FuncId) (t : Array Value) (ps : List Nat) (assign body : Code) (Db : Nat) : Loop := { state := .ready, pending := none, fn, tmps := t, params := ps.toArray, assign, body, defers := Db }
/-! ### a function that holds such a statement -/
/-- The body returns, its marks taken. -/
def bodyPostR (P : Program) (fn : Func) (R : Ending → World → Prop) : Exit → Act → World → Prop
 | .normal, a, w | .ret, a, w => LeavesInM Fence.wide 0 P fn a.tmps R a.defers .returning w
 | _, _, _ => False
end
end Go.Eng

/-
 A row of sets: their nodes, to be read. By an AI agent.
-/
namespace Go.Proofs.YtkgllhkhdjodeaaGreat
open Go Go.Eng Go.Proofs Dg
abbrev DV := BT × Option Addr × Nat
def RdIn (w : World) (x : DV) (F : List Nat) : Prop := x.1.ok 0 ∧ ∀ (j : Nat) (u : Value), (decs (canon x.1).1)[j]? = some u → ∃ b off, x.2.1 = some ⟨b, off, none⟩ ∧ w.cell? ⟨b, off + j, none⟩ = some u ∧ b ∈ F
def dsC (F : List Nat) (l : List DV) : Chunk where
 fp k := k ∈ F
 ok w := ∀ x ∈ l, RdIn w x F
 loc w w' h hw := fun x hx => ⟨(hw x hx).1, fun j u hu => by
  obtain ⟨b, off, e1, e2, e3⟩ := (hw x hx).2 j u hu
  exact ⟨b, off, e1, by rw [World.cell?_of_block (h b e3)]; exact e2, e3⟩⟩
theorem FpIs.dsC {F : List Nat} {l : List DV} : FpIs (dsC F l) F := fun k => Iff.rfl
theorem dsC_rd {F : List Nat} {l : List DV} {w : World} {x : DV} (h : (dsC F l).ok w) (hx : x ∈ l) : RdD w x.1 x.2.1 := ⟨(h x hx).1, fun j u hu => by
 obtain ⟨b, off, e1, e2, _⟩ := (h x hx).2 j u hu
 exact ⟨b, off, e1, e2⟩⟩
abbrev dcs (l : List DV) : List Value := l.flatMap fun x => [.slice x.2.1 (canon x.1).1.length x.2.2, .int .i64 ((canon x.1).2 : Int)]
theorem dcs_append (l m : List DV) : dcs (l ++ m) = dcs l ++ dcs m := by simp [dcs]
theorem dcs_len : ∀ l : List DV, (dcs l).length = l.length * 2
 | [] => rfl
 | x :: l => by
  have ih := dcs_len l
  simp only [dcs, List.flatMap_cons, List.length_append, List.length_cons, List.length_nil] at ih ⊢
  omega
theorem dcs_at : ∀ {l : List DV} {k : Nat} {x : DV}, l[k]? = some x → ∀ j u, [Value.slice x.2.1 (canon x.1).1.length x.2.2, .int .i64 ((canon x.1).2 : Int)][j]? = some u → (dcs l)[k * 2 + j]? = some u
 | y :: l, 0, x, h, j, u, hu => by
  simp at h; subst h
  have hj : j < 2 := by have := (List.getElem?_eq_some_iff.1 hu).1; simpa using this
  simp only [dcs, List.flatMap_cons, Nat.zero_mul, Nat.zero_add]
  rw [List.getElem?_append_left (by simpa using hj)]
  exact hu
 | y :: l, k + 1, x, h, j, u, hu => by
  have ih := dcs_at (l := l) (k := k) (by simpa using h) j u hu
  simp only [dcs, List.flatMap_cons] at ih ⊢
  rw [List.getElem?_append_right (by simp; omega), show (k + 1) * 2 + j - [Value.slice y.2.1 (canon y.1).1.length y.2.2, .int .i64 ((canon y.1).2 : Int)].length = k * 2 + j by simp; omega]
  exact ih
section
variable {w0 : World} {O : List Nat} {C : List Chunk}
theorem St.dsNil {w : World} (h : St w0 O C w) : St w0 O (dsC [] [] :: C) w :=
 ⟨h.os, h.tape, h.output, h.size, h.old, fun c hc => by
  rcases List.mem_cons.1 hc with rfl | hc
  ·intro x hx; cases hx
  ·exact h.ok c hc, fun c hc k hk => by
  rcases List.mem_cons.1 hc with rfl | hc
  ·cases hk
  ·exact h.bnd c hc k hk, List.Pairwise.cons (fun _ _ _ hk => by cases hk) h.disj⟩
theorem St.dsSnoc {w : World} {F : List Nat} {l : List DV} {t : BT} {a : Option Addr} {c : Nat} (ht : t.ok 0) (h : St w0 O (dsC F l :: dC a c t :: C) w) : ∃ F', St w0 O (dsC F' (l ++ [(t, a, c)]) :: C) w := by
 have hok : (dC a c t).ok w := h.ok _ (List.mem_cons_of_mem _ (List.mem_cons_self ..))
 have hob : ∃ G : List Nat, (∀ k ∈ G, (dC a c t).fp k) ∧ RdIn w (t, a, c) G := by
  by_cases h0 : (canon t).1.length = 0
  ·exact ⟨[], by simp, ht, fun j u hu => by
    have := (List.getElem?_eq_some_iff.1 hu).1
    rw [decs_len] at this
    dsimp only at this
    omega⟩
  ·obtain ⟨g, hg, _, _⟩ := rowc_addr hok (by omega)
   subst hg
   exact ⟨[g], fun k hk => by simp at hk; subst hk; rfl, ht, fun j u hu => ⟨g, 0, rfl, by rw [Nat.zero_add]; exact rowc_cells hok hu, by simp⟩⟩
 obtain ⟨G, hG1, hG2⟩ := hob
 refine ⟨F ++ G, h.join (fun k hk => ?_) (fun hc hd _ => ?_)⟩
 ·rcases List.mem_append.1 hk with hk | hk
  ·exact .inl hk
  ·exact .inr (hG1 k hk)
 ·intro x hx
  rcases List.mem_append.1 hx with hx | hx
  ·exact ⟨(hc x hx).1, fun j u hu => by
    obtain ⟨b, off, e1, e2, e3⟩ := (hc x hx).2 j u hu
    exact ⟨b, off, e1, e2, List.mem_append_left _ e3⟩⟩
  ·rw [List.mem_singleton.1 hx]
   exact ⟨hG2.1, fun j u hu => by
    obtain ⟨b, off, e1, e2, e3⟩ := hG2.2 j u hu
    exact ⟨b, off, e1, e2, List.mem_append_right _ e3⟩⟩
end
end Go.Proofs.YtkgllhkhdjodeaaGreat

/-
 Rows of sets, to be read. By an AI agent.
-/
namespace Go.Proofs.YtkgllhkhdjodeaaGreat
open Go Go.Eng Go.Proofs Dg
structure RdDL (w : World) (ds : List DV) (a : Option Addr) : Prop where
 hd : ∀ (j : Nat) (u : Value), (dcs ds)[j]? = some u → ∃ b off, a = some ⟨b, off, none⟩ ∧ w.cell? ⟨b, off + j, none⟩ = some u
 rd : ∀ x ∈ ds, RdD w x.1 x.2.1
theorem RdDL.next {w0 w : World} {C : List Chunk} {ds : List DV} {a : Option Addr} (h : RdDL w0 ds a) (hS : St w0 [] C w) : RdDL w ds a :=
 ⟨fun j u hu => by
  obtain ⟨b, off, h1, h2⟩ := h.hd j u hu
  exact ⟨b, off, h1, hS.oldc h2 (by simp)⟩, fun x hx => (h.rd x hx).next0 hS⟩
theorem RdDL.of_row {w : World} {ds : List DV} {a : Option Addr} {n cap : Nat} {e : TypeId} {F : List Nat} (hn : n = ds.length) (h : (rowc (.slice a n cap) n e 2 (dcs ds)).ok w) (h2 : (dsC F ds).ok w) : RdDL w ds a :=
 ⟨fun j u hu => by
  have hlt := (List.getElem?_eq_some_iff.1 hu).1
  rw [dcs_len] at hlt
  obtain ⟨g, hg, _, _⟩ := rowc_addr h (by omega)
  subst hg
  exact ⟨g, 0, rfl, by rw [Nat.zero_add]; exact rowc_cells h hu⟩, fun x hx => dsC_rd h2 hx⟩
theorem RdDL.at {w : World} {ds : List DV} {a : Option Addr} (h : RdDL w ds a) {i : Nat} {x : DV} (hx : ds[i]? = some x) : ∃ b off, a = some ⟨b, off, none⟩ ∧ (∀ j v, [Value.slice x.2.1 (canon x.1).1.length x.2.2, .int .i64 ((canon x.1).2 : Int)][j]? = some v → w.cell? ⟨b, off + i * 2 + j, none⟩ = some v) ∧ RdD w x.1 x.2.1 := by
 obtain ⟨b, off, h1, _⟩ := h.hd (i * 2 + 0) _ (dcs_at hx 0 _ rfl)
 refine ⟨b, off, h1, fun j v hv => ?_, h.rd x (List.mem_of_getElem? hx)⟩
 obtain ⟨b', off', h3, h4⟩ := h.hd (i * 2 + j) v (dcs_at hx j v hv)
 rw [h1] at h3
 injection h3 with h3
 injection h3 with h5 h6
 subst h5; subst h6
 rw [Nat.add_assoc]; exact h4
end Go.Proofs.YtkgllhkhdjodeaaGreat

namespace Go.Proofs.YtkgllhkhdjodeaaGreat
open Go Go.Eng Go.Proofs Dg
structure ManyG where
  i : Nat
  t : BT
  ad : Option Addr
  ac : Nat
abbrev dvl (x : DV) : List Value := [.slice x.2.1 (canon x.1).1.length x.2.2, .int .i64 ((canon x.1).2 : Int)]

theorem AndAll_c (ds : List DV) (a : Option Addr) (cap : Nat) (hll : ds.length ≤ 1099511627776) (w : World) (hr : RdDL w ds a) : Calls Tryz.prog 101 [.slice a ds.length cap].toArray w (DPost (fun cf => ds.all (fun x => x.1.ev cf)) w) := by
  refine enter Tryz.func101 rfl Tryz.ntmps101 rfl (St.init _) ?_
  refine WC.seq ?_
  refine WC.region ?_
  refine WL.step ?_
  refine WL.alloc F.zero35 rfl (fun b2 => ?_)
  refine WL.nil ?_
  refine WQ.then_normal ?_
  refine WC.seq ?_
  refine WC.region ?_
  refine WL.step ?_
  refine WL.call0 (β := DRes (fun _ => true)) (res := fun z => .returned z.v) (cs := fun z => [z.ch]) (ψ := fun _ => True) F.fun74 (fun d h => by cases h; rfl) rfl (fun w hS => (True_c w).mono (fun e w2 ⟨x, h1, h2⟩ => ⟨x, trivial, h1, h2⟩)) (fun z6 _ => ?_)
  refine WL.step ?_
  refine WL.alloc F.zero35 rfl (fun b3 => ?_)
  refine WL.step ?_
  refine WL.storeN F.agg35 rfl rfl rfl (by simp [Value.oneCell']) (by repeat (first | exact Upd.here | apply Upd.there)) (by repeat constructor) ?_
  refine WL.nil ?_
  refine WQ.then_normal ?_
  refine WC.seq ?_
  refine WC.seq ?_
  refine WC.region ?_
  refine WL.step ?_
  refine WL.move rfl rfl ?_
  refine WL.step ?_
  refine WL.lenSl F.und48 rfl rfl ?_
  refine WL.step ?_
  refine WL.move rfl rfl ?_
  refine WL.nil ?_
  refine WQ.then_normal ?_
  refine WC.block ?_
  refine WC.chunks (C' := [pt b2 [.slice none 0 0, .int .i64 0] 35, pt b3 [.slice z6.1.2.1 (canon z6.1.1).1.length z6.1.2.2, .int .i64 ((canon z6.1.1).2 : Int)] 35, z6.ch]) (fun w hS => ((St.pick (St.pick (St.pick hS (c := z6.ch) (by repeat (first | exact Rem.here | apply Rem.there))) (c := pt b3 [.slice z6.1.2.1 (canon z6.1.1).1.length z6.1.2.2, .int .i64 ((canon z6.1.1).2 : Int)] 35) (by repeat (first | exact Rem.here | apply Rem.there))) (c := pt b2 [.slice none 0 0, .int .i64 0] 35) (by repeat (first | exact Rem.here | apply Rem.there)))).sublist (List.Sublist.cons_cons _ (List.Sublist.cons_cons _ (List.Sublist.cons_cons _ (List.nil_sublist _))))) ?_
  refine WC.loop (α := ManyG) (fun g => g.i ≤ ds.length ∧ g.t.ok 0 ∧ ∀ cf, g.t.ev cf = (ds.take g.i).all (fun x => x.1.ev cf)) (fun g => [(2, pp b2), (3, pp b3), (7, .slice a ds.length cap), (8, .int .i64 (ds.length : Int)), (9, .int .i64 (g.i : Int))]) (fun g => [pt b2 [.slice none 0 0, .int .i64 0] 35, pt b3 [.slice g.ad (canon g.t).1.length g.ac, .int .i64 ((canon g.t).2 : Int)] 35, dC g.ad g.ac g.t]) (fun g => ds.length - g.i) (⟨0, z6.1.1, z6.1.2.1, z6.1.2.2⟩) ?_ ?_ ?_ ?_
  · exact ⟨Nat.zero_le _, z6.2.1, fun cf => by rw [z6.2.2]; rfl⟩
  · exact ⟨rfl, rfl, rfl, rfl, rfl, trivial⟩
  · rfl
  rintro ⟨i, t, ad, ac⟩ ⟨hi, hok, hev⟩
  dsimp only at hi hok hev
  show WC _ _ _ _ _ _ _ [(2, pp b2), (3, pp b3), (7, .slice a ds.length cap), (8, .int .i64 (ds.length : Int)), (9, .int .i64 (i : Int))] [pt b2 [.slice none 0 0, .int .i64 0] 35, pt b3 [.slice ad (canon t).1.length ac, .int .i64 ((canon t).2 : Int)] 35, dC ad ac t]
  refine WC.seq ?_
  refine WC.region ?_
  refine WL.step ?_
  refine WL.ltI rfl rfl rfl ?_
  refine WL.nil ?_
  refine WQ.then_normal ?_
  refine WC.seq ?_
  refine WC.cond rfl (fun h10 => ?_) (fun h10 => ?_)
  · skip
    have hlt : i < ds.length := by simpa using h10
    obtain ⟨x, hx⟩ : ∃ x, ds[i]? = some x := ⟨_, List.getElem?_eq_getElem hlt⟩
    obtain ⟨b, off, rfl, hcx, hrx⟩ := hr.at hx
    refine WC.skip ?_
    refine WQ.then_normal ?_
    refine WC.seq ?_
    refine WC.block ?_
    refine WC.seq ?_
    refine WC.region ?_
    refine WL.step ?_
    refine WL.indexAddr F.sl48 rfl rfl rfl hlt ?_
    refine WL.step ?_
    refine WL.loadN F.agg35 rfl rfl (vs := dvl x) rfl (fun w hS j v hv => hS.oldc (hcx j v hv) (by simp)) ?_
    refine WL.step ?_
    refine WL.alloc F.zero35 rfl (fun b5 => ?_)
    refine WL.step ?_
    refine WL.storeN F.agg35 rfl rfl rfl (by simp [Value.oneCell']) (by repeat (first | exact Upd.here | apply Upd.there)) (by repeat constructor) ?_
    refine WL.nil ?_
    refine WQ.then_normal ?_
    refine WC.region ?_
    refine WL.step ?_
    refine WL.loadW F.agg35 rfl rfl (by repeat (first | exact List.Mem.head _ | apply List.Mem.tail)) rfl ?_
    refine WL.step ?_
    refine WL.loadW F.agg35 rfl rfl (by repeat (first | exact List.Mem.head _ | apply List.Mem.tail)) rfl ?_
    refine WL.step ?_
    refine WL.call0 (β := DRes (fun cf => t.ev cf && x.1.ev cf)) (res := fun z => .returned z.v) (cs := fun z => [z.ch]) (ψ := fun _ => True) F.fun75 (fun d h => by cases h; rfl) rfl (fun w hS => (And_c t x.1 ad x.2.1 ac x.2.2 w (RdD.of_row hok (hS.ok (dC ad ac t) (by repeat (first | exact List.Mem.head _ | apply List.Mem.tail)))) (hrx.next0 hS)).mono (fun e w2 ⟨x, h1, h2⟩ => ⟨x, trivial, h1, h2⟩)) (fun z15 _ => ?_)
    refine WL.step ?_
    refine WL.storeN F.agg35 rfl rfl rfl (by simp [Value.oneCell']) (by repeat (first | exact Upd.here | apply Upd.there)) (by repeat constructor) ?_
    refine WL.nil ?_
    refine WQ.block_normal ?_
    refine WQ.then_normal ?_
    refine WC.region ?_
    refine WL.step ?_
    refine WL.add rfl rfl rfl ⟨by omega, by omega⟩ ?_
    refine WL.step ?_
    refine WL.move rfl rfl ?_
    refine WL.nil ?_
    refine WQ.chunks (C' := [pt b2 [.slice none 0 0, .int .i64 0] 35, pt b3 [.slice z15.1.2.1 (canon z15.1.1).1.length z15.1.2.2, .int .i64 ((canon z15.1.1).2 : Int)] 35, z15.ch]) (fun w hS => ((St.pick (St.pick (St.pick hS (c := z15.ch) (by repeat (first | exact Rem.here | apply Rem.there))) (c := pt b3 [.slice z15.1.2.1 (canon z15.1.1).1.length z15.1.2.2, .int .i64 ((canon z15.1.1).2 : Int)] 35) (by repeat (first | exact Rem.here | apply Rem.there))) (c := pt b2 [.slice none 0 0, .int .i64 0] 35) (by repeat (first | exact Rem.here | apply Rem.there)))).sublist (List.Sublist.cons_cons _ (List.Sublist.cons_cons _ (List.Sublist.cons_cons _ (List.nil_sublist _))))) ?_
    refine WQ.back (⟨i + 1, z15.1.1, z15.1.2.1, z15.1.2.2⟩) ?_ ?_ ?_ ?_
    · exact ⟨by show i + 1 ≤ ds.length; omega, z15.2.1, fun cf => by (show z15.1.1.ev cf = _; rw [z15.2.2]; dsimp only; rw [hev, List.take_add_one, hx]; simp)⟩
    · (show ds.length - (i + 1) < ds.length - i; omega)
    · exact ⟨rfl, rfl, rfl, rfl, rfl, trivial⟩
    · rfl
  · skip
    have hie : i = ds.length := by simp at h10; omega
    subst hie
    rw [List.take_length] at hev
    refine WC.exit ?_
    refine WQ.then_exit ?_
    refine WQ.then_exit ?_
    refine WQ.block_exit ?_
    refine WQ.then_normal ?_
    refine WC.seq ?_
    refine WC.region ?_
    refine WL.step ?_
    refine WL.loadW F.agg35 rfl rfl (by repeat (first | exact List.Mem.head _ | apply List.Mem.tail)) rfl ?_
    refine WL.step ?_
    refine WL.storeN F.agg35 rfl rfl rfl (by simp [Value.oneCell']) (by repeat (first | exact Upd.here | apply Upd.there)) (by repeat constructor) ?_
    refine WL.nil ?_
    refine WQ.then_normal ?_
    refine WC.ret ?_
    refine WQ.ret (rs := [.cell 2 35]) rfl (.cellN F.agg35 rfl (by repeat (first | exact List.Mem.head _ | apply List.Mem.tail)) rfl .nil) (fun w hS => ⟨⟨(t, ad, ac), hok, hev⟩, rfl, ((St.pick hS (c := dC ad ac t) (by repeat (first | exact Rem.here | apply Rem.there)))).sublist (List.Sublist.cons_cons _ (List.nil_sublist _))⟩)

theorem OrAll_c (ds : List DV) (a : Option Addr) (cap : Nat) (hll : ds.length ≤ 1099511627776) (w : World) (hr : RdDL w ds a) : Calls Tryz.prog 102 [.slice a ds.length cap].toArray w (DPost (fun cf => ds.any (fun x => x.1.ev cf)) w) := by
  refine enter Tryz.func102 rfl Tryz.ntmps102 rfl (St.init _) ?_
  refine WC.seq ?_
  refine WC.region ?_
  refine WL.step ?_
  refine WL.alloc F.zero35 rfl (fun b2 => ?_)
  refine WL.nil ?_
  refine WQ.then_normal ?_
  refine WC.seq ?_
  refine WC.region ?_
  refine WL.step ?_
  refine WL.call0 (β := DRes (fun _ => false)) (res := fun z => .returned z.v) (cs := fun z => [z.ch]) (ψ := fun _ => True) F.fun103 (fun d h => by cases h; rfl) rfl (fun w hS => (False_c w).mono (fun e w2 ⟨x, h1, h2⟩ => ⟨x, trivial, h1, h2⟩)) (fun z6 _ => ?_)
  refine WL.step ?_
  refine WL.alloc F.zero35 rfl (fun b3 => ?_)
  refine WL.step ?_
  refine WL.storeN F.agg35 rfl rfl rfl (by simp [Value.oneCell']) (by repeat (first | exact Upd.here | apply Upd.there)) (by repeat constructor) ?_
  refine WL.nil ?_
  refine WQ.then_normal ?_
  refine WC.seq ?_
  refine WC.seq ?_
  refine WC.region ?_
  refine WL.step ?_
  refine WL.move rfl rfl ?_
  refine WL.step ?_
  refine WL.lenSl F.und48 rfl rfl ?_
  refine WL.step ?_
  refine WL.move rfl rfl ?_
  refine WL.nil ?_
  refine WQ.then_normal ?_
  refine WC.block ?_
  refine WC.chunks (C' := [pt b2 [.slice none 0 0, .int .i64 0] 35, pt b3 [.slice z6.1.2.1 (canon z6.1.1).1.length z6.1.2.2, .int .i64 ((canon z6.1.1).2 : Int)] 35, z6.ch]) (fun w hS => ((St.pick (St.pick (St.pick hS (c := z6.ch) (by repeat (first | exact Rem.here | apply Rem.there))) (c := pt b3 [.slice z6.1.2.1 (canon z6.1.1).1.length z6.1.2.2, .int .i64 ((canon z6.1.1).2 : Int)] 35) (by repeat (first | exact Rem.here | apply Rem.there))) (c := pt b2 [.slice none 0 0, .int .i64 0] 35) (by repeat (first | exact Rem.here | apply Rem.there)))).sublist (List.Sublist.cons_cons _ (List.Sublist.cons_cons _ (List.Sublist.cons_cons _ (List.nil_sublist _))))) ?_
  refine WC.loop (α := ManyG) (fun g => g.i ≤ ds.length ∧ g.t.ok 0 ∧ ∀ cf, g.t.ev cf = (ds.take g.i).any (fun x => x.1.ev cf)) (fun g => [(2, pp b2), (3, pp b3), (7, .slice a ds.length cap), (8, .int .i64 (ds.length : Int)), (9, .int .i64 (g.i : Int))]) (fun g => [pt b2 [.slice none 0 0, .int .i64 0] 35, pt b3 [.slice g.ad (canon g.t).1.length g.ac, .int .i64 ((canon g.t).2 : Int)] 35, dC g.ad g.ac g.t]) (fun g => ds.length - g.i) (⟨0, z6.1.1, z6.1.2.1, z6.1.2.2⟩) ?_ ?_ ?_ ?_
  · exact ⟨Nat.zero_le _, z6.2.1, fun cf => by rw [z6.2.2]; rfl⟩
  · exact ⟨rfl, rfl, rfl, rfl, rfl, trivial⟩
  · rfl
  rintro ⟨i, t, ad, ac⟩ ⟨hi, hok, hev⟩
  dsimp only at hi hok hev
  show WC _ _ _ _ _ _ _ [(2, pp b2), (3, pp b3), (7, .slice a ds.length cap), (8, .int .i64 (ds.length : Int)), (9, .int .i64 (i : Int))] [pt b2 [.slice none 0 0, .int .i64 0] 35, pt b3 [.slice ad (canon t).1.length ac, .int .i64 ((canon t).2 : Int)] 35, dC ad ac t]
  refine WC.seq ?_
  refine WC.region ?_
  refine WL.step ?_
  refine WL.ltI rfl rfl rfl ?_
  refine WL.nil ?_
  refine WQ.then_normal ?_
  refine WC.seq ?_
  refine WC.cond rfl (fun h10 => ?_) (fun h10 => ?_)
  · skip
    have hlt : i < ds.length := by simpa using h10
    obtain ⟨x, hx⟩ : ∃ x, ds[i]? = some x := ⟨_, List.getElem?_eq_getElem hlt⟩
    obtain ⟨b, off, rfl, hcx, hrx⟩ := hr.at hx
    refine WC.skip ?_
    refine WQ.then_normal ?_
    refine WC.seq ?_
    refine WC.block ?_
    refine WC.seq ?_
    refine WC.region ?_
    refine WL.step ?_
    refine WL.indexAddr F.sl48 rfl rfl rfl hlt ?_
    refine WL.step ?_
    refine WL.loadN F.agg35 rfl rfl (vs := dvl x) rfl (fun w hS j v hv => hS.oldc (hcx j v hv) (by simp)) ?_
    refine WL.step ?_
    refine WL.alloc F.zero35 rfl (fun b5 => ?_)
    refine WL.step ?_
    refine WL.storeN F.agg35 rfl rfl rfl (by simp [Value.oneCell']) (by repeat (first | exact Upd.here | apply Upd.there)) (by repeat constructor) ?_
    refine WL.nil ?_
    refine WQ.then_normal ?_
    refine WC.region ?_
    refine WL.step ?_
    refine WL.loadW F.agg35 rfl rfl (by repeat (first | exact List.Mem.head _ | apply List.Mem.tail)) rfl ?_
    refine WL.step ?_
    refine WL.loadW F.agg35 rfl rfl (by repeat (first | exact List.Mem.head _ | apply List.Mem.tail)) rfl ?_
    refine WL.step ?_
    refine WL.call0 (β := DRes (fun cf => t.ev cf || x.1.ev cf)) (res := fun z => .returned z.v) (cs := fun z => [z.ch]) (ψ := fun _ => True) F.fun105 (fun d h => by cases h; rfl) rfl (fun w hS => (Or_c t x.1 ad x.2.1 ac x.2.2 w (RdD.of_row hok (hS.ok (dC ad ac t) (by repeat (first | exact List.Mem.head _ | apply List.Mem.tail)))) (hrx.next0 hS)).mono (fun e w2 ⟨x, h1, h2⟩ => ⟨x, trivial, h1, h2⟩)) (fun z15 _ => ?_)
    refine WL.step ?_
    refine WL.storeN F.agg35 rfl rfl rfl (by simp [Value.oneCell']) (by repeat (first | exact Upd.here | apply Upd.there)) (by repeat constructor) ?_
    refine WL.nil ?_
    refine WQ.block_normal ?_
    refine WQ.then_normal ?_
    refine WC.region ?_
    refine WL.step ?_
    refine WL.add rfl rfl rfl ⟨by omega, by omega⟩ ?_
    refine WL.step ?_
    refine WL.move rfl rfl ?_
    refine WL.nil ?_
    refine WQ.chunks (C' := [pt b2 [.slice none 0 0, .int .i64 0] 35, pt b3 [.slice z15.1.2.1 (canon z15.1.1).1.length z15.1.2.2, .int .i64 ((canon z15.1.1).2 : Int)] 35, z15.ch]) (fun w hS => ((St.pick (St.pick (St.pick hS (c := z15.ch) (by repeat (first | exact Rem.here | apply Rem.there))) (c := pt b3 [.slice z15.1.2.1 (canon z15.1.1).1.length z15.1.2.2, .int .i64 ((canon z15.1.1).2 : Int)] 35) (by repeat (first | exact Rem.here | apply Rem.there))) (c := pt b2 [.slice none 0 0, .int .i64 0] 35) (by repeat (first | exact Rem.here | apply Rem.there)))).sublist (List.Sublist.cons_cons _ (List.Sublist.cons_cons _ (List.Sublist.cons_cons _ (List.nil_sublist _))))) ?_
    refine WQ.back (⟨i + 1, z15.1.1, z15.1.2.1, z15.1.2.2⟩) ?_ ?_ ?_ ?_
    · exact ⟨by show i + 1 ≤ ds.length; omega, z15.2.1, fun cf => by (show z15.1.1.ev cf = _; rw [z15.2.2]; dsimp only; rw [hev, List.take_add_one, hx]; simp)⟩
    · (show ds.length - (i + 1) < ds.length - i; omega)
    · exact ⟨rfl, rfl, rfl, rfl, rfl, trivial⟩
    · rfl
  · skip
    have hie : i = ds.length := by simp at h10; omega
    subst hie
    rw [List.take_length] at hev
    refine WC.exit ?_
    refine WQ.then_exit ?_
    refine WQ.then_exit ?_
    refine WQ.block_exit ?_
    refine WQ.then_normal ?_
    refine WC.seq ?_
    refine WC.region ?_
    refine WL.step ?_
    refine WL.loadW F.agg35 rfl rfl (by repeat (first | exact List.Mem.head _ | apply List.Mem.tail)) rfl ?_
    refine WL.step ?_
    refine WL.storeN F.agg35 rfl rfl rfl (by simp [Value.oneCell']) (by repeat (first | exact Upd.here | apply Upd.there)) (by repeat constructor) ?_
    refine WL.nil ?_
    refine WQ.then_normal ?_
    refine WC.ret ?_
    refine WQ.ret (rs := [.cell 2 35]) rfl (.cellN F.agg35 rfl (by repeat (first | exact List.Mem.head _ | apply List.Mem.tail)) rfl .nil) (fun w hS => ⟨⟨(t, ad, ac), hok, hev⟩, rfl, ((St.pick hS (c := dC ad ac t) (by repeat (first | exact Rem.here | apply Rem.there)))).sublist (List.Sublist.cons_cons _ (List.nil_sublist _))⟩)

theorem Ite_c (t1 t2 t3 : BT) (a1 a2 a3 : Option Addr) (c1 c2 c3 : Nat) (w : World) (hr1 : RdD w t1 a1) (hr2 : RdD w t2 a2) (hr3 : RdD w t3 a3) : Calls Tryz.prog 106 [dval t1 a1 c1, dval t2 a2 c2, dval t3 a3 c3].toArray w (DPost (fun cf => bif t1.ev cf then t2.ev cf else t3.ev cf) w) := by
  refine enter Tryz.func106 rfl Tryz.ntmps106 rfl (St.init _) ?_
  refine WC.seq ?_
  refine WC.region ?_
  refine WL.step ?_
  refine WL.boxN rfl rfl (fun b3 => ?_)
  refine WL.step ?_
  refine WL.boxN rfl rfl (fun b4 => ?_)
  refine WL.step ?_
  refine WL.boxN rfl rfl (fun b5 => ?_)
  refine WL.step ?_
  refine WL.alloc F.zero35 rfl (fun b6 => ?_)
  refine WL.nil ?_
  refine WQ.then_normal ?_
  refine WC.seq ?_
  refine WC.drawsL (by kernel_rfl) (FactsOk.cons (ds := [2, 4, 6, 7, 8]) (LoadOk.whole (t := 3) rfl (by repeat (first | exact List.Mem.head _ | apply List.Mem.tail))) (FactsOk.cons (ds := [2, 4, 6, 7, 8]) (LoadOk.whole (t := 4) rfl (by repeat (first | exact List.Mem.head _ | apply List.Mem.tail))) (FactsOk.cons (ds := [4, 6, 7, 8]) (LoadOk.whole (t := 3) rfl (by repeat (first | exact List.Mem.head _ | apply List.Mem.tail))) (FactsOk.cons (ds := [6, 7, 8]) (LoadOk.whole (t := 5) rfl (by repeat (first | exact List.Mem.head _ | apply List.Mem.tail))) (FactsOk.nil))))) ?_
  refine WD.take (i := 0) rfl rfl rfl rfl (by kernel_rfl) (by kernel_rfl) (by kernel_rfl) (fun _ _ _ h => h) (by kernel_rfl) (need_at 0 9 rfl (by kernel_rfl)) (Yl.loadN F.agg35 rfl rfl) ?_
  refine WD.take (i := 1) rfl rfl rfl rfl (by kernel_rfl) (by kernel_rfl) (by kernel_rfl) (fun _ _ _ h => h) (by kernel_rfl) (need_at 1 9 rfl (by kernel_rfl)) (Yl.loadN F.agg35 rfl rfl) ?_
  refine WD.take (i := 3) rfl rfl rfl rfl (by kernel_rfl) (by kernel_rfl) (by kernel_rfl) (fun _ _ _ h => h) (by kernel_rfl) (need_at 2 9 rfl (by kernel_rfl)) (Yl.loadN F.agg35 rfl rfl) ?_
  refine WD.take (i := 5) rfl rfl rfl rfl (by kernel_rfl) (by kernel_rfl) (by kernel_rfl) (fun _ _ _ h => h) (by kernel_rfl) (need_at 3 9 rfl (by kernel_rfl)) (Yl.loadN F.agg35 rfl rfl) ?_
  refine WD.one (i := 2) (by kernel_rfl) rfl ?_
  refine WL.call0 (β := DRes (fun cf => t1.ev cf && t2.ev cf)) (res := fun z => .returned z.v) (cs := fun z => [z.ch]) (ψ := fun _ => True) F.fun75 (fun d h => by cases h; rfl) rfl (fun w hS => (And_c t1 t2 a1 a2 c1 c2 w (hr1.next0 hS) (hr2.next0 hS)).mono (fun e w2 ⟨x, h1, h2⟩ => ⟨x, trivial, h1, h2⟩)) (fun z9 _ => ?_)
  refine WD.on (closed_of (by kernel_rfl)) (fun w hS => Sx.gone rfl (Sx.gone rfl (Sx.keep ((fun j v hv => by rw [Nat.zero_add]; exact hS.cell (by repeat (first | exact List.Mem.head _ | apply List.Mem.tail)) hv)) (Sx.keep ((fun j v hv => by rw [Nat.zero_add]; exact hS.cell (by repeat (first | exact List.Mem.head _ | apply List.Mem.tail)) hv)) (Sx.none))))) ?_
  refine WD.one (i := 4) (by kernel_rfl) rfl ?_
  refine WL.call0 (β := DRes (fun cf => !t1.ev cf)) (res := fun z => .returned z.v) (cs := fun z => [z.ch]) (ψ := fun _ => True) F.fun100 (fun d h => by cases h; rfl) rfl (fun w hS => (Not_c t1 a1 c1 w (hr1.next0 hS)).mono (fun e w2 ⟨x, h1, h2⟩ => ⟨x, trivial, h1, h2⟩)) (fun z11 _ => ?_)
  refine WD.on (closed_of (by kernel_rfl)) (fun w hS => Sx.gone rfl (Sx.gone rfl (Sx.gone rfl (Sx.keep ((fun j v hv => by rw [Nat.zero_add]; exact hS.cell (by repeat (first | exact List.Mem.head _ | apply List.Mem.tail)) hv)) (Sx.none))))) ?_
  refine WD.one (i := 6) (by kernel_rfl) rfl ?_
  refine WL.call0 (β := DRes (fun cf => z11.1.1.ev cf && t3.ev cf)) (res := fun z => .returned z.v) (cs := fun z => [z.ch]) (ψ := fun _ => True) F.fun75 (fun d h => by cases h; rfl) rfl (fun w hS => (And_c z11.1.1 t3 z11.1.2.1 a3 z11.1.2.2 c3 w (z11.rd hS (by repeat (first | exact List.Mem.head _ | apply List.Mem.tail))) (hr3.next0 hS)).mono (fun e w2 ⟨x, h1, h2⟩ => ⟨x, trivial, h1, h2⟩)) (fun z13 _ => ?_)
  refine WD.on (closed_of (by kernel_rfl)) (fun w hS => Sx.gone rfl (Sx.gone rfl (Sx.gone rfl (Sx.gone rfl (Sx.none))))) ?_
  refine WD.one (i := 7) (by kernel_rfl) rfl ?_
  refine WL.call0 (β := DRes (fun cf => z9.1.1.ev cf || z13.1.1.ev cf)) (res := fun z => .returned z.v) (cs := fun z => [z.ch]) (ψ := fun _ => True) F.fun105 (fun d h => by cases h; rfl) rfl (fun w hS => (Or_c z9.1.1 z13.1.1 z9.1.2.1 z13.1.2.1 z9.1.2.2 z13.1.2.2 w (z9.rd hS (by repeat (first | exact List.Mem.head _ | apply List.Mem.tail))) (z13.rd hS (by repeat (first | exact List.Mem.head _ | apply List.Mem.tail)))).mono (fun e w2 ⟨x, h1, h2⟩ => ⟨x, trivial, h1, h2⟩)) (fun z14 _ => ?_)
  refine WD.on (closed_of (by kernel_rfl)) (fun w hS => Sx.gone rfl (Sx.gone rfl (Sx.gone rfl (Sx.gone rfl (Sx.none))))) ?_
  refine WD.one (i := 8) (by kernel_rfl) rfl ?_
  refine WL.storeN F.agg35 rfl rfl rfl (by simp [Value.oneCell']) (by repeat (first | exact Upd.here | apply Upd.there)) (by repeat constructor) ?_
  refine WD.on (closed_of (by kernel_rfl)) (fun w hS => Sx.gone rfl (Sx.gone rfl (Sx.gone rfl (Sx.gone rfl (Sx.none))))) ?_
  refine WD.done (by kernel_rfl) ?_
  refine WQ.then_normal ?_
  refine WC.ret ?_
  refine WQ.ret (rs := [.cell 6 35]) rfl (.cellN F.agg35 rfl (by repeat (first | exact List.Mem.head _ | apply List.Mem.tail)) rfl .nil) (fun w hS => ⟨⟨z14.1, z14.2.1, fun cf => by rw [z14.2.2]; dsimp only; rw [z9.2.2, z13.2.2]; dsimp only; rw [z11.2.2]; dsimp only; cases t1.ev cf <;> simp⟩, rfl, ((St.pick hS (c := z14.ch) (by repeat (first | exact Rem.here | apply Rem.there)))).sublist (List.Sublist.cons_cons _ (List.nil_sublist _))⟩)

end Go.Proofs.YtkgllhkhdjodeaaGreat

namespace Fm
open Go Go.Eng
def SizeOk (T : List Tk) (r : RS) (q : Tree × RS) : RN → Prop
 | .rest i acc => r.1 ≤ q.2.1 ∧ q.2.1 ≤ T.length ∧ (rowT q.1).length ≤ (rowL acc).length + 2 * (q.2.1 - r.1) + (if acc.length = 1 then 0 else 1)
 | _ => r.1 ≤ q.2.1 ∧ q.2.1 ≤ T.length ∧ (rowT q.1).length ≤ 2 * (q.2.1 - r.1) + 1
mutual
/-- Are two trees equal? -/
def sameT : Tree → Tree → Bool
 | .mk o n k, .mk o' n' k' => decide (o = o') && n == n' && sameL k k'
def sameL : List Tree → List Tree → Bool
 | [], [] => true
 | a :: xs, b :: ys => sameT a b && sameL xs ys
 | _, _ => false
end
end Fm

namespace Fm
open Go Go.Eng
/-! ### how great a tree is -/
mutual
def cntT : Nat → Int → Tree → Int
  | lv, left, .mk _ name kids => if lv = 0 ∨ left - 1 < 0 ∨ 100 < name.length then -1 else cntL (lv - 1) (left - 1) kids
def cntL : Nat → Int → List Tree → Int
  | _, left, [] => left
  | lv, left, k :: ks => if left < 0 then left else cntL lv (cntT lv left k) ks
end
mutual
theorem cntT_le : ∀ (lv : Nat) (left : Int) (t : Tree), 0 ≤ left → cntT lv left t ≤ left - 1 ∧ -1 ≤ cntT lv left t
  | lv, left, .mk _ name kids, h => by
    simp only [cntT]
    split
    · omega
    · rename_i hc
      exact cntL_le (lv - 1) (left - 1) kids (by omega)
theorem cntL_le : ∀ (lv : Nat) (left : Int) (ts : List Tree), -1 ≤ left → cntL lv left ts ≤ left ∧ -1 ≤ cntL lv left ts
  | lv, left, [], h => by simp only [cntL]; omega
  | lv, left, k :: ks, h => by
    simp only [cntL]
    split
    · omega
    · have h1 := cntT_le lv left k (by omega)
      have h2 := cntL_le lv (cntT lv left k) ks h1.2
      omega
end
/-- Names of at most so many bytes. -/
def shortN (t : Tree) : Bool := decide (t.name.length ≤ 100)
mutual
theorem cntT_ok : ∀ (lv : Nat) (left : Int) (t : Tree), 0 ≤ cntT lv left t → cntT lv left t = left - (rowT t).length ∧ levT t ≤ lv ∧ (rowT t).all shortN = true
  | lv, left, .mk op name kids, h => by
    simp only [cntT] at h ⊢
    split at h
    · omega
    · rename_i hc
      rw [if_neg hc]
      obtain ⟨h1, h2, h3⟩ := cntL_ok (lv - 1) (left - 1) kids h
      simp only [rowT, levT, List.length_cons, List.all_cons, Bool.and_eq_true, h3, and_true]
      refine ⟨by rw [h1]; omega, ?_, by show decide (name.length ≤ 100) = true; simp; omega⟩
      rcases h2 with h2 | h2
      · subst h2; simp only [levL]; omega
      · omega
theorem cntL_ok : ∀ (lv : Nat) (left : Int) (ts : List Tree), 0 ≤ cntL lv left ts → cntL lv left ts = left - (rowL ts).length ∧ (ts = [] ∨ levL ts ≤ lv) ∧ (rowL ts).all shortN = true
  | lv, left, [], h => by simp [cntL, rowL]
  | lv, left, k :: ks, h => by
    simp only [cntL] at h ⊢
    split at h
    · omega
    · rename_i hc
      rw [if_neg hc]
      obtain ⟨h1, h2, h3⟩ := cntL_ok lv (cntT lv left k) ks h
      have h4 : 0 ≤ cntT lv left k := by omega
      obtain ⟨h5, h6, h7⟩ := cntT_ok lv left k h4
      simp only [rowL, levL, List.length_append, List.all_append, h3, h7, Bool.and_self, and_true]
      refine ⟨by rw [h1, h5]; omega, .inr ?_⟩
      rcases h2 with h2 | h2
      · subst h2; simp only [levL]; omega
      · omega
end
theorem cntT_mk (lv : Nat) (left : Int) (t : Tree) : cntT lv left t = if lv = 0 ∨ left - 1 < 0 ∨ 100 < t.name.length then -1 else cntL (lv - 1) (left - 1) t.kids := by
  obtain ⟨op, name, kids⟩ := t
  simp only [cntT]; rfl
theorem cntL_drop {lv : Nat} {left : Int} {ts : List Tree} {i : Nat} {k : Tree} (h : ts[i]? = some k) (hl : ¬ left < 0) : cntL lv left (ts.drop i) = cntL lv (cntT lv left k) (ts.drop (i + 1)) := by
  obtain ⟨l1, e1⟩ := List.getElem?_eq_some_iff.1 h
  rw [List.drop_eq_getElem_cons l1, e1, cntL, if_neg hl]
theorem cntL_stop {lv : Nat} {left : Int} {ts : List Tree} (hl : left < 0) : cntL lv left ts = left := by
  cases ts with
  | nil => rfl
  | cons k ks => rw [cntL, if_pos hl]
/-- Great: more than 1,200 nodes, or more levels, or a long name. -/
def greatB (t : Tree) (lv : Nat) : Bool := decide (cntT lv 1200 t < 0)
theorem great_no {t : Tree} {lv : Nat} (h : greatB t lv = false) : (rowT t).length ≤ 1200 ∧ levT t ≤ lv ∧ (rowT t).all shortN = true := by
  simp only [greatB, decide_eq_false_iff_not] at h
  obtain ⟨h1, h2, h3⟩ := cntT_ok lv 1200 t (by omega)
  exact ⟨by omega, h2, h3⟩
/-! ### the reference's text -/
def lineOf (op : Int) : Int := if op = 5 then 2 else if op = 7 then 3 else if op = 6 then 4 else if op = 8 then 5 else if op = 9 then 6 else if op = 10 then 7 else 1
def signR (op i : Int) : List UInt8 :=
  if op = 5 then [32, 38, 32] else if op = 7 then [32, 94, 32] else if op = 6 then [32, 124, 32] else if op = 8 then [32, 61, 62, 32] else if op = 9 then [32, 60, 61, 62, 32] else if i = 1 then [32, 63, 32] else [32, 58, 32]
def mostOf (op i : Int) : Int := if (op = 8 ∧ i = 1) ∨ (op = 10 ∧ 0 < i) then lineOf op else if op = 4 then 1 else lineOf op - 1
def headR (op i : Int) : List UInt8 := (if op = 4 then [33] else []) ++ (if 0 < i then signR op i else [])
mutual
def textT : Tree → List UInt8
  | .mk op name kids => if op = 1 then [48] else if op = 2 then [49] else if op = 3 then name else textL op 0 kids
def textL : Int → Int → List Tree → List UInt8
  | _, _, [] => []
  | op, i, k :: ks => headR op i ++ (if mostOf op i < lineOf k.op then [40] ++ textT k ++ [41] else textT k) ++ textL op (i + 1) ks
end
def kidR (op i : Int) (k : Tree) : List UInt8 := if mostOf op i < lineOf k.op then [40] ++ textT k ++ [41] else textT k
/-- What is said of the first kids. -/
def textTo (op : Int) : Nat → List Tree → List UInt8
  | 0, _ => []
  | i + 1, ts => textTo op i ts ++ (match ts[i]? with | some k => headR op i ++ kidR op i k | none => [])
end Fm

namespace Go.Proofs.YtkgllhkhdjodeaaGreat
open Go Go.Eng Go.Proofs
def RRpost (T : List Fm.Tk) (a : Option Addr) (c : Nat) (w : World) (q : Tree × Fm.RS) (e : Ending) (w' : World) : Prop :=
 ∃ y : List Nat × Option Addr × Nat, e = .returned (.tuple #[tv q.1 y.2.1 y.2.2, rdv T a c q.2]) ∧ St w [] [own y.1 q.1 (tv q.1 y.2.1 y.2.2)] w'
def RC (T : List Fm.Tk) (a : Option Addr) (c : Nat) (f : Nat) (args : List Value) (nt : Fm.RN) (n : Nat) : Prop := ∀ r q w, RdTk w T a → Fm.rp T n nt r = some q → Calls Tryz.prog f (rdv T a c r :: args).toArray w (RRpost T a c w q)

end Go.Proofs.YtkgllhkhdjodeaaGreat

namespace Go.Proofs.YtkgllhkhdjodeaaGreat
open Go Go.Eng Go.Proofs
structure RG2 where
 m : Nat
 acc : List Tree
 F : List Nat
 vs : List Value
 len : Nat
 cells : List Value
 ad : Option Addr
 cap : Nat
 r : Fm.RS
 ev : List Value

end Go.Proofs.YtkgllhkhdjodeaaGreat

namespace Go.Proofs.YtkgllhkhdjodeaaGreat
open Go Go.Eng Go.Proofs
def tkc (T : List Fm.Tk) : List Value := T.flatMap fun t => [.int .i64 (t.1 : Int), .string (str t.2)]
structure TG where
 n : Nat
 i : Nat
 out : List Fm.Tk
 ad : Option Addr
 cap : Nat
def lim (wd rest : List UInt8) : Nat := if wd = [] then (Fm.word rest).length else 0

end Go.Proofs.YtkgllhkhdjodeaaGreat

namespace Go.Proofs.YtkgllhkhdjodeaaGreat
open Go Go.Eng Go.Proofs
def RowC (n : Nat) : Prop := ∀ (t : Tree) (wb : World) (G : List Nat) (a : Option Addr) (c : Nat) (w : World), (Fm.rowT t).length ≤ n → rdT wb t G (tv t a c) → Ext wb w →
 Calls Tryz.prog 70 [tv t a c].toArray w fun e w' => ∃ x : { y : Option Addr × Nat × List Value // NodesOk wb (Fm.rowT t) y.2.2 }, e = .returned (.slice x.1.1 (Fm.rowT t).length x.1.2.1) ∧ St w [] [rowc (.slice x.1.1 (Fm.rowT t).length x.1.2.1) (Fm.rowT t).length 24 3 (flat x.1.2.2)] w'

theorem Row_step (n : Nat) (hn : n ≤ 1099511627776) (hrec : RowC n) : RowC (n + 1) := by
 intro t wb G a c w hsz hr hE
 refine enter Tryz.func70 rfl Tryz.ntmps70 rfl (St.init _) ?_
 refine jN 3 ?_
 refine WL.boxN rfl rfl (fun b1 => ?_)
 refine jN 9 ?_
 refine WL.buildSlice F.sl22 F.ez22 rfl rfl rfl rfl jB rfl (fun b6 => ?_)
 refine jN 12 ?_
 refine WC.chunks (C' := [pt b1 [Value.int .u8 t.op, .string (str t.name), .slice a t.kids.length c] 24, rowc (.slice (some ⟨b6, 0, none⟩) 1 1) 1 24 3 (flat [tv t a c])]) (fun w hS => ?_) ?_
 ·exact (jK (St.rowOf (n := 1) (sz := 3) (St.pick hS (c := pt b6 [Value.int .u8 t.op, .string (str t.name), .slice a t.kids.length c] 24) jR) rfl (by decide)))
 refine WC.loop (α := Nat × List Value × Option Addr × Nat) (fun g => g.1 ≤ t.kids.length ∧ NodesOk wb (t :: Fm.rowL (t.kids.take g.1)) g.2.1) (fun g => [(1, pp b1), (3, .slice g.2.2.1 (t :: Fm.rowL (t.kids.take g.1)).length g.2.2.2), (4, .int .i64 (g.1 : Int))]) (fun g => [pt b1 [Value.int .u8 t.op, .string (str t.name), .slice a t.kids.length c] 24, rowc (.slice g.2.2.1 (t :: Fm.rowL (t.kids.take g.1)).length g.2.2.2) (t :: Fm.rowL (t.kids.take g.1)).length 24 3 (flat g.2.1)]) (fun g => t.kids.length - g.1) ((0, [tv t a c], some ⟨b6, 0, none⟩, 1)) ?_ ?_ ?_ ?_
 ·exact ⟨Nat.zero_le _, NodesOk.one hr⟩
 ·exact ⟨rfl, rfl, rfl, trivial⟩
 ·rfl
 rintro ⟨i, vs, ad, cap⟩ ⟨hi, hok⟩
 dsimp only at hi hok
 show WC _ _ _ _ _ _ _ [(1, pp b1), (3, .slice ad (t :: Fm.rowL (t.kids.take i)).length cap), (4, .int .i64 (i : Int))] [pt b1 [Value.int .u8 t.op, .string (str t.name), .slice a t.kids.length c] 24, rowc (.slice ad (t :: Fm.rowL (t.kids.take i)).length cap) (t :: Fm.rowL (t.kids.take i)).length 24 3 (flat vs)]
 refine jN 15 ?_
 refine WC.cond rfl (fun h11 => ?_) (fun h11 => ?_)
 ·have hlt : i < t.kids.length := by simpa using h11
  obtain ⟨k, hk⟩ : ∃ k, t.kids[i]? = some k := ⟨_, List.getElem?_eq_getElem hlt⟩
  obtain ⟨b, off, F1, a1, c1, rfl, hb, hF1, hrk, hck⟩ := rdT_at hr hk
  have hks := Fm.rowT_kid hk
  have hkl := Fm.kids_le t
  have hN : (t :: Fm.rowL (t.kids.take i)).length + (Fm.rowT k).length = (t :: Fm.rowL (t.kids.take (i + 1))).length := by rw [Fm.rowL_take hk]; simp; omega
  have hN2 : (t :: Fm.rowL (t.kids.take (i + 1))).length ≤ (Fm.rowT t).length := by rw [Fm.rowT_eq t]; have := Fm.rowL_take_le t.kids (i + 1); simp; omega
  refine jN 14 ?_
  refine WL.indexAddr F.sl22 rfl rfl rfl hlt ?_
  refine jN 1 ?_
  refine WL.loadN F.agg24 rfl rfl (vs := [Value.int .u8 k.op, .string (str k.name), .slice a1 k.kids.length c1]) rfl (fun w hS j v hv => (hE.st hS).cell (hck j v hv)) ?_
  refine jN 1 ?_
  refine jC (β := { y : Option Addr × Nat × List Value // NodesOk wb (Fm.rowT k) y.2.2 }) (res := fun x => .slice x.1.1 (Fm.rowT k).length x.1.2.1) (cs := fun x => [rowc (.slice x.1.1 (Fm.rowT k).length x.1.2.1) (Fm.rowT k).length 24 3 (flat x.1.2.2)]) F.fun70 rfl (fun w hS _ => hrec k wb F1 a1 c1 w (by omega) hrk (hE.st hS)) (fun y20 => ?_)
  obtain ⟨⟨ad2, cap2, vs2⟩, hok2⟩ := y20
  refine WA.know (φ := ∃ g, ad2 = some ⟨g, 0, none⟩ ∧ (Fm.rowT k).length = (Fm.rowT k).length ∧ (Fm.rowT k).length ≤ cap2) (fun w hS => rowc_addr (hS.ok (rowc (.slice ad2 (Fm.rowT k).length cap2) (Fm.rowT k).length 24 3 (flat vs2)) jM) (by rw [Fm.rowT_eq]; simp)) (fun ⟨g, hg, _, _⟩ => ?_)
  subst hg
  refine jN 1 ?_
  refine WL.appendE (n := (t :: Fm.rowL (t.kids.take i)).length) (m := (Fm.rowT k).length) (news := flat vs2) F.el22 rfl rfl rfl jR (fun w hS j u hu => by rw [Nat.zero_add]; exact rowc_cells (hS.ok (rowc (.slice (some ⟨g, 0, none⟩) (Fm.rowT k).length cap2) (Fm.rowT k).length 24 3 (flat vs2)) jM) hu) hok2.flat_len hok2.flat_one (Nat.le_trans (m := 1099511627777) (by omega) (by decide)) (by omega) (fun ad3 cap3 => ?_)
  refine jN 13 ?_
  rw [hN, ← flat_append]
  refine WQ.chunks (C' := [pt b1 [Value.int .u8 t.op, .string (str t.name), .slice (some ⟨b, off, none⟩) t.kids.length c] 24, rowc (.slice ad3 (t :: Fm.rowL (t.kids.take (i + 1))).length cap3) (t :: Fm.rowL (t.kids.take (i + 1))).length 24 3 (flat (vs ++ vs2))]) (fun w hS => (jK hS)) ?_
  refine WQ.back ((i + 1, vs ++ vs2, ad3, cap3)) ?_ ?_ ?_ ?_
  ·exact ⟨by show i + 1 ≤ _; omega, by show NodesOk wb (t :: Fm.rowL (t.kids.take (i + 1))) (vs ++ vs2); rw [Fm.rowL_take hk, ← List.cons_append]; exact hok.append hok2⟩
  ·(show t.kids.length - (i + 1) < t.kids.length - i; omega)
  ·exact ⟨rfl, rfl, rfl, trivial⟩
  ·rfl
 ·have hie : i = t.kids.length := by simp at h11; omega
  subst hie
  rw [List.take_length, ← Fm.rowT_eq] at hok ⊢
  refine jN 14 ?_
  exact WQ.ret (rs := [.tmp 2]) rfl (.tmp rfl .nil) (fun w hS => ⟨⟨(ad, cap, vs), hok⟩, rfl, ((St.pick hS (c := rowc (.slice ad (Fm.rowT t).length cap) (Fm.rowT t).length 24 3 (flat vs)) jR)).one1⟩)

theorem Row_c : ∀ n, n ≤ 1099511627776 → RowC n
 | 0, _ => fun t wb G a c w hsz _ _ => by rw [Fm.rowT_eq] at hsz; simp at hsz
 | n + 1, h => Row_step n (by omega) (Row_c n (by omega))
def LevC (n : Nat) : Prop := ∀ (t : Tree) (wb : World) (G : List Nat) (a : Option Addr) (c : Nat) (w : World), (Fm.rowT t).length ≤ n → rdT wb t G (tv t a c) → Ext wb w → Pure Tryz.prog 72 [tv t a c] w (.int .i64 (Fm.levT t : Int))

theorem Lev_step (n : Nat) (hn : n ≤ 1099511627776) (hrec : LevC n) : LevC (n + 1) := by
 intro t wb G a c w hsz hr hE
 refine enter Tryz.func72 rfl Tryz.ntmps72 rfl (St.init _) ?_
 refine jN 3 ?_
 refine WL.boxN rfl rfl (fun b1 => ?_)
 refine jN 18 ?_
 refine WC.loop (α := Nat) (fun i => i ≤ t.kids.length) (fun i => [(1, pp b1), (3, .int .i64 (Fm.levL (t.kids.take i) : Int)), (4, .int .i64 (i : Int))]) (fun _ => [pt b1 [Value.int .u8 t.op, .string (str t.name), .slice a t.kids.length c] 24]) (fun i => t.kids.length - i) (0) ?_ ?_ ?_ ?_
 ·exact Nat.zero_le _
 ·exact ⟨rfl, rfl, rfl, trivial⟩
 ·rfl
 rintro i hi
 refine jN 15 ?_
 refine WC.cond rfl (fun h11 => ?_) (fun h11 => ?_)
 ·have hlt : i < t.kids.length := by simpa using h11
  obtain ⟨k, hk⟩ : ∃ k, t.kids[i]? = some k := ⟨_, List.getElem?_eq_getElem hlt⟩
  obtain ⟨b, off, F1, a1, c1, rfl, hb, hF1, hrk, hck⟩ := rdT_at hr hk
  have hks := Fm.rowT_kid hk
  have hkl := Fm.kids_le t
  refine jN 14 ?_
  refine WL.indexAddr F.sl22 rfl rfl rfl hlt ?_
  refine jN 1 ?_
  refine WL.loadN F.agg24 rfl rfl (vs := [Value.int .u8 k.op, .string (str k.name), .slice a1 k.kids.length c1]) rfl (fun w hS j v hv => (hE.st hS).cell (hck j v hv)) ?_
  refine jN 1 ?_
  refine WL.callV F.fun72 rfl rfl (fun w hS => hrec k wb F1 a1 c1 w (by omega) hrk (hE.st hS)) ?_
  refine jN 1 ?_
  refine WL.maxI (r := (Fm.levL (t.kids.take (i + 1)) : Int)) rfl rfl rfl (by rw [Fm.levL_take hk]; split <;> omega) ?_
  refine jN 13 ?_
  refine WQ.back (i + 1) ?_ ?_ ?_ ?_
  ·exact by omega
  ·omega
  ·exact ⟨rfl, rfl, rfl, trivial⟩
  ·rfl
 ·have hie : i = t.kids.length := by simp at h11; omega
  subst hie
  rw [List.take_length]
  have hll := Fm.levT_le t
  rw [Fm.levT_eq] at hll
  refine jN 16 ?_
  exact WQ.ret (rs := [.tmp 2]) rfl (.tmp rfl .nil) (fun w hS => ⟨by rw [Fm.levT_eq]; rfl, hS.drop⟩)

theorem Lev_c : ∀ n, n ≤ 1099511627776 → LevC n
 | 0, _ => fun t wb G a c w hsz _ _ => by rw [Fm.rowT_eq] at hsz; simp at hsz
 | n + 1, h => Lev_step n (by omega) (Lev_c n (by omega))

theorem one_c (t : Tree) (a : Option Addr) (c : Nat) (w : World) : Pure Tryz.prog 71 [tv t a c] w (.bool (Fm.oneB t)) := by
 refine enter Tryz.func71 rfl Tryz.ntmps71 rfl (St.init _) ?_
 refine jN 3 ?_
 refine WL.boxN rfl rfl (fun b1 => ?_)
 refine jN 27 ?_
 refine WC.cond rfl (fun h9 => ?_) (fun h9 => ?_)
 ·have h9p : t.op = 3 := by simpa using h9
  refine jN 8 ?_
  refine WA.splitB (i := 12) rfl (fun h12 => ?_) (fun h12 => ?_)
  ·refine jN 8 ?_
   refine WL.callV F.fun67 rfl rfl (fun w _ => refIsName_c _ w) ?_
   refine jN 8 ?_
   refine WQ.ret (rs := [.tmp 2]) rfl (.tmp rfl .nil) (fun w hS => ⟨?_, hS.drop⟩)
   refine congrArg (fun b => Ending.returned (Value.bool b)) ?_
   unfold Fm.oneB
   first | (simp_all; done) | (simp_all; rw [Bool.eq_iff_iff]; simp; done) | (simp_all; rw [Bool.eq_iff_iff]; simp; omega) | (rw [Bool.eq_iff_iff]; simp_all; omega)
  ·refine jN 14 ?_
   refine WQ.ret (rs := [.tmp 2]) rfl (.tmp rfl .nil) (fun w hS => ⟨?_, hS.drop⟩)
   refine congrArg (fun b => Ending.returned (Value.bool b)) ?_
   unfold Fm.oneB
   first | (simp_all; done) | (simp_all; rw [Bool.eq_iff_iff]; simp; done) | (simp_all; rw [Bool.eq_iff_iff]; simp; omega) | (rw [Bool.eq_iff_iff]; simp_all; omega)
 ·have h9p : t.op ≠ 3 := by simpa using h9
  refine jN 13 ?_
  refine WC.cond rfl (fun h19 => ?_) (fun h19 => ?_)
  ·have h19p : t.name ≠ [] := by simpa using h19
   refine jN 8 ?_
   refine WQ.ret (rs := [.tmp 2]) rfl (.tmp rfl .nil) (fun w hS => ⟨?_, hS.drop⟩)
   refine congrArg (fun b => Ending.returned (Value.bool b)) ?_
   unfold Fm.oneB
   first | (simp_all; done) | (simp_all; rw [Bool.eq_iff_iff]; simp; done) | (simp_all; rw [Bool.eq_iff_iff]; simp; omega) | (rw [Bool.eq_iff_iff]; simp_all; omega)
  ·have h19p : t.name = [] := by simpa using h19
   refine jN 21 ?_
   refine WC.splitB (i := 22) rfl (fun h22 => ?_) (fun h22 => ?_)
   ·refine jN 17 ?_
    refine WQ.ret (rs := [.tmp 2]) rfl (.tmp rfl .nil) (fun w hS => ⟨?_, hS.drop⟩)
    refine congrArg (fun b => Ending.returned (Value.bool b)) ?_
    unfold Fm.oneB
    first | (simp_all; done) | (simp_all; rw [Bool.eq_iff_iff]; simp; done) | (simp_all; rw [Bool.eq_iff_iff]; simp; omega) | (rw [Bool.eq_iff_iff]; simp_all; omega)
   ·refine jN 8 ?_
    refine WC.splitB (i := 22) rfl (fun h22 => ?_) (fun h22 => ?_)
    ·refine jN 14 ?_
     refine WQ.ret (rs := [.tmp 2]) rfl (.tmp rfl .nil) (fun w hS => ⟨?_, hS.drop⟩)
     refine congrArg (fun b => Ending.returned (Value.bool b)) ?_
     unfold Fm.oneB
     first | (simp_all; done) | (simp_all; rw [Bool.eq_iff_iff]; simp; done) | (simp_all; rw [Bool.eq_iff_iff]; simp; omega) | (rw [Bool.eq_iff_iff]; simp_all; omega)
    ·refine jN 9 ?_
     refine WC.cond rfl (fun h27 => ?_) (fun h27 => ?_)
     ·refine jN 13 ?_
      refine WQ.ret (rs := [.tmp 2]) rfl (.tmp rfl .nil) (fun w hS => ⟨?_, hS.drop⟩)
      refine congrArg (fun b => Ending.returned (Value.bool b)) ?_
      unfold Fm.oneB
      first | (simp_all; done) | (simp_all; rw [Bool.eq_iff_iff]; simp; done) | (simp_all; rw [Bool.eq_iff_iff]; simp; omega) | (rw [Bool.eq_iff_iff]; simp_all; omega)
     ·refine jN 9 ?_
      refine WC.splitB (i := 31) rfl (fun h31 => ?_) (fun h31 => ?_)
      ·refine jN 17 ?_
       refine WQ.ret (rs := [.tmp 2]) rfl (.tmp rfl .nil) (fun w hS => ⟨?_, hS.drop⟩)
       refine congrArg (fun b => Ending.returned (Value.bool b)) ?_
       unfold Fm.oneB
       first | (simp_all; done) | (simp_all; rw [Bool.eq_iff_iff]; simp; done) | (simp_all; rw [Bool.eq_iff_iff]; simp; omega) | (rw [Bool.eq_iff_iff]; simp_all; omega)
      ·refine jN 9 ?_
       refine WC.splitB (i := 31) rfl (fun h31 => ?_) (fun h31 => ?_)
       ·refine jN 17 ?_
        refine WQ.ret (rs := [.tmp 2]) rfl (.tmp rfl .nil) (fun w hS => ⟨?_, hS.drop⟩)
        refine congrArg (fun b => Ending.returned (Value.bool b)) ?_
        unfold Fm.oneB
        first | (simp_all; done) | (simp_all; rw [Bool.eq_iff_iff]; simp; done) | (simp_all; rw [Bool.eq_iff_iff]; simp; omega) | (rw [Bool.eq_iff_iff]; simp_all; omega)
       ·refine jN 8 ?_
        refine WC.splitB (i := 31) rfl (fun h31 => ?_) (fun h31 => ?_)
        ·refine jN 14 ?_
         refine WQ.ret (rs := [.tmp 2]) rfl (.tmp rfl .nil) (fun w hS => ⟨?_, hS.drop⟩)
         refine congrArg (fun b => Ending.returned (Value.bool b)) ?_
         unfold Fm.oneB
         first | (simp_all; done) | (simp_all; rw [Bool.eq_iff_iff]; simp; done) | (simp_all; rw [Bool.eq_iff_iff]; simp; omega) | (rw [Bool.eq_iff_iff]; simp_all; omega)
        ·refine jN 10 ?_
         refine WC.splitB (i := 37) rfl (fun h37 => ?_) (fun h37 => ?_)
         ·refine jN 17 ?_
          refine WQ.ret (rs := [.tmp 2]) rfl (.tmp rfl .nil) (fun w hS => ⟨?_, hS.drop⟩)
          refine congrArg (fun b => Ending.returned (Value.bool b)) ?_
          unfold Fm.oneB
          first | (simp_all; done) | (simp_all; rw [Bool.eq_iff_iff]; simp; done) | (simp_all; rw [Bool.eq_iff_iff]; simp; omega) | (rw [Bool.eq_iff_iff]; simp_all; omega)
         ·refine jN 8 ?_
          refine WC.splitB (i := 37) rfl (fun h37 => ?_) (fun h37 => ?_)
          ·refine jN 14 ?_
           refine WQ.ret (rs := [.tmp 2]) rfl (.tmp rfl .nil) (fun w hS => ⟨?_, hS.drop⟩)
           refine congrArg (fun b => Ending.returned (Value.bool b)) ?_
           unfold Fm.oneB
           first | (simp_all; done) | (simp_all; rw [Bool.eq_iff_iff]; simp; done) | (simp_all; rw [Bool.eq_iff_iff]; simp; omega) | (rw [Bool.eq_iff_iff]; simp_all; omega)
          ·refine jN 9 ?_
           refine WC.cond rfl (fun h42 => ?_) (fun h42 => ?_)
           ·refine jN 13 ?_
            refine WQ.ret (rs := [.tmp 2]) rfl (.tmp rfl .nil) (fun w hS => ⟨?_, hS.drop⟩)
            refine congrArg (fun b => Ending.returned (Value.bool b)) ?_
            unfold Fm.oneB
            first | (simp_all; done) | (simp_all; rw [Bool.eq_iff_iff]; simp; done) | (simp_all; rw [Bool.eq_iff_iff]; simp; omega) | (rw [Bool.eq_iff_iff]; simp_all; omega)
           ·refine jN 10 ?_
            refine WQ.ret (rs := [.tmp 2]) rfl (.tmp rfl .nil) (fun w hS => ⟨?_, hS.drop⟩)
            refine congrArg (fun b => Ending.returned (Value.bool b)) ?_
            unfold Fm.oneB
            first | (simp_all; done) | (simp_all; rw [Bool.eq_iff_iff]; simp; done) | (simp_all; rw [Bool.eq_iff_iff]; simp; omega) | (rw [Bool.eq_iff_iff]; simp_all; omega)

theorem rvalid_c (t : Tree) (wb : World) (G : List Nat) (a : Option Addr) (c : Nat) (w : World) (hsz : (Fm.rowT t).length ≤ 1099511627776) (hr : rdT wb t G (tv t a c)) (hE : Ext wb w) : Pure Tryz.prog 28 [tv t a c] w (.bool (Fm.refValid t)) := by
 refine enter Tryz.func28 rfl Tryz.ntmps28 rfl (St.init _) ?_
 refine jN 3 ?_
 refine WL.boxN rfl rfl (fun b1 => ?_)
 refine jN 9 ?_
 refine jC (β := { y : Option Addr × Nat × List Value // NodesOk wb (Fm.rowT t) y.2.2 }) (res := fun x => .slice x.1.1 (Fm.rowT t).length x.1.2.1) (cs := fun x => [rowc (.slice x.1.1 (Fm.rowT t).length x.1.2.1) (Fm.rowT t).length 24 3 (flat x.1.2.2)]) F.fun70 rfl (fun w hS _ => Row_c _ hsz t wb G a c w (Nat.le_refl _) hr (hE.st hS)) (fun y6 => ?_)
 obtain ⟨⟨ad, cap, vs⟩, hok⟩ := y6
 refine WA.know (φ := ∃ g, ad = some ⟨g, 0, none⟩ ∧ (Fm.rowT t).length = (Fm.rowT t).length ∧ (Fm.rowT t).length ≤ cap) (fun w hS => rowc_addr (hS.ok (rowc (.slice ad (Fm.rowT t).length cap) (Fm.rowT t).length 24 3 (flat vs)) jM) (by rw [Fm.rowT_eq]; simp)) (fun ⟨g, hg, _, _⟩ => ?_)
 subst hg
 refine jN 12 ?_
 refine WC.loop (α := Nat) (fun i => i ≤ (Fm.rowT t).length ∧ ((Fm.rowT t).take i).all Fm.oneB = true) (fun i => [(1, pp b1), (3, .slice (some ⟨g, 0, none⟩) (Fm.rowT t).length cap), (4, .int .i64 (i : Int))]) (fun _ => [rowc (.slice (some ⟨g, 0, none⟩) (Fm.rowT t).length cap) (Fm.rowT t).length 24 3 (flat vs), pt b1 [Value.int .u8 t.op, .string (str t.name), .slice a t.kids.length c] 24]) (fun i => (Fm.rowT t).length - i) (0) ?_ ?_ ?_ ?_
 ·exact ⟨Nat.zero_le _, rfl⟩
 ·exact ⟨rfl, rfl, rfl, trivial⟩
 ·rfl
 rintro i ⟨hi, hal⟩
 refine jN 13 ?_
 refine WC.cond rfl (fun h10 => ?_) (fun h10 => ?_)
 ·have hlt : i < (Fm.rowT t).length := by simpa using h10
  obtain ⟨k, hk⟩ : ∃ k, (Fm.rowT t)[i]? = some k := ⟨_, List.getElem?_eq_getElem hlt⟩
  obtain ⟨F1, a1, c1, hv1, hrk⟩ := hok.at hk
  refine jN 11 ?_
  refine WL.indexAddr F.sl22 rfl rfl rfl hlt ?_
  refine jN 1 ?_
  refine WL.loadN F.agg24 rfl rfl (vs := [Value.int .u8 k.op, .string (str k.name), .slice a1 k.kids.length c1]) rfl (fun w hS j v hv => by rw [Nat.zero_add]; exact rowc_cells (hS.ok (rowc (.slice (some ⟨g, 0, none⟩) (Fm.rowT t).length cap) (Fm.rowT t).length 24 3 (flat vs)) jM) (hok.flat_at hv1 j v hv)) ?_
  refine jN 1 ?_
  refine WL.callV F.fun71 rfl rfl (fun w _ => one_c k a1 c1 w) ?_
  refine jN 4 ?_
  refine WC.cond rfl (fun h18 => ?_) (fun h18 => ?_)
  ·refine jN 12 ?_
   refine WQ.ret (rs := [.tmp 2]) rfl (.tmp rfl .nil) (fun w hS => ⟨?_, hS.drop.drop⟩)
   have h9 : (Fm.rowT t).all Fm.oneB = false := by rw [List.all_eq_false]; exact ⟨k, List.mem_of_getElem? hk, by simpa using h18⟩
   simp [tup, Fm.refValid, h9]
  ·refine jN 11 ?_
   refine WQ.back (i + 1) ?_ ?_ ?_ ?_
   ·exact ⟨by omega, by rw [List.take_add_one, hk]; simp only [Option.toList, List.all_append, hal, List.all_cons, List.all_nil]; simpa using h18⟩
   ·omega
   ·exact ⟨rfl, rfl, rfl, trivial⟩
   ·rfl
 ·have hie : i = (Fm.rowT t).length := by simp at h10; omega
  subst hie
  rw [List.take_length] at hal
  refine jN 15 ?_
  refine WA.splitB (i := 22) rfl (fun h22 => ?_) (fun h22 => ?_)
  ·have hl : (Fm.rowT t).length ≤ 1000 := by simp at h22; omega
   refine jN 5 ?_
   refine WL.callV F.fun72 rfl rfl (fun w hS => Lev_c _ hsz t wb G a c w (Nat.le_refl _) hr (hE.st hS)) ?_
   refine jN 10 ?_
   refine WQ.ret (rs := [.tmp 2]) rfl (.tmp rfl .nil) (fun w hS => ⟨?_, hS.drop.drop⟩)
   first | (simp [tup, Fm.refValid, hal, hl]; omega) | (simp [tup, Fm.refValid, hal, hl]; done)
  ·have hl : ¬ (Fm.rowT t).length ≤ 1000 := by simp at h22; omega
   refine jN 13 ?_
   refine WQ.ret (rs := [.tmp 2]) rfl (.tmp rfl .nil) (fun w hS => ⟨?_, hS.drop.drop⟩)
   first | (simp [tup, Fm.refValid, hal, hl]; omega) | (simp [tup, Fm.refValid, hal, hl]; done)

end Go.Proofs.YtkgllhkhdjodeaaGreat

namespace Go.Proofs.YtkgllhkhdjodeaaGreat
open Go Go.Eng Go.Proofs
def SameC (f n : Nat) : Prop := ∀ (x y : Tree) (wb : World) (G H : List Nat) (a a2 : Option Addr) (c c2 : Nat) (w : World), (Fm.rowT x).length ≤ n → rdT wb x G (tv x a c) → rdT wb y H (tv y a2 c2) → Ext wb w → Pure Tryz.prog f [tv x a c, tv y a2 c2] w (.bool (Fm.sameT x y))

/-- What the reference's Parse answers. -/
def refParse (text : List UInt8) : Tree × Int × Int := ((Fm.top text).1, ((Fm.top text).2.1 : Int), (Fm.top text).2.2)

end Go.Proofs.YtkgllhkhdjodeaaGreat

namespace Go.Proofs.YtkgllhkhdjodeaaGreat
open Go Go.Eng Go.Proofs
def CntC (lv : Nat) : Prop := ∀ (t : Tree) (left : Int) (wb : World) (G : List Nat) (a : Option Addr) (c : Nat) (w : World), -1 ≤ left → left ≤ 1200 → rdT wb t G (tv t a c) → Ext wb w → Pure Tryz.prog 83 [tv t a c, .int .i64 (lv : Int), .int .i64 left] w (.int .i64 (Fm.cntT lv left t))

theorem count_step (lv : Nat) (hlv : lv ≤ 1000) (hrec : 0 < lv → CntC (lv - 1)) : CntC lv := by
 intro t left wb G a c w hl0 hl1 hr hE
 refine enter Tryz.func83 rfl Tryz.ntmps83 rfl (St.init _) ?_
 refine jN 3 ?_
 refine WL.boxN rfl rfl (fun b3 => ?_)
 refine jN 16 ?_
 refine WC.cutF [(21, .bool (decide (lv = 0) || decide (left - 1 < 0) || decide (100 < t.name.length))), (1, .int .i64 (lv : Int)), (2, .int .i64 (left - 1)), (3, pp b3)] (fun Q' hQ => ?_) ?_
 ·refine jN 7 ?_
  refine WA.splitB (i := 12) rfl (fun g12 => ?_) (fun g12 => ?_)
  ·refine jN 19 ?_
   refine WQ.byCut hQ (subF_bool ?_ ⟨rfl, rfl, rfl, trivial⟩ rfl)
   have e0 : ((lv : Int) == 0) = decide (lv = 0) := by rw [Bool.eq_iff_iff]; simp
   have e1 : decide ((100 : Int) < (t.name.length : Int)) = decide (100 < t.name.length) := by rw [Bool.eq_iff_iff]; simp; omega
   first | (simp_all; done) | (simp_all; omega)
  ·refine jN 10 ?_
   refine WA.splitB (i := 16) rfl (fun g16 => ?_) (fun g16 => ?_)
   ·refine jN 11 ?_
    refine WQ.byCut hQ (subF_bool ?_ ⟨rfl, rfl, rfl, trivial⟩ rfl)
    have e0 : ((lv : Int) == 0) = decide (lv = 0) := by rw [Bool.eq_iff_iff]; simp
    have e1 : decide ((100 : Int) < (t.name.length : Int)) = decide (100 < t.name.length) := by rw [Bool.eq_iff_iff]; simp; omega
    first | (simp_all; done) | (simp_all; omega)
   ·refine jN 15 ?_
    refine WQ.byCut hQ (subF_bool ?_ ⟨rfl, rfl, rfl, trivial⟩ rfl)
    have e0 : ((lv : Int) == 0) = decide (lv = 0) := by rw [Bool.eq_iff_iff]; simp
    have e1 : decide ((100 : Int) < (t.name.length : Int)) = decide (100 < t.name.length) := by rw [Bool.eq_iff_iff]; simp; omega
    first | (simp_all; done) | (simp_all; omega)
 refine jN 1 ?_
 refine WC.cond rfl (fun h21 => ?_) (fun h21 => ?_)
 ·have hc : Fm.cntT lv left t = -1 := by rw [Fm.cntT_mk, if_pos]; simpa [or_assoc] using h21
  refine jN 8 ?_
  exact WQ.ret (rs := [.tmp 6]) rfl (.tmp rfl .nil) (fun w hS => ⟨by rw [hc]; rfl, hS.drop⟩)
 ·have hcn : ¬ (lv = 0 ∨ left - 1 < 0 ∨ 100 < t.name.length) := by intro h0; have h9 : (decide (lv = 0) || decide (left - 1 < 0) || decide (100 < t.name.length)) = true := (by simpa [or_assoc] using h0); rw [h9] at h21; cases h21
  have hc : Fm.cntT lv left t = (Fm.cntL (lv - 1) (left - 1) t.kids) := by rw [Fm.cntT_mk, if_neg hcn]
  simp only [not_or] at hcn
  refine jN 10 ?_
  refine WC.loop (α := Nat × Int) (fun g => g.1 ≤ t.kids.length ∧ -1 ≤ g.2 ∧ (g.1 : Int) + g.2 ≤ 1200 ∧ Fm.cntL (lv - 1) g.2 (t.kids.drop g.1) = (Fm.cntL (lv - 1) (left - 1) t.kids)) (fun g => [(1, .int .i64 (lv : Int)), (2, .int .i64 g.2), (3, pp b3), (7, .int .i64 (g.1 : Int))]) (fun _ => [pt b3 [Value.int .u8 t.op, .string (str t.name), .slice a t.kids.length c] 24]) (fun g => t.kids.length - g.1) ((0, left - 1)) ?_ ?_ ?_ ?_
  ·exact ⟨Nat.zero_le _, by dsimp only; omega, by dsimp only; omega, rfl⟩
  ·exact ⟨rfl, rfl, rfl, rfl, trivial⟩
  ·rfl
  rintro ⟨i, l⟩ ⟨hi, hl2, hl3, hcl⟩
  dsimp only at hi hl2 hl3 hcl
  show WC _ _ _ _ _ _ _ [(1, .int .i64 (lv : Int)), (2, .int .i64 l), (3, pp b3), (7, .int .i64 (i : Int))] [pt b3 [Value.int .u8 t.op, .string (str t.name), .slice a t.kids.length c] 24]
  refine jN 15 ?_
  refine WA.splitB (i := 27) rfl (fun h27 => ?_) (fun h27 => ?_)
  ·have hlt : i < t.kids.length := by simpa using h27
   refine jN 10 ?_
   refine WC.cond rfl (fun h30 => ?_) (fun h30 => ?_)
   ·have hl4 : 0 ≤ l := by simpa using h30
    obtain ⟨k, hk⟩ : ∃ k, t.kids[i]? = some k := ⟨_, List.getElem?_eq_getElem hlt⟩
    obtain ⟨b, off, F1, a1, c1, rfl, hb, hF1, hrk, hck⟩ := rdT_at hr hk
    have hkb := Fm.cntT_le (lv - 1) l k hl4
    refine jN 12 ?_
    refine WL.indexAddr F.sl22 rfl rfl rfl hlt ?_
    refine jN 1 ?_
    refine WL.loadN F.agg24 rfl rfl (vs := [Value.int .u8 k.op, .string (str k.name), .slice a1 k.kids.length c1]) rfl (fun w hS j v hv => (hE.st hS).cell (hck j v hv)) ?_
    refine jN 4 ?_
    refine WA.say 39 (.int .i64 ((lv - 1 : Nat) : Int)) (congrArg (fun z => some (Value.int .i64 z)) (show (lv : Int) - 1 = ((lv - 1 : Nat) : Int) by omega)) ?_
    refine jN 3 ?_
    refine WL.callV F.fun83 rfl rfl (fun w hS => hrec (by omega) k l wb F1 a1 c1 w (by omega) (by omega) hrk (hE.st hS)) ?_
    refine jN 13 ?_
    refine WQ.back ((i + 1, Fm.cntT (lv - 1) l k)) ?_ ?_ ?_ ?_
    ·exact ⟨by show i + 1 ≤ _; omega, hkb.2, by show ((i + 1 : Nat) : Int) + Fm.cntT (lv - 1) l k ≤ 1200; omega, by rw [← hcl, Fm.cntL_drop hk (by omega)]⟩
    ·(show t.kids.length - (i + 1) < t.kids.length - i; omega)
    ·exact ⟨rfl, rfl, rfl, rfl, trivial⟩
    ·rfl
   ·have hl5 : l = (Fm.cntL (lv - 1) (left - 1) t.kids) := by rw [← hcl]; exact (Fm.cntL_stop (by simp at h30; omega)).symm
    refine jN 14 ?_
    exact WQ.ret (rs := [.tmp 6]) rfl (.tmp rfl .nil) (fun w hS => ⟨by rw [hc, ← hl5]; rfl, hS.drop⟩)
  ·have hie : i = t.kids.length := by simp at h27; omega
   have hl5 : l = (Fm.cntL (lv - 1) (left - 1) t.kids) := by rw [← hcl, hie, List.drop_length]; rfl
   refine jN 23 ?_
   exact WQ.ret (rs := [.tmp 6]) rfl (.tmp rfl .nil) (fun w hS => ⟨by rw [hc, ← hl5]; rfl, hS.drop⟩)

theorem count_c : ∀ lv, lv ≤ 1000 → CntC lv
 | 0, h => count_step 0 h (fun h0 => absurd h0 (by decide))
 | lv + 1, h => count_step (lv + 1) h (fun _ => count_c lv (by omega))

theorem great_c (t : Tree) (lv : Nat) (hlv : lv ≤ 1000) (wb : World) (G : List Nat) (a : Option Addr) (c : Nat) (w : World) (hr : rdT wb t G (tv t a c)) (hE : Ext wb w) : Pure Tryz.prog 37 [tv t a c, .int .i64 (lv : Int)] w (.bool (Fm.greatB t lv)) := by
 refine enter Tryz.func37 rfl Tryz.ntmps37 rfl (St.init _) ?_
 refine jN 3 ?_
 refine WL.boxN rfl rfl (fun b2 => ?_)
 refine jN 11 ?_
 refine WL.callV F.fun83 rfl rfl (fun w hS => count_c lv hlv t 1200 wb G a c w (by omega) (by omega) hr (hE.st hS)) ?_
 refine jN 7 ?_
 exact WQ.ret (rs := [.tmp 4]) rfl (.tmp rfl .nil) (fun w hS => ⟨rfl, hS.drop⟩)

def CopC (n : Nat) : Prop := ∀ (t : Tree) (wb : World) (G : List Nat) (a : Option Addr) (c : Nat) (w : World), (Fm.rowT t).length ≤ n → rdT wb t G (tv t a c) → Ext wb w →
 Calls Tryz.prog 11 [tv t a c].toArray w fun e w' => ∃ y : List Nat × Option Addr × Nat, e = .returned (tv t y.2.1 y.2.2) ∧ St w [] [own y.1 t (tv t y.2.1 y.2.2)] w'
structure CG where
 i : Nat
 F : List Nat
 vs : List Value
 ad : Option Addr
 cap : Nat

theorem Copied_step (n : Nat) (hn : n ≤ 1099511627776) (hrec : CopC n) : CopC (n + 1) := by
 intro t wb G a c w hsz hr hE
 refine enter Tryz.func11 rfl Tryz.ntmps11 rfl (St.init _) ?_
 refine jN 3 ?_
 refine WL.boxN rfl rfl (fun b1 => ?_)
 refine jN 1 ?_
 refine WL.alloc F.zero24 rfl (fun b2 => ?_)
 refine jN 15 ?_
 refine WL.alloc F.zero24 rfl (fun b3 => ?_)
 refine jN 12 ?_
 refine WC.chunks (C' := [pt b1 [Value.int .u8 t.op, .string (str t.name), .slice a t.kids.length c] 24, pt b2 [Value.int .u8 0, .string (str []), .slice none 0 0] 24, pt b3 [Value.int .u8 t.op, .string (str t.name), .slice none 0 0] 24, rowc (.slice none 0 0) 0 24 3 [], ownL [] [] []]) (fun w hS => ?_) ?_
 ·exact (jK ((hS.rowNil 24 3).ownNil))
 refine WC.loop (α := CG) (fun g => g.i ≤ t.kids.length) (fun g => [(1, pp b1), (2, pp b2), (3, pp b3), (4, .int .i64 (g.i : Int))]) (fun g => [pt b1 [Value.int .u8 t.op, .string (str t.name), .slice a t.kids.length c] 24, pt b2 [Value.int .u8 0, .string (str []), .slice none 0 0] 24, pt b3 [Value.int .u8 t.op, .string (str t.name), .slice g.ad g.i g.cap] 24, rowc (.slice g.ad g.i g.cap) g.i 24 3 (flat g.vs), ownL g.F (t.kids.take g.i) g.vs]) (fun g => t.kids.length - g.i) (⟨0, [], [], none, 0⟩) ?_ ?_ ?_ ?_
 ·exact Nat.zero_le _
 ·exact ⟨rfl, rfl, rfl, rfl, trivial⟩
 ·rfl
 rintro ⟨i, Fb, vs, ad, cap⟩ hi
 dsimp only at hi
 show WC _ _ _ _ _ _ _ [(1, pp b1), (2, pp b2), (3, pp b3), (4, .int .i64 (i : Int))] [pt b1 [Value.int .u8 t.op, .string (str t.name), .slice a t.kids.length c] 24, pt b2 [Value.int .u8 0, .string (str []), .slice none 0 0] 24, pt b3 [Value.int .u8 t.op, .string (str t.name), .slice ad i cap] 24, rowc (.slice ad i cap) i 24 3 (flat vs), ownL Fb (t.kids.take i) vs]
 refine jN 15 ?_
 refine WC.cond rfl (fun h11 => ?_) (fun h11 => ?_)
 ·have hlt : i < t.kids.length := by simpa using h11
  obtain ⟨k, hk⟩ : ∃ k, t.kids[i]? = some k := ⟨_, List.getElem?_eq_getElem hlt⟩
  obtain ⟨b, off, F1, a1, c1, rfl, hb, hF1, hrk, hck⟩ := rdT_at hr hk
  have hks := Fm.rowT_kid hk
  have hkl := Fm.kids_le t
  refine jN 4 ?_
  refine WC.drawsL (by kernel_rfl) (FactsOk.cons (ds := [9, 11]) (LoadOk.one (t := 3) (off := 2) rfl jM rfl) (FactsOk.cons (ds := [7, 8, 9, 11]) (LoadOk.one (t := 1) (off := 2) rfl jM rfl) (FactsOk.cons (ds := [7, 8, 9, 11]) (LoadOk.by (Y := fun w => ∀ j v, [Value.int .u8 k.op, .string (str k.name), .slice a1 k.kids.length c1][j]? = some v → w.cell? ⟨b, off + i * 3 + j, none⟩ = some v) (fun w hS => fun j v hv => (hE.st hS).cell (hck j v hv))) (FactsOk.nil)))) ?_
  refine jT 0 rfl (Yl.fieldAddr0 F.fld24_2 rfl) ?_
  refine jF 1 0 rfl rfl (Yl.load1 F.one22 rfl) ?_
  refine jT 2 rfl (Yl.fieldAddr0 F.fld24_2 rfl) ?_
  refine jF 3 1 rfl rfl (Yl.load1 F.one22 rfl) ?_
  refine jT 4 rfl (Yl.move rfl) ?_
  refine jT 5 rfl (Yl.indexAddr F.sl22 rfl rfl hlt) ?_
  refine jF 6 2 rfl rfl (Yl.loadN F.agg24 rfl rfl) ?_
  refine jA 7 rfl ?_
  refine jC (β := List Nat × Option Addr × Nat) (res := fun y => tv k y.2.1 y.2.2) (cs := fun y => [own y.1 k (tv k y.2.1 y.2.2)]) F.fun11 rfl (fun w hS _ => hrec k wb F1 a1 c1 w (by omega) hrk (hE.st hS)) (fun y24 => ?_)
  refine WD.on (closed_of (by kernel_rfl)) (fun w hS => Sx.keep (hS.cell jM rfl) (Sx.gone rfl (Sx.gone rfl (Sx.none)))) ?_
  refine jA 8 rfl ?_
  refine WL.buildSlice F.sl22 F.ez22 rfl rfl rfl rfl jB rfl (fun b25 => ?_)
  refine WD.on (closed_of (by kernel_rfl)) (fun w hS => Sx.keep (hS.cell jM rfl) (Sx.gone rfl (Sx.gone rfl (Sx.none)))) ?_
  refine jA 9 rfl ?_
  refine WL.appendE (news := [Value.int .u8 k.op, .string (str k.name), .slice y24.2.1 k.kids.length y24.2.2]) F.el22 rfl rfl rfl jR (fun w hS j u hu => by rw [Nat.zero_add]; exact hS.cell (cs := [Value.int .u8 k.op, .string (str k.name), .slice y24.2.1 k.kids.length y24.2.2]) jM hu) rfl jO (Nat.le_trans (m := 1099511627777) (by omega) (by decide)) (by omega) (fun ad3 cap3 => ?_)
  refine jG ?_
  refine jT 10 rfl (Yl.fieldAddr0 F.fld24_2 rfl) ?_
  refine jA 11 rfl ?_
  refine WL.store1 F.one22 rfl rfl rfl jU jS ?_
  refine jG ?_
  refine jD ?_
  refine jN 10 ?_
  refine WQ.chunks (C' := [pt b1 [Value.int .u8 t.op, .string (str t.name), .slice (some ⟨b, off, none⟩) t.kids.length c] 24, pt b2 [Value.int .u8 0, .string (str []), .slice none 0 0] 24, pt b3 [Value.int .u8 t.op, .string (str t.name), .slice ad3 (i + 1) cap3] 24, rowc (.slice ad3 (i + 1) cap3) (i + 1) 24 3 (flat vs ++ [Value.int .u8 k.op, .string (str k.name), .slice y24.2.1 k.kids.length y24.2.2]), ownL (Fb ++ y24.1) (t.kids.take i ++ [k]) (vs ++ [tv k y24.2.1 y24.2.2])]) (fun w hS => ?_) ?_
  ·have h2 := St.ownSnoc (St.pick (St.pick hS (c := own y24.1 k (tv k y24.2.1 y24.2.2)) jR) (c := ownL Fb (t.kids.take i) vs) jR)
   exact (jK h2)
  have e1 : t.kids.take i ++ [k] = t.kids.take (i + 1) := by rw [List.take_add_one, hk]; rfl
  have e2 : flat vs ++ [Value.int .u8 k.op, .string (str k.name), .slice y24.2.1 k.kids.length y24.2.2] = flat (vs ++ [tv k y24.2.1 y24.2.2]) := by rw [flat_append]; simp [flat, tv, Value.cells]
  rw [e1, e2]
  refine WQ.back (⟨i + 1, Fb ++ y24.1, vs ++ [tv k y24.2.1 y24.2.2], ad3, cap3⟩) ?_ ?_ ?_ ?_
  ·exact (show i + 1 ≤ t.kids.length by omega)
  ·(show t.kids.length - (i + 1) < t.kids.length - i; omega)
  ·exact ⟨rfl, rfl, rfl, rfl, trivial⟩
  ·rfl
 ·have hie : i = t.kids.length := by simp at h11; omega
  subst hie
  rw [List.take_length]
  refine jN 14 ?_
  refine WQ.ret (rs := [.cell 2 24]) rfl (.cellN F.agg24 rfl jM rfl .nil) (fun w hS => ?_)
  obtain ⟨F2, h2⟩ := St.ownNode (ts := t.kids) t.op t.name rfl (St.pick (St.pick hS (c := ownL Fb t.kids vs) jR) (c := rowc (.slice ad t.kids.length cap) t.kids.length 24 3 (flat vs)) jR)
  rw [show Tree.mk t.op t.name t.kids = t by cases t; rfl] at h2
  exact ⟨(F2, ad, cap), rfl, h2.one1⟩

theorem Copied_c : ∀ n, n ≤ 1099511627776 → CopC n
 | 0, _ => fun t wb G a c w hsz _ _ => by rw [Fm.rowT_eq] at hsz; simp at hsz
 | n + 1, h => Copied_step n (by omega) (Copied_c n (by omega))

end Go.Proofs.YtkgllhkhdjodeaaGreat

/-! What a formula says of a configuration. -/
namespace Dg
open Go.Eng
def opV (names : List (List UInt8)) (op : Int) (nm : List UInt8) (bs : List Bool) (cf : Cf) : Bool :=
 if op = 2 then true
 else if op = 3 then cf (idxS names nm).toNat
 else if op = 4 then !(bs.getD 0 false)
 else if op = 5 then bs.all id
 else if op = 6 then bs.any id
 else if op = 7 then bs.foldl (fun x y => x != y) false
 else if op = 8 then !(bs.getD 0 false) || bs.getD 1 false
 else if op = 9 then !(bs.getD 0 false != bs.getD 1 false)
 else if op = 10 then bif bs.getD 0 false then bs.getD 1 false else bs.getD 2 false
 else false
mutual
def evT (names : List (List UInt8)) : Tree → Cf → Bool
 | .mk op nm kids, cf => opV names op nm (evL names kids cf) cf
def evL (names : List (List UInt8)) : List Tree → Cf → List Bool
 | [], _ => []
 | t :: ts, cf => evT names t cf :: evL names ts cf
end
theorem evT_eq (names : List (List UInt8)) (t : Tree) (cf : Cf) : evT names t cf = opV names t.op t.name (evL names t.kids cf) cf := by
 cases t with
 | mk op nm kids => simp only [evT, Tree.op, Tree.name, Tree.kids]
theorem evL_eq (names : List (List UInt8)) (cf : Cf) : ∀ ts : List Tree, evL names ts cf = ts.map (fun t => evT names t cf)
 | [] => by simp [evL]
 | t :: ts => by simp [evL, evL_eq names cf ts]
def okT (names : List (List UInt8)) (t : Tree) : Prop := ∀ k ∈ Fm.rowT t, Fm.rightB k = true ∧ (k.op = 3 → names.contains k.name = true)
theorem okT_kid {names : List (List UInt8)} {t k : Tree} {i : Nat} (h : okT names t) (hk : t.kids[i]? = some k) : okT names k := fun x hx => h x (by
 rw [Fm.rowT_eq]
 refine List.mem_cons_of_mem _ ?_
 have : ∀ (ts : List Tree) (i : Nat), ts[i]? = some k → ∀ x ∈ Fm.rowT k, x ∈ Fm.rowL ts := by
  intro ts
  induction ts with
  | nil => intro i h; simp at h
  | cons y ys ih =>
   intro i h x hx
   simp only [Fm.rowL]
   cases i with
   | zero => simp at h; subst h; exact List.mem_append_left _ hx
   | succ i => exact List.mem_append_right _ (ih i (by simpa using h) x hx)
 exact this t.kids i hk x hx)
theorem okT_self {names : List (List UInt8)} {t : Tree} (h : okT names t) : Fm.rightB t = true ∧ (t.op = 3 → names.contains t.name = true) := h t (by rw [Fm.rowT_eq]; exact List.mem_cons_self ..)
theorem right_kids {t : Tree} (h : Fm.rightB t = true) : (t.op = 4 → t.kids.length = 1) ∧ (t.op = 8 ∨ t.op = 9 → t.kids.length = 2) ∧ (t.op = 10 → t.kids.length = 3) ∧ (t.op = 5 ∨ t.op = 6 ∨ t.op = 7 → 2 ≤ t.kids.length) ∧ (1 ≤ t.op ∧ t.op ≤ 10) := by
 unfold Fm.rightB Fm.kidsBad Fm.kidsOf at h
 simp only [Bool.and_eq_true, Bool.not_eq_true', Bool.or_eq_false_iff] at h
 obtain ⟨⟨⟨h1, h2⟩, h3⟩, _⟩ := h
 refine ⟨fun e => ?_, fun e => ?_, fun e => ?_, fun e => ?_, ?_⟩
 ·rw [e] at h3; simp at h3; omega
 ·rcases e with e | e <;> (rw [e] at h3; simp at h3; omega)
 ·rw [e] at h3; simp at h3; omega
 ·rcases e with e | e | e <;> (rw [e] at h2; simp at h2; omega)
 ·split at h1
  ·omega
  ·split at h1
   ·omega
   ·split at h1
    ·omega
    ·split at h1
     ·omega
     ·split at h1
      ·omega
      ·simp at h1
end Dg
