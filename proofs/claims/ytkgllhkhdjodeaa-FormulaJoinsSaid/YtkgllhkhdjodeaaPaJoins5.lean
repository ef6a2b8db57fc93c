import Derived.Test.YtkgllhkhdjodeaaPaJoins4
set_option linter.unusedSimpArgs false
set_option linter.unusedVariables false
namespace Go.Proofs.Ytkgllhkhdjodeaa
open Go Go.Eng Go.Proofs Dg
set_option maxRecDepth 100000 in
theorem join_c (g : Nat) (bop : Bool → Bool → Bool) (opf : Nat → Nat → Nat × Bool) (hop : OpOk g bop opf) (bp bm bs : Nat) (la lb : List Dec) (aa ab : Option Addr) (ca cb ra rb : Nat) (ha : Mk la) (hb : Mk lb) (hla : la.length ≤ 16777216) (hlb : lb.length ≤ 16777216) : ∀ (n m : Nat), m ≤ 24 → 24 - m < n →
    ∀ (Fp : List Nat) (l : List Dec) (f : Nat × Nat → Option Nat) (x y : Nat) (w : World), x < la.length + 2 → y < lb.length + 2 → (trs la x).ok m → (trs lb y).ok m → Mk l → SeenOk bop la lb l f → l.length + 2 ^ (24 - m) ≤ 16777216 → JEnv w Fp bp bm bs la lb aa ab ca cb ra rb → St w Fp [jns Fp bm bs l f] w →
    Calls Try.prog 56 [pp bp, .int .i64 (x : Int), .int .i64 (y : Int), Value.func (.func g) [].toArray [].toArray].toArray w fun e w' => ∃ z : { z : JT // JPost bop la lb l m x y z }, e = .returned (.int .i64 (z.1.2.2.2 : Int)) ∧ St w Fp [jns z.1.1 bm bs z.1.2.1 z.1.2.2.1] w' := by
  intro n
  induction n with
  | zero => intro m; omega
  | succ n hrec =>
  intro m hm24 hmn Fp l f x y w hx hy hox hoy hm hsn hsz hE hS0
  have hpow : l.length + 1 ≤ l.length + 2 ^ (24 - m) := by have := Nat.one_le_two_pow (n := 24 - m); omega
  obtain ⟨F1, _, h1, h2, hS0⟩ := hS0.bunOpen
  simp only [jnCs, List.cons_append, List.nil_append] at hS0
  refine enter Try.func56 rfl Try.ntmps56 rfl (C := [mkr F1 bm l, mpg enc2 bs (fun q => (f q).map encI)]) hS0 ?_
  refine WC.seq ?_
  refine WC.region ?_
  refine WL.step ?_
  refine WL.assign rfl rfl ?_
  refine WL.nil ?_
  refine WQ.then_normal ?_
  refine WC.seq ?_
  refine WC.seq ?_
  refine WC.region ?_
  refine WL.step ?_
  refine WL.move rfl rfl ?_
  refine WL.step ?_
  refine WL.move rfl rfl ?_
  refine WL.step ?_
  refine WL.move rfl rfl ?_
  refine WL.step ?_
  refine WL.callF0 (β := Unit) (res := fun _ => .returned (.tuple #[.int .i64 ((opf x y).1 : Int), .bool (opf x y).2])) (cs := fun _ => []) (ψ := fun _ => True) (us := []) (cap := []) hop.fn (fun d h => by cases h; rfl) rfl rfl (fun w hS => (hop.call x y w (by omega) (by omega)).mono (fun e w2 h => ⟨(), trivial, h.1, h.2⟩)) (fun _ _ => ?_)
  refine WL.step ?_
  refine WL.move rfl rfl ?_
  refine WL.step ?_
  refine WL.extract rfl rfl rfl ?_
  refine WL.step ?_
  refine WL.extract rfl rfl rfl ?_
  refine WL.step ?_
  refine WL.assign rfl rfl ?_
  refine WL.step ?_
  refine WL.assign rfl rfl ?_
  refine WL.nil ?_
  refine WQ.then_normal ?_
  refine WC.seq ?_
  refine WC.region ?_
  refine WL.step ?_
  refine WL.move rfl rfl ?_
  refine WL.nil ?_
  refine WQ.then_normal ?_
  refine WC.cond rfl (fun h28 => ?_) (fun h28 => ?_)
  · skip
    refine WC.seq ?_
    refine WC.region ?_
    refine WL.step ?_
    refine WL.move rfl rfl ?_
    refine WL.step ?_
    refine WL.assign rfl rfl ?_
    refine WL.nil ?_
    refine WQ.then_normal ?_
    refine WC.ret ?_
    refine WQ.then_ret ?_
    refine WQ.ret (rs := [.tmp 8]) rfl (.tmp rfl .nil) (fun w hS => ⟨⟨(_, l, f, (opf x y).1), ⟨hm, ⟨[], by simp⟩, hpow, hop.spec.done h28, hsn⟩⟩, rfl, St.jnsClose hS⟩)
  · skip
    refine WC.skip ?_
    refine WQ.then_normal ?_
    refine WC.seq ?_
    refine WC.region ?_
    refine WL.step ?_
    refine WL.move rfl rfl ?_
    refine WL.step ?_
    refine WL.move rfl rfl ?_
    refine WL.step ?_
    refine WL.buildA F.arT137 rfl (by repeat (first | exact Built.nil | apply Built.one rfl rfl (by repeat constructor) | apply Built.agg rfl rfl (by repeat constructor))) rfl ?_
    refine WL.step ?_
    refine WL.alloc F.zero137 rfl (fun b11 => ?_)
    refine WL.step ?_
    refine WL.storeN F.agg137 rfl rfl rfl (by simp [Value.oneCell']) (by repeat (first | exact Upd.here | apply Upd.there)) (by repeat constructor) ?_
    refine WL.nil ?_
    refine WQ.then_normal ?_
    refine WC.seq ?_
    refine WC.seq ?_
    rcases Option.eq_none_or_eq_some (f (x, y)) with hf | ⟨r, hf⟩
    · skip
      refine WC.drawsL (by kernel_rfl) (FactsOk.cons (ds := []) (LoadOk.by (Y := fun w => w.cell? ⟨bp, 5, none⟩ = some (.map (some bs))) (fun w hS => hS.oldc (hE.ce 5 _ rfl) hE.ce')) (FactsOk.cons (ds := []) (LoadOk.whole (t := 11) rfl (by repeat (first | exact List.Mem.head _ | apply List.Mem.tail))) (FactsOk.cons (ds := []) (LoadOk.by (Y := fun w => (mpg enc2 bs (fun q => (f q).map encI)).ok w) (fun w hS => hS.ok _ (by repeat (first | exact List.Mem.head _ | apply List.Mem.tail)))) (FactsOk.nil)))) ?_
      refine WD.take (i := 0) rfl rfl rfl rfl (by kernel_rfl) (by kernel_rfl) (by kernel_rfl) (fun _ _ _ h => h) (by kernel_rfl) need_none (Yl.move rfl) ?_
      refine WD.take (i := 1) rfl rfl rfl rfl (by kernel_rfl) (by kernel_rfl) (by kernel_rfl) (fun _ _ _ h => h) (by kernel_rfl) need_none (Yl.nilCheck rfl) ?_
      refine WD.take (i := 2) rfl rfl rfl rfl (by kernel_rfl) (by kernel_rfl) (by kernel_rfl) (fun _ _ _ h => h) (by kernel_rfl) need_none (Yl.fieldAddr0 F.fld100_3 rfl) ?_
      refine WD.take (i := 3) rfl rfl rfl rfl (by kernel_rfl) (by kernel_rfl) (by kernel_rfl) (fun _ _ _ h => h) (by kernel_rfl) (need_at 0 11 rfl (by kernel_rfl)) (Yl.load1 F.one98 rfl) ?_
      refine WD.take (i := 4) rfl rfl rfl rfl (by kernel_rfl) (by kernel_rfl) (by kernel_rfl) (fun _ _ _ h => h) (by kernel_rfl) (need_at 1 11 rfl (by kernel_rfl)) (Yl.loadN F.agg137 rfl rfl) ?_
      refine WD.take (i := 5) rfl rfl rfl rfl (by kernel_rfl) (by kernel_rfl) (by kernel_rfl) (fun _ _ _ h => h) (by kernel_rfl) (need_at 2 11 rfl (by kernel_rfl)) (Yl.lookupMiss (f := fun q => (f q).map encI) (x, y) undMP keyPair zeroInt rfl rfl rfl (by rw [hf]; rfl)) ?_
      refine WD.take (i := 6) rfl rfl rfl rfl (by kernel_rfl) (by kernel_rfl) (by kernel_rfl) (fun _ _ _ h => h) (by kernel_rfl) need_none (Yl.move rfl) ?_
      refine WD.take (i := 7) rfl rfl rfl rfl (by kernel_rfl) (by kernel_rfl) (by kernel_rfl) (fun _ _ _ h => h) (by kernel_rfl) need_none (Yl.extract rfl rfl) ?_
      refine WD.take (i := 8) rfl rfl rfl rfl (by kernel_rfl) (by kernel_rfl) (by kernel_rfl) (fun _ _ _ h => h) (by kernel_rfl) need_none (Yl.extract rfl rfl) ?_
      refine WD.take (i := 9) rfl rfl rfl rfl (by kernel_rfl) (by kernel_rfl) (by kernel_rfl) (fun _ _ _ h => h) (by kernel_rfl) need_none (Yl.assign rfl) ?_
      refine WD.take (i := 10) rfl rfl rfl rfl (by kernel_rfl) (by kernel_rfl) (by kernel_rfl) (fun _ _ _ h => h) (by kernel_rfl) need_none (Yl.assign rfl) ?_
      refine WD.done (by kernel_rfl) ?_
      refine WQ.then_normal ?_
      refine WC.seq ?_
      refine WC.region ?_
      refine WL.step ?_
      refine WL.move rfl rfl ?_
      refine WL.nil ?_
      refine WQ.then_normal ?_
      refine WC.condF rfl ?_
      refine WC.skip ?_
      refine WQ.then_normal ?_
      refine WC.seq ?_
      refine WC.cutPE (α := Nat × Nat) (fun z => [(0, pp bp), (1, .int .i64 (x : Int)), (2, .int .i64 (y : Int)), (3, Value.func (.func g) [].toArray [].toArray), (11, pp b11), (14, pp z.1), (15, pp z.2)]) (fun z => [pt z.1 [Value.int .i64 ((atD la x).1 : Int), .int .i64 ((atD la x).2.1 : Int), .int .i64 ((atD la x).2.2 : Int)] 63, pt z.2 [Value.int .i64 ((atD lb y).1 : Int), .int .i64 ((atD lb y).2.1 : Int), .int .i64 ((atD lb y).2.2 : Int)] 63, pt b11 [Value.int .i64 (x : Int), .int .i64 (y : Int)] 137, mkr F1 bm l, mpg enc2 bs (fun q => (f q).map encI)]) (fun c a d v w h => by cases d <;> exact h) (fun Q' hP hQ => ?_) (fun xE => ?_)
      · skip
        refine WC.drawsL (by kernel_rfl) (FactsOk.cons (ds := [5, 11, 14, 15]) (LoadOk.by (Y := fun w => ∀ j v, [Value.slice aa la.length ca, .int .i64 (ra : Int)][j]? = some v → w.cell? ⟨bp, 1 + j, none⟩ = some v) (fun w hS => fun j v hv => hS.oldc (hE.ce (1 + j) v (by rw [Nat.add_comm]; rcases j with _ | _ | j <;> first | exact hv | simp at hv)) hE.ce')) (FactsOk.cons (ds := [11, 14, 15]) (LoadOk.by (Y := fun w => ∀ j v, [Value.slice ab lb.length cb, .int .i64 (rb : Int)][j]? = some v → w.cell? ⟨bp, 3 + j, none⟩ = some v) (fun w hS => fun j v hv => hS.oldc (hE.ce (3 + j) v (by rw [Nat.add_comm]; rcases j with _ | _ | j <;> first | exact hv | simp at hv)) hE.ce')) (FactsOk.nil))) ?_
        refine WD.take (i := 0) rfl rfl rfl rfl (by kernel_rfl) (by kernel_rfl) (by kernel_rfl) (fun _ _ _ h => hP _ _ _ _ _ h) (by kernel_rfl) need_none (Yl.move rfl) ?_
        refine WD.take (i := 1) rfl rfl rfl rfl (by kernel_rfl) (by kernel_rfl) (by kernel_rfl) (fun _ _ _ h => hP _ _ _ _ _ h) (by kernel_rfl) need_none (Yl.nilCheck rfl) ?_
        refine WD.take (i := 2) rfl rfl rfl rfl (by kernel_rfl) (by kernel_rfl) (by kernel_rfl) (fun _ _ _ h => hP _ _ _ _ _ h) (by kernel_rfl) need_none (Yl.fieldAddr0 F.fld100_1 rfl) ?_
        refine WD.take (i := 3) rfl rfl rfl rfl (by kernel_rfl) (by kernel_rfl) (by kernel_rfl) (fun _ _ _ h => hP _ _ _ _ _ h) (by kernel_rfl) (need_at 0 16 rfl (by kernel_rfl)) (Yl.loadN F.agg27 rfl rfl) ?_
        refine WD.take (i := 4) rfl rfl rfl rfl (by kernel_rfl) (by kernel_rfl) (by kernel_rfl) (fun _ _ _ h => hP _ _ _ _ _ h) (by kernel_rfl) need_none (Yl.move rfl) ?_
        refine WD.take (i := 6) rfl rfl rfl rfl (by kernel_rfl) (by kernel_rfl) (by kernel_rfl) (fun _ _ _ h => hP _ _ _ _ _ h) (by kernel_rfl) need_none (Yl.move rfl) ?_
        refine WD.take (i := 7) rfl rfl rfl rfl (by kernel_rfl) (by kernel_rfl) (by kernel_rfl) (fun _ _ _ h => hP _ _ _ _ _ h) (by kernel_rfl) need_none (Yl.nilCheck rfl) ?_
        refine WD.take (i := 8) rfl rfl rfl rfl (by kernel_rfl) (by kernel_rfl) (by kernel_rfl) (fun _ _ _ h => hP _ _ _ _ _ h) (by kernel_rfl) need_none (Yl.fieldAddr0 F.fld100_2 rfl) ?_
        refine WD.take (i := 9) rfl rfl rfl rfl (by kernel_rfl) (by kernel_rfl) (by kernel_rfl) (fun _ _ _ h => hP _ _ _ _ _ h) (by kernel_rfl) (need_at 1 16 rfl (by kernel_rfl)) (Yl.loadN F.agg27 rfl rfl) ?_
        refine WD.take (i := 10) rfl rfl rfl rfl (by kernel_rfl) (by kernel_rfl) (by kernel_rfl) (fun _ _ _ h => hP _ _ _ _ _ h) (by kernel_rfl) need_none (Yl.move rfl) ?_
        refine WD.three (i := 5) (j := 12) (l := 13) (by kernel_rfl) rfl rfl rfl ?_ ?_ ?_
        · skip
          refine WL.callV F.fun81 rfl rfl (fun w hS => at_c la aa ca ra x w (by omega) hx (hE.rda.now hS)) ?_
          refine WD.on (closed_of (by kernel_rfl)) (fun w hS => Sx.gone rfl (Sx.keep (fun j v hv => hS.oldc (hE.ce (3 + j) v (by rw [Nat.add_comm]; rcases j with _ | _ | j <;> first | exact hv | simp at hv)) hE.ce') (Sx.none))) ?_
          refine WD.three (i := 11) (j := 12) (l := 13) (by kernel_rfl) rfl rfl rfl ?_ ?_ ?_
          · skip
            refine WL.callV F.fun81 rfl rfl (fun w hS => at_c lb ab cb rb y w (by omega) hy (hE.rdb.now hS)) ?_
            refine WD.on (closed_of (by kernel_rfl)) (fun w hS => Sx.gone rfl (Sx.gone rfl (Sx.none))) ?_
            refine WD.two (i := 12) (j := 13) (by kernel_rfl) rfl rfl ?_ ?_
            · skip
              refine WL.alloc F.zero63 rfl (fun b14 => ?_)
              refine WD.on (closed_of (by kernel_rfl)) (fun w hS => Sx.gone rfl (Sx.gone rfl (Sx.none))) ?_
              refine WD.one (i := 13) (by kernel_rfl) rfl ?_
              refine WL.alloc F.zero63 rfl (fun b15 => ?_)
              refine WD.on (closed_of (by kernel_rfl)) (fun w hS => Sx.gone rfl (Sx.gone rfl (Sx.none))) ?_
              refine WD.one (i := 14) (by kernel_rfl) rfl ?_
              refine WL.storeN F.agg63 rfl rfl rfl (by simp [Value.oneCell']) (by repeat (first | exact Upd.here | apply Upd.there)) (by repeat constructor) ?_
              refine WD.on (closed_of (by kernel_rfl)) (fun w hS => Sx.gone rfl (Sx.gone rfl (Sx.none))) ?_
              refine WD.one (i := 15) (by kernel_rfl) rfl ?_
              refine WL.storeN F.agg63 rfl rfl rfl (by simp [Value.oneCell']) (by repeat (first | exact Upd.here | apply Upd.there)) (by repeat constructor) ?_
              refine WD.on (closed_of (by kernel_rfl)) (fun w hS => Sx.gone rfl (Sx.gone rfl (Sx.none))) ?_
              refine WD.done (by kernel_rfl) ?_
              refine WQ.chunks (C' := [pt (b14, b15).1 [Value.int .i64 ((atD la x).1 : Int), .int .i64 ((atD la x).2.1 : Int), .int .i64 ((atD la x).2.2 : Int)] 63, pt (b14, b15).2 [Value.int .i64 ((atD lb y).1 : Int), .int .i64 ((atD lb y).2.1 : Int), .int .i64 ((atD lb y).2.2 : Int)] 63, pt b11 [Value.int .i64 (x : Int), .int .i64 (y : Int)] 137, mkr F1 bm l, mpg enc2 bs (fun q => (f q).map encI)]) (fun w hS => ((St.pick (St.pick (St.pick (St.pick (St.pick hS (c := mpg enc2 bs (fun q => (f q).map encI)) (by repeat (first | exact Rem.here | apply Rem.there))) (c := mkr F1 bm l) (by repeat (first | exact Rem.here | apply Rem.there))) (c := pt b11 [Value.int .i64 (x : Int), .int .i64 (y : Int)] 137) (by repeat (first | exact Rem.here | apply Rem.there))) (c := pt (b14, b15).2 [Value.int .i64 ((atD lb y).1 : Int), .int .i64 ((atD lb y).2.1 : Int), .int .i64 ((atD lb y).2.2 : Int)] 63) (by repeat (first | exact Rem.here | apply Rem.there))) (c := pt (b14, b15).1 [Value.int .i64 ((atD la x).1 : Int), .int .i64 ((atD la x).2.1 : Int), .int .i64 ((atD la x).2.2 : Int)] 63) (by repeat (first | exact Rem.here | apply Rem.there)))).sublist (List.Sublist.cons_cons _ (List.Sublist.cons_cons _ (List.Sublist.cons_cons _ (List.Sublist.cons_cons _ (List.Sublist.cons_cons _ (List.nil_sublist _))))))) ?_
              exact WQ.byCut (hQ (b14, b15)) ⟨rfl, rfl, rfl, rfl, rfl, rfl, rfl, trivial⟩
            · skip
              refine WL.alloc F.zero63 rfl (fun b15 => ?_)
              refine WD.on (closed_of (by kernel_rfl)) (fun w hS => Sx.gone rfl (Sx.gone rfl (Sx.none))) ?_
              refine WD.one (i := 12) (by kernel_rfl) rfl ?_
              refine WL.alloc F.zero63 rfl (fun b14 => ?_)
              refine WD.on (closed_of (by kernel_rfl)) (fun w hS => Sx.gone rfl (Sx.gone rfl (Sx.none))) ?_
              refine WD.one (i := 14) (by kernel_rfl) rfl ?_
              refine WL.storeN F.agg63 rfl rfl rfl (by simp [Value.oneCell']) (by repeat (first | exact Upd.here | apply Upd.there)) (by repeat constructor) ?_
              refine WD.on (closed_of (by kernel_rfl)) (fun w hS => Sx.gone rfl (Sx.gone rfl (Sx.none))) ?_
              refine WD.one (i := 15) (by kernel_rfl) rfl ?_
              refine WL.storeN F.agg63 rfl rfl rfl (by simp [Value.oneCell']) (by repeat (first | exact Upd.here | apply Upd.there)) (by repeat constructor) ?_
              refine WD.on (closed_of (by kernel_rfl)) (fun w hS => Sx.gone rfl (Sx.gone rfl (Sx.none))) ?_
              refine WD.done (by kernel_rfl) ?_
              refine WQ.chunks (C' := [pt (b14, b15).1 [Value.int .i64 ((atD la x).1 : Int), .int .i64 ((atD la x).2.1 : Int), .int .i64 ((atD la x).2.2 : Int)] 63, pt (b14, b15).2 [Value.int .i64 ((atD lb y).1 : Int), .int .i64 ((atD lb y).2.1 : Int), .int .i64 ((atD lb y).2.2 : Int)] 63, pt b11 [Value.int .i64 (x : Int), .int .i64 (y : Int)] 137, mkr F1 bm l, mpg enc2 bs (fun q => (f q).map encI)]) (fun w hS => ((St.pick (St.pick (St.pick (St.pick (St.pick hS (c := mpg enc2 bs (fun q => (f q).map encI)) (by repeat (first | exact Rem.here | apply Rem.there))) (c := mkr F1 bm l) (by repeat (first | exact Rem.here | apply Rem.there))) (c := pt b11 [Value.int .i64 (x : Int), .int .i64 (y : Int)] 137) (by repeat (first | exact Rem.here | apply Rem.there))) (c := pt (b14, b15).2 [Value.int .i64 ((atD lb y).1 : Int), .int .i64 ((atD lb y).2.1 : Int), .int .i64 ((atD lb y).2.2 : Int)] 63) (by repeat (first | exact Rem.here | apply Rem.there))) (c := pt (b14, b15).1 [Value.int .i64 ((atD la x).1 : Int), .int .i64 ((atD la x).2.1 : Int), .int .i64 ((atD la x).2.2 : Int)] 63) (by repeat (first | exact Rem.here | apply Rem.there)))).sublist (List.Sublist.cons_cons _ (List.Sublist.cons_cons _ (List.Sublist.cons_cons _ (List.Sublist.cons_cons _ (List.Sublist.cons_cons _ (List.nil_sublist _))))))) ?_
              exact WQ.byCut (hQ (b14, b15)) ⟨rfl, rfl, rfl, rfl, rfl, rfl, rfl, trivial⟩
          · skip
            refine WL.alloc F.zero63 rfl (fun b14 => ?_)
            refine WD.on (closed_of (by kernel_rfl)) (fun w hS => Sx.gone rfl (Sx.keep (fun j v hv => hS.oldc (hE.ce (3 + j) v (by rw [Nat.add_comm]; rcases j with _ | _ | j <;> first | exact hv | simp at hv)) hE.ce') (Sx.none))) ?_
            refine WD.two (i := 11) (j := 13) (by kernel_rfl) rfl rfl ?_ ?_
            · skip
              refine WL.callV F.fun81 rfl rfl (fun w hS => at_c lb ab cb rb y w (by omega) hy (hE.rdb.now hS)) ?_
              refine WD.on (closed_of (by kernel_rfl)) (fun w hS => Sx.gone rfl (Sx.gone rfl (Sx.none))) ?_
              refine WD.one (i := 13) (by kernel_rfl) rfl ?_
              refine WL.alloc F.zero63 rfl (fun b15 => ?_)
              refine WD.on (closed_of (by kernel_rfl)) (fun w hS => Sx.gone rfl (Sx.gone rfl (Sx.none))) ?_
              refine WD.one (i := 14) (by kernel_rfl) rfl ?_
              refine WL.storeN F.agg63 rfl rfl rfl (by simp [Value.oneCell']) (by repeat (first | exact Upd.here | apply Upd.there)) (by repeat constructor) ?_
              refine WD.on (closed_of (by kernel_rfl)) (fun w hS => Sx.gone rfl (Sx.gone rfl (Sx.none))) ?_
              refine WD.one (i := 15) (by kernel_rfl) rfl ?_
              refine WL.storeN F.agg63 rfl rfl rfl (by simp [Value.oneCell']) (by repeat (first | exact Upd.here | apply Upd.there)) (by repeat constructor) ?_
              refine WD.on (closed_of (by kernel_rfl)) (fun w hS => Sx.gone rfl (Sx.gone rfl (Sx.none))) ?_
              refine WD.done (by kernel_rfl) ?_
              refine WQ.chunks (C' := [pt (b14, b15).1 [Value.int .i64 ((atD la x).1 : Int), .int .i64 ((atD la x).2.1 : Int), .int .i64 ((atD la x).2.2 : Int)] 63, pt (b14, b15).2 [Value.int .i64 ((atD lb y).1 : Int), .int .i64 ((atD lb y).2.1 : Int), .int .i64 ((atD lb y).2.2 : Int)] 63, pt b11 [Value.int .i64 (x : Int), .int .i64 (y : Int)] 137, mkr F1 bm l, mpg enc2 bs (fun q => (f q).map encI)]) (fun w hS => ((St.pick (St.pick (St.pick (St.pick (St.pick hS (c := mpg enc2 bs (fun q => (f q).map encI)) (by repeat (first | exact Rem.here | apply Rem.there))) (c := mkr F1 bm l) (by repeat (first | exact Rem.here | apply Rem.there))) (c := pt b11 [Value.int .i64 (x : Int), .int .i64 (y : Int)] 137) (by repeat (first | exact Rem.here | apply Rem.there))) (c := pt (b14, b15).2 [Value.int .i64 ((atD lb y).1 : Int), .int .i64 ((atD lb y).2.1 : Int), .int .i64 ((atD lb y).2.2 : Int)] 63) (by repeat (first | exact Rem.here | apply Rem.there))) (c := pt (b14, b15).1 [Value.int .i64 ((atD la x).1 : Int), .int .i64 ((atD la x).2.1 : Int), .int .i64 ((atD la x).2.2 : Int)] 63) (by repeat (first | exact Rem.here | apply Rem.there)))).sublist (List.Sublist.cons_cons _ (List.Sublist.cons_cons _ (List.Sublist.cons_cons _ (List.Sublist.cons_cons _ (List.Sublist.cons_cons _ (List.nil_sublist _))))))) ?_
              exact WQ.byCut (hQ (b14, b15)) ⟨rfl, rfl, rfl, rfl, rfl, rfl, rfl, trivial⟩
            · skip
              refine WL.alloc F.zero63 rfl (fun b15 => ?_)
              refine WD.on (closed_of (by kernel_rfl)) (fun w hS => Sx.gone rfl (Sx.keep (fun j v hv => hS.oldc (hE.ce (3 + j) v (by rw [Nat.add_comm]; rcases j with _ | _ | j <;> first | exact hv | simp at hv)) hE.ce') (Sx.none))) ?_
              refine WD.one (i := 11) (by kernel_rfl) rfl ?_
              refine WL.callV F.fun81 rfl rfl (fun w hS => at_c lb ab cb rb y w (by omega) hy (hE.rdb.now hS)) ?_
              refine WD.on (closed_of (by kernel_rfl)) (fun w hS => Sx.gone rfl (Sx.gone rfl (Sx.none))) ?_
              refine WD.one (i := 14) (by kernel_rfl) rfl ?_
              refine WL.storeN F.agg63 rfl rfl rfl (by simp [Value.oneCell']) (by repeat (first | exact Upd.here | apply Upd.there)) (by repeat constructor) ?_
              refine WD.on (closed_of (by kernel_rfl)) (fun w hS => Sx.gone rfl (Sx.gone rfl (Sx.none))) ?_
              refine WD.one (i := 15) (by kernel_rfl) rfl ?_
              refine WL.storeN F.agg63 rfl rfl rfl (by simp [Value.oneCell']) (by repeat (first | exact Upd.here | apply Upd.there)) (by repeat constructor) ?_
              refine WD.on (closed_of (by kernel_rfl)) (fun w hS => Sx.gone rfl (Sx.gone rfl (Sx.none))) ?_
              refine WD.done (by kernel_rfl) ?_
              refine WQ.chunks (C' := [pt (b14, b15).1 [Value.int .i64 ((atD la x).1 : Int), .int .i64 ((atD la x).2.1 : Int), .int .i64 ((atD la x).2.2 : Int)] 63, pt (b14, b15).2 [Value.int .i64 ((atD lb y).1 : Int), .int .i64 ((atD lb y).2.1 : Int), .int .i64 ((atD lb y).2.2 : Int)] 63, pt b11 [Value.int .i64 (x : Int), .int .i64 (y : Int)] 137, mkr F1 bm l, mpg enc2 bs (fun q => (f q).map encI)]) (fun w hS => ((St.pick (St.pick (St.pick (St.pick (St.pick hS (c := mpg enc2 bs (fun q => (f q).map encI)) (by repeat (first | exact Rem.here | apply Rem.there))) (c := mkr F1 bm l) (by repeat (first | exact Rem.here | apply Rem.there))) (c := pt b11 [Value.int .i64 (x : Int), .int .i64 (y : Int)] 137) (by repeat (first | exact Rem.here | apply Rem.there))) (c := pt (b14, b15).2 [Value.int .i64 ((atD lb y).1 : Int), .int .i64 ((atD lb y).2.1 : Int), .int .i64 ((atD lb y).2.2 : Int)] 63) (by repeat (first | exact Rem.here | apply Rem.there))) (c := pt (b14, b15).1 [Value.int .i64 ((atD la x).1 : Int), .int .i64 ((atD la x).2.1 : Int), .int .i64 ((atD la x).2.2 : Int)] 63) (by repeat (first | exact Rem.here | apply Rem.there)))).sublist (List.Sublist.cons_cons _ (List.Sublist.cons_cons _ (List.Sublist.cons_cons _ (List.Sublist.cons_cons _ (List.Sublist.cons_cons _ (List.nil_sublist _))))))) ?_
              exact WQ.byCut (hQ (b14, b15)) ⟨rfl, rfl, rfl, rfl, rfl, rfl, rfl, trivial⟩
          · skip
            refine WL.alloc F.zero63 rfl (fun b15 => ?_)
            refine WD.on (closed_of (by kernel_rfl)) (fun w hS => Sx.gone rfl (Sx.keep (fun j v hv => hS.oldc (hE.ce (3 + j) v (by rw [Nat.add_comm]; rcases j with _ | _ | j <;> first | exact hv | simp at hv)) hE.ce') (Sx.none))) ?_
            refine WD.two (i := 11) (j := 12) (by kernel_rfl) rfl rfl ?_ ?_
            · skip
              refine WL.callV F.fun81 rfl rfl (fun w hS => at_c lb ab cb rb y w (by omega) hy (hE.rdb.now hS)) ?_
              refine WD.on (closed_of (by kernel_rfl)) (fun w hS => Sx.gone rfl (Sx.gone rfl (Sx.none))) ?_
              refine WD.one (i := 12) (by kernel_rfl) rfl ?_
              refine WL.alloc F.zero63 rfl (fun b14 => ?_)
              refine WD.on (closed_of (by kernel_rfl)) (fun w hS => Sx.gone rfl (Sx.gone rfl (Sx.none))) ?_
              refine WD.one (i := 14) (by kernel_rfl) rfl ?_
              refine WL.storeN F.agg63 rfl rfl rfl (by simp [Value.oneCell']) (by repeat (first | exact Upd.here | apply Upd.there)) (by repeat constructor) ?_
              refine WD.on (closed_of (by kernel_rfl)) (fun w hS => Sx.gone rfl (Sx.gone rfl (Sx.none))) ?_
              refine WD.one (i := 15) (by kernel_rfl) rfl ?_
              refine WL.storeN F.agg63 rfl rfl rfl (by simp [Value.oneCell']) (by repeat (first | exact Upd.here | apply Upd.there)) (by repeat constructor) ?_
              refine WD.on (closed_of (by kernel_rfl)) (fun w hS => Sx.gone rfl (Sx.gone rfl (Sx.none))) ?_
              refine WD.done (by kernel_rfl) ?_
              refine WQ.chunks (C' := [pt (b14, b15).1 [Value.int .i64 ((atD la x).1 : Int), .int .i64 ((atD la x).2.1 : Int), .int .i64 ((atD la x).2.2 : Int)] 63, pt (b14, b15).2 [Value.int .i64 ((atD lb y).1 : Int), .int .i64 ((atD lb y).2.1 : Int), .int .i64 ((atD lb y).2.2 : Int)] 63, pt b11 [Value.int .i64 (x : Int), .int .i64 (y : Int)] 137, mkr F1 bm l, mpg enc2 bs (fun q => (f q).map encI)]) (fun w hS => ((St.pick (St.pick (St.pick (St.pick (St.pick hS (c := mpg enc2 bs (fun q => (f q).map encI)) (by repeat (first | exact Rem.here | apply Rem.there))) (c := mkr F1 bm l) (by repeat (first | exact Rem.here | apply Rem.there))) (c := pt b11 [Value.int .i64 (x : Int), .int .i64 (y : Int)] 137) (by repeat (first | exact Rem.here | apply Rem.there))) (c := pt (b14, b15).2 [Value.int .i64 ((atD lb y).1 : Int), .int .i64 ((atD lb y).2.1 : Int), .int .i64 ((atD lb y).2.2 : Int)] 63) (by repeat (first | exact Rem.here | apply Rem.there))) (c := pt (b14, b15).1 [Value.int .i64 ((atD la x).1 : Int), .int .i64 ((atD la x).2.1 : Int), .int .i64 ((atD la x).2.2 : Int)] 63) (by repeat (first | exact Rem.here | apply Rem.there)))).sublist (List.Sublist.cons_cons _ (List.Sublist.cons_cons _ (List.Sublist.cons_cons _ (List.Sublist.cons_cons _ (List.Sublist.cons_cons _ (List.nil_sublist _))))))) ?_
              exact WQ.byCut (hQ (b14, b15)) ⟨rfl, rfl, rfl, rfl, rfl, rfl, rfl, trivial⟩
            · skip
              refine WL.alloc F.zero63 rfl (fun b14 => ?_)
              refine WD.on (closed_of (by kernel_rfl)) (fun w hS => Sx.gone rfl (Sx.keep (fun j v hv => hS.oldc (hE.ce (3 + j) v (by rw [Nat.add_comm]; rcases j with _ | _ | j <;> first | exact hv | simp at hv)) hE.ce') (Sx.none))) ?_
              refine WD.one (i := 11) (by kernel_rfl) rfl ?_
              refine WL.callV F.fun81 rfl rfl (fun w hS => at_c lb ab cb rb y w (by omega) hy (hE.rdb.now hS)) ?_
              refine WD.on (closed_of (by kernel_rfl)) (fun w hS => Sx.gone rfl (Sx.gone rfl (Sx.none))) ?_
              refine WD.one (i := 14) (by kernel_rfl) rfl ?_
              refine WL.storeN F.agg63 rfl rfl rfl (by simp [Value.oneCell']) (by repeat (first | exact Upd.here | apply Upd.there)) (by repeat constructor) ?_
              refine WD.on (closed_of (by kernel_rfl)) (fun w hS => Sx.gone rfl (Sx.gone rfl (Sx.none))) ?_
              refine WD.one (i := 15) (by kernel_rfl) rfl ?_
              refine WL.storeN F.agg63 rfl rfl rfl (by simp [Value.oneCell']) (by repeat (first | exact Upd.here | apply Upd.there)) (by repeat constructor) ?_
              refine WD.on (closed_of (by kernel_rfl)) (fun w hS => Sx.gone rfl (Sx.gone rfl (Sx.none))) ?_
              refine WD.done (by kernel_rfl) ?_
              refine WQ.chunks (C' := [pt (b14, b15).1 [Value.int .i64 ((atD la x).1 : Int), .int .i64 ((atD la x).2.1 : Int), .int .i64 ((atD la x).2.2 : Int)] 63, pt (b14, b15).2 [Value.int .i64 ((atD lb y).1 : Int), .int .i64 ((atD lb y).2.1 : Int), .int .i64 ((atD lb y).2.2 : Int)] 63, pt b11 [Value.int .i64 (x : Int), .int .i64 (y : Int)] 137, mkr F1 bm l, mpg enc2 bs (fun q => (f q).map encI)]) (fun w hS => ((St.pick (St.pick (St.pick (St.pick (St.pick hS (c := mpg enc2 bs (fun q => (f q).map encI)) (by repeat (first | exact Rem.here | apply Rem.there))) (c := mkr F1 bm l) (by repeat (first | exact Rem.here | apply Rem.there))) (c := pt b11 [Value.int .i64 (x : Int), .int .i64 (y : Int)] 137) (by repeat (first | exact Rem.here | apply Rem.there))) (c := pt (b14, b15).2 [Value.int .i64 ((atD lb y).1 : Int), .int .i64 ((atD lb y).2.1 : Int), .int .i64 ((atD lb y).2.2 : Int)] 63) (by repeat (first | exact Rem.here | apply Rem.there))) (c := pt (b14, b15).1 [Value.int .i64 ((atD la x).1 : Int), .int .i64 ((atD la x).2.1 : Int), .int .i64 ((atD la x).2.2 : Int)] 63) (by repeat (first | exact Rem.here | apply Rem.there)))).sublist (List.Sublist.cons_cons _ (List.Sublist.cons_cons _ (List.Sublist.cons_cons _ (List.Sublist.cons_cons _ (List.Sublist.cons_cons _ (List.nil_sublist _))))))) ?_
              exact WQ.byCut (hQ (b14, b15)) ⟨rfl, rfl, rfl, rfl, rfl, rfl, rfl, trivial⟩
        · skip
          refine WL.alloc F.zero63 rfl (fun b14 => ?_)
          refine WD.on (closed_of (by kernel_rfl)) (fun w hS => Sx.keep (fun j v hv => hS.oldc (hE.ce (1 + j) v (by rw [Nat.add_comm]; rcases j with _ | _ | j <;> first | exact hv | simp at hv)) hE.ce') (Sx.keep (fun j v hv => hS.oldc (hE.ce (3 + j) v (by rw [Nat.add_comm]; rcases j with _ | _ | j <;> first | exact hv | simp at hv)) hE.ce') (Sx.none))) ?_
          refine WD.two (i := 5) (j := 13) (by kernel_rfl) rfl rfl ?_ ?_
          · skip
            refine WL.callV F.fun81 rfl rfl (fun w hS => at_c la aa ca ra x w (by omega) hx (hE.rda.now hS)) ?_
            refine WD.on (closed_of (by kernel_rfl)) (fun w hS => Sx.gone rfl (Sx.keep (fun j v hv => hS.oldc (hE.ce (3 + j) v (by rw [Nat.add_comm]; rcases j with _ | _ | j <;> first | exact hv | simp at hv)) hE.ce') (Sx.none))) ?_
            refine WD.two (i := 11) (j := 13) (by kernel_rfl) rfl rfl ?_ ?_
            · skip
              refine WL.callV F.fun81 rfl rfl (fun w hS => at_c lb ab cb rb y w (by omega) hy (hE.rdb.now hS)) ?_
              refine WD.on (closed_of (by kernel_rfl)) (fun w hS => Sx.gone rfl (Sx.gone rfl (Sx.none))) ?_
              refine WD.one (i := 13) (by kernel_rfl) rfl ?_
              refine WL.alloc F.zero63 rfl (fun b15 => ?_)
              refine WD.on (closed_of (by kernel_rfl)) (fun w hS => Sx.gone rfl (Sx.gone rfl (Sx.none))) ?_
              refine WD.one (i := 14) (by kernel_rfl) rfl ?_
              refine WL.storeN F.agg63 rfl rfl rfl (by simp [Value.oneCell']) (by repeat (first | exact Upd.here | apply Upd.there)) (by repeat constructor) ?_
              refine WD.on (closed_of (by kernel_rfl)) (fun w hS => Sx.gone rfl (Sx.gone rfl (Sx.none))) ?_
              refine WD.one (i := 15) (by kernel_rfl) rfl ?_
              refine WL.storeN F.agg63 rfl rfl rfl (by simp [Value.oneCell']) (by repeat (first | exact Upd.here | apply Upd.there)) (by repeat constructor) ?_
              refine WD.on (closed_of (by kernel_rfl)) (fun w hS => Sx.gone rfl (Sx.gone rfl (Sx.none))) ?_
              refine WD.done (by kernel_rfl) ?_
              refine WQ.chunks (C' := [pt (b14, b15).1 [Value.int .i64 ((atD la x).1 : Int), .int .i64 ((atD la x).2.1 : Int), .int .i64 ((atD la x).2.2 : Int)] 63, pt (b14, b15).2 [Value.int .i64 ((atD lb y).1 : Int), .int .i64 ((atD lb y).2.1 : Int), .int .i64 ((atD lb y).2.2 : Int)] 63, pt b11 [Value.int .i64 (x : Int), .int .i64 (y : Int)] 137, mkr F1 bm l, mpg enc2 bs (fun q => (f q).map encI)]) (fun w hS => ((St.pick (St.pick (St.pick (St.pick (St.pick hS (c := mpg enc2 bs (fun q => (f q).map encI)) (by repeat (first | exact Rem.here | apply Rem.there))) (c := mkr F1 bm l) (by repeat (first | exact Rem.here | apply Rem.there))) (c := pt b11 [Value.int .i64 (x : Int), .int .i64 (y : Int)] 137) (by repeat (first | exact Rem.here | apply Rem.there))) (c := pt (b14, b15).2 [Value.int .i64 ((atD lb y).1 : Int), .int .i64 ((atD lb y).2.1 : Int), .int .i64 ((atD lb y).2.2 : Int)] 63) (by repeat (first | exact Rem.here | apply Rem.there))) (c := pt (b14, b15).1 [Value.int .i64 ((atD la x).1 : Int), .int .i64 ((atD la x).2.1 : Int), .int .i64 ((atD la x).2.2 : Int)] 63) (by repeat (first | exact Rem.here | apply Rem.there)))).sublist (List.Sublist.cons_cons _ (List.Sublist.cons_cons _ (List.Sublist.cons_cons _ (List.Sublist.cons_cons _ (List.Sublist.cons_cons _ (List.nil_sublist _))))))) ?_
              exact WQ.byCut (hQ (b14, b15)) ⟨rfl, rfl, rfl, rfl, rfl, rfl, rfl, trivial⟩
            · skip
              refine WL.alloc F.zero63 rfl (fun b15 => ?_)
              refine WD.on (closed_of (by kernel_rfl)) (fun w hS => Sx.gone rfl (Sx.keep (fun j v hv => hS.oldc (hE.ce (3 + j) v (by rw [Nat.add_comm]; rcases j with _ | _ | j <;> first | exact hv | simp at hv)) hE.ce') (Sx.none))) ?_
              refine WD.one (i := 11) (by kernel_rfl) rfl ?_
              refine WL.callV F.fun81 rfl rfl (fun w hS => at_c lb ab cb rb y w (by omega) hy (hE.rdb.now hS)) ?_
              refine WD.on (closed_of (by kernel_rfl)) (fun w hS => Sx.gone rfl (Sx.gone rfl (Sx.none))) ?_
              refine WD.one (i := 14) (by kernel_rfl) rfl ?_
              refine WL.storeN F.agg63 rfl rfl rfl (by simp [Value.oneCell']) (by repeat (first | exact Upd.here | apply Upd.there)) (by repeat constructor) ?_
              refine WD.on (closed_of (by kernel_rfl)) (fun w hS => Sx.gone rfl (Sx.gone rfl (Sx.none))) ?_
              refine WD.one (i := 15) (by kernel_rfl) rfl ?_
              refine WL.storeN F.agg63 rfl rfl rfl (by simp [Value.oneCell']) (by repeat (first | exact Upd.here | apply Upd.there)) (by repeat constructor) ?_
              refine WD.on (closed_of (by kernel_rfl)) (fun w hS => Sx.gone rfl (Sx.gone rfl (Sx.none))) ?_
              refine WD.done (by kernel_rfl) ?_
              refine WQ.chunks (C' := [pt (b14, b15).1 [Value.int .i64 ((atD la x).1 : Int), .int .i64 ((atD la x).2.1 : Int), .int .i64 ((atD la x).2.2 : Int)] 63, pt (b14, b15).2 [Value.int .i64 ((atD lb y).1 : Int), .int .i64 ((atD lb y).2.1 : Int), .int .i64 ((atD lb y).2.2 : Int)] 63, pt b11 [Value.int .i64 (x : Int), .int .i64 (y : Int)] 137, mkr F1 bm l, mpg enc2 bs (fun q => (f q).map encI)]) (fun w hS => ((St.pick (St.pick (St.pick (St.pick (St.pick hS (c := mpg enc2 bs (fun q => (f q).map encI)) (by repeat (first | exact Rem.here | apply Rem.there))) (c := mkr F1 bm l) (by repeat (first | exact Rem.here | apply Rem.there))) (c := pt b11 [Value.int .i64 (x : Int), .int .i64 (y : Int)] 137) (by repeat (first | exact Rem.here | apply Rem.there))) (c := pt (b14, b15).2 [Value.int .i64 ((atD lb y).1 : Int), .int .i64 ((atD lb y).2.1 : Int), .int .i64 ((atD lb y).2.2 : Int)] 63) (by repeat (first | exact Rem.here | apply Rem.there))) (c := pt (b14, b15).1 [Value.int .i64 ((atD la x).1 : Int), .int .i64 ((atD la x).2.1 : Int), .int .i64 ((atD la x).2.2 : Int)] 63) (by repeat (first | exact Rem.here | apply Rem.there)))).sublist (List.Sublist.cons_cons _ (List.Sublist.cons_cons _ (List.Sublist.cons_cons _ (List.Sublist.cons_cons _ (List.Sublist.cons_cons _ (List.nil_sublist _))))))) ?_
              exact WQ.byCut (hQ (b14, b15)) ⟨rfl, rfl, rfl, rfl, rfl, rfl, rfl, trivial⟩
          · skip
            refine WL.alloc F.zero63 rfl (fun b15 => ?_)
            refine WD.on (closed_of (by kernel_rfl)) (fun w hS => Sx.keep (fun j v hv => hS.oldc (hE.ce (1 + j) v (by rw [Nat.add_comm]; rcases j with _ | _ | j <;> first | exact hv | simp at hv)) hE.ce') (Sx.keep (fun j v hv => hS.oldc (hE.ce (3 + j) v (by rw [Nat.add_comm]; rcases j with _ | _ | j <;> first | exact hv | simp at hv)) hE.ce') (Sx.none))) ?_
            refine WD.one (i := 5) (by kernel_rfl) rfl ?_
            refine WL.callV F.fun81 rfl rfl (fun w hS => at_c la aa ca ra x w (by omega) hx (hE.rda.now hS)) ?_
            refine WD.on (closed_of (by kernel_rfl)) (fun w hS => Sx.gone rfl (Sx.keep (fun j v hv => hS.oldc (hE.ce (3 + j) v (by rw [Nat.add_comm]; rcases j with _ | _ | j <;> first | exact hv | simp at hv)) hE.ce') (Sx.none))) ?_
            refine WD.one (i := 11) (by kernel_rfl) rfl ?_
            refine WL.callV F.fun81 rfl rfl (fun w hS => at_c lb ab cb rb y w (by omega) hy (hE.rdb.now hS)) ?_
            refine WD.on (closed_of (by kernel_rfl)) (fun w hS => Sx.gone rfl (Sx.gone rfl (Sx.none))) ?_
            refine WD.one (i := 14) (by kernel_rfl) rfl ?_
            refine WL.storeN F.agg63 rfl rfl rfl (by simp [Value.oneCell']) (by repeat (first | exact Upd.here | apply Upd.there)) (by repeat constructor) ?_
            refine WD.on (closed_of (by kernel_rfl)) (fun w hS => Sx.gone rfl (Sx.gone rfl (Sx.none))) ?_
            refine WD.one (i := 15) (by kernel_rfl) rfl ?_
            refine WL.storeN F.agg63 rfl rfl rfl (by simp [Value.oneCell']) (by repeat (first | exact Upd.here | apply Upd.there)) (by repeat constructor) ?_
            refine WD.on (closed_of (by kernel_rfl)) (fun w hS => Sx.gone rfl (Sx.gone rfl (Sx.none))) ?_
            refine WD.done (by kernel_rfl) ?_
            refine WQ.chunks (C' := [pt (b14, b15).1 [Value.int .i64 ((atD la x).1 : Int), .int .i64 ((atD la x).2.1 : Int), .int .i64 ((atD la x).2.2 : Int)] 63, pt (b14, b15).2 [Value.int .i64 ((atD lb y).1 : Int), .int .i64 ((atD lb y).2.1 : Int), .int .i64 ((atD lb y).2.2 : Int)] 63, pt b11 [Value.int .i64 (x : Int), .int .i64 (y : Int)] 137, mkr F1 bm l, mpg enc2 bs (fun q => (f q).map encI)]) (fun w hS => ((St.pick (St.pick (St.pick (St.pick (St.pick hS (c := mpg enc2 bs (fun q => (f q).map encI)) (by repeat (first | exact Rem.here | apply Rem.there))) (c := mkr F1 bm l) (by repeat (first | exact Rem.here | apply Rem.there))) (c := pt b11 [Value.int .i64 (x : Int), .int .i64 (y : Int)] 137) (by repeat (first | exact Rem.here | apply Rem.there))) (c := pt (b14, b15).2 [Value.int .i64 ((atD lb y).1 : Int), .int .i64 ((atD lb y).2.1 : Int), .int .i64 ((atD lb y).2.2 : Int)] 63) (by repeat (first | exact Rem.here | apply Rem.there))) (c := pt (b14, b15).1 [Value.int .i64 ((atD la x).1 : Int), .int .i64 ((atD la x).2.1 : Int), .int .i64 ((atD la x).2.2 : Int)] 63) (by repeat (first | exact Rem.here | apply Rem.there)))).sublist (List.Sublist.cons_cons _ (List.Sublist.cons_cons _ (List.Sublist.cons_cons _ (List.Sublist.cons_cons _ (List.Sublist.cons_cons _ (List.nil_sublist _))))))) ?_
            exact WQ.byCut (hQ (b14, b15)) ⟨rfl, rfl, rfl, rfl, rfl, rfl, rfl, trivial⟩
        · skip
          refine WL.alloc F.zero63 rfl (fun b15 => ?_)
          refine WD.on (closed_of (by kernel_rfl)) (fun w hS => Sx.keep (fun j v hv => hS.oldc (hE.ce (1 + j) v (by rw [Nat.add_comm]; rcases j with _ | _ | j <;> first | exact hv | simp at hv)) hE.ce') (Sx.keep (fun j v hv => hS.oldc (hE.ce (3 + j) v (by rw [Nat.add_comm]; rcases j with _ | _ | j <;> first | exact hv | simp at hv)) hE.ce') (Sx.none))) ?_
          refine WD.two (i := 5) (j := 12) (by kernel_rfl) rfl rfl ?_ ?_
          · skip
            refine WL.callV F.fun81 rfl rfl (fun w hS => at_c la aa ca ra x w (by omega) hx (hE.rda.now hS)) ?_
            refine WD.on (closed_of (by kernel_rfl)) (fun w hS => Sx.gone rfl (Sx.keep (fun j v hv => hS.oldc (hE.ce (3 + j) v (by rw [Nat.add_comm]; rcases j with _ | _ | j <;> first | exact hv | simp at hv)) hE.ce') (Sx.none))) ?_
            refine WD.two (i := 11) (j := 12) (by kernel_rfl) rfl rfl ?_ ?_
            · skip
              refine WL.callV F.fun81 rfl rfl (fun w hS => at_c lb ab cb rb y w (by omega) hy (hE.rdb.now hS)) ?_
              refine WD.on (closed_of (by kernel_rfl)) (fun w hS => Sx.gone rfl (Sx.gone rfl (Sx.none))) ?_
              refine WD.one (i := 12) (by kernel_rfl) rfl ?_
              refine WL.alloc F.zero63 rfl (fun b14 => ?_)
              refine WD.on (closed_of (by kernel_rfl)) (fun w hS => Sx.gone rfl (Sx.gone rfl (Sx.none))) ?_
              refine WD.one (i := 14) (by kernel_rfl) rfl ?_
              refine WL.storeN F.agg63 rfl rfl rfl (by simp [Value.oneCell']) (by repeat (first | exact Upd.here | apply Upd.there)) (by repeat constructor) ?_
              refine WD.on (closed_of (by kernel_rfl)) (fun w hS => Sx.gone rfl (Sx.gone rfl (Sx.none))) ?_
              refine WD.one (i := 15) (by kernel_rfl) rfl ?_
              refine WL.storeN F.agg63 rfl rfl rfl (by simp [Value.oneCell']) (by repeat (first | exact Upd.here | apply Upd.there)) (by repeat constructor) ?_
              refine WD.on (closed_of (by kernel_rfl)) (fun w hS => Sx.gone rfl (Sx.gone rfl (Sx.none))) ?_
              refine WD.done (by kernel_rfl) ?_
              refine WQ.chunks (C' := [pt (b14, b15).1 [Value.int .i64 ((atD la x).1 : Int), .int .i64 ((atD la x).2.1 : Int), .int .i64 ((atD la x).2.2 : Int)] 63, pt (b14, b15).2 [Value.int .i64 ((atD lb y).1 : Int), .int .i64 ((atD lb y).2.1 : Int), .int .i64 ((atD lb y).2.2 : Int)] 63, pt b11 [Value.int .i64 (x : Int), .int .i64 (y : Int)] 137, mkr F1 bm l, mpg enc2 bs (fun q => (f q).map encI)]) (fun w hS => ((St.pick (St.pick (St.pick (St.pick (St.pick hS (c := mpg enc2 bs (fun q => (f q).map encI)) (by repeat (first | exact Rem.here | apply Rem.there))) (c := mkr F1 bm l) (by repeat (first | exact Rem.here | apply Rem.there))) (c := pt b11 [Value.int .i64 (x : Int), .int .i64 (y : Int)] 137) (by repeat (first | exact Rem.here | apply Rem.there))) (c := pt (b14, b15).2 [Value.int .i64 ((atD lb y).1 : Int), .int .i64 ((atD lb y).2.1 : Int), .int .i64 ((atD lb y).2.2 : Int)] 63) (by repeat (first | exact Rem.here | apply Rem.there))) (c := pt (b14, b15).1 [Value.int .i64 ((atD la x).1 : Int), .int .i64 ((atD la x).2.1 : Int), .int .i64 ((atD la x).2.2 : Int)] 63) (by repeat (first | exact Rem.here | apply Rem.there)))).sublist (List.Sublist.cons_cons _ (List.Sublist.cons_cons _ (List.Sublist.cons_cons _ (List.Sublist.cons_cons _ (List.Sublist.cons_cons _ (List.nil_sublist _))))))) ?_
              exact WQ.byCut (hQ (b14, b15)) ⟨rfl, rfl, rfl, rfl, rfl, rfl, rfl, trivial⟩
            · skip
              refine WL.alloc F.zero63 rfl (fun b14 => ?_)
              refine WD.on (closed_of (by kernel_rfl)) (fun w hS => Sx.gone rfl (Sx.keep (fun j v hv => hS.oldc (hE.ce (3 + j) v (by rw [Nat.add_comm]; rcases j with _ | _ | j <;> first | exact hv | simp at hv)) hE.ce') (Sx.none))) ?_
              refine WD.one (i := 11) (by kernel_rfl) rfl ?_
              refine WL.callV F.fun81 rfl rfl (fun w hS => at_c lb ab cb rb y w (by omega) hy (hE.rdb.now hS)) ?_
              refine WD.on (closed_of (by kernel_rfl)) (fun w hS => Sx.gone rfl (Sx.gone rfl (Sx.none))) ?_
              refine WD.one (i := 14) (by kernel_rfl) rfl ?_
              refine WL.storeN F.agg63 rfl rfl rfl (by simp [Value.oneCell']) (by repeat (first | exact Upd.here | apply Upd.there)) (by repeat constructor) ?_
              refine WD.on (closed_of (by kernel_rfl)) (fun w hS => Sx.gone rfl (Sx.gone rfl (Sx.none))) ?_
              refine WD.one (i := 15) (by kernel_rfl) rfl ?_
              refine WL.storeN F.agg63 rfl rfl rfl (by simp [Value.oneCell']) (by repeat (first | exact Upd.here | apply Upd.there)) (by repeat constructor) ?_
              refine WD.on (closed_of (by kernel_rfl)) (fun w hS => Sx.gone rfl (Sx.gone rfl (Sx.none))) ?_
              refine WD.done (by kernel_rfl) ?_
              refine WQ.chunks (C' := [pt (b14, b15).1 [Value.int .i64 ((atD la x).1 : Int), .int .i64 ((atD la x).2.1 : Int), .int .i64 ((atD la x).2.2 : Int)] 63, pt (b14, b15).2 [Value.int .i64 ((atD lb y).1 : Int), .int .i64 ((atD lb y).2.1 : Int), .int .i64 ((atD lb y).2.2 : Int)] 63, pt b11 [Value.int .i64 (x : Int), .int .i64 (y : Int)] 137, mkr F1 bm l, mpg enc2 bs (fun q => (f q).map encI)]) (fun w hS => ((St.pick (St.pick (St.pick (St.pick (St.pick hS (c := mpg enc2 bs (fun q => (f q).map encI)) (by repeat (first | exact Rem.here | apply Rem.there))) (c := mkr F1 bm l) (by repeat (first | exact Rem.here | apply Rem.there))) (c := pt b11 [Value.int .i64 (x : Int), .int .i64 (y : Int)] 137) (by repeat (first | exact Rem.here | apply Rem.there))) (c := pt (b14, b15).2 [Value.int .i64 ((atD lb y).1 : Int), .int .i64 ((atD lb y).2.1 : Int), .int .i64 ((atD lb y).2.2 : Int)] 63) (by repeat (first | exact Rem.here | apply Rem.there))) (c := pt (b14, b15).1 [Value.int .i64 ((atD la x).1 : Int), .int .i64 ((atD la x).2.1 : Int), .int .i64 ((atD la x).2.2 : Int)] 63) (by repeat (first | exact Rem.here | apply Rem.there)))).sublist (List.Sublist.cons_cons _ (List.Sublist.cons_cons _ (List.Sublist.cons_cons _ (List.Sublist.cons_cons _ (List.Sublist.cons_cons _ (List.nil_sublist _))))))) ?_
              exact WQ.byCut (hQ (b14, b15)) ⟨rfl, rfl, rfl, rfl, rfl, rfl, rfl, trivial⟩
          · skip
            refine WL.alloc F.zero63 rfl (fun b14 => ?_)
            refine WD.on (closed_of (by kernel_rfl)) (fun w hS => Sx.keep (fun j v hv => hS.oldc (hE.ce (1 + j) v (by rw [Nat.add_comm]; rcases j with _ | _ | j <;> first | exact hv | simp at hv)) hE.ce') (Sx.keep (fun j v hv => hS.oldc (hE.ce (3 + j) v (by rw [Nat.add_comm]; rcases j with _ | _ | j <;> first | exact hv | simp at hv)) hE.ce') (Sx.none))) ?_
            refine WD.one (i := 5) (by kernel_rfl) rfl ?_
            refine WL.callV F.fun81 rfl rfl (fun w hS => at_c la aa ca ra x w (by omega) hx (hE.rda.now hS)) ?_
            refine WD.on (closed_of (by kernel_rfl)) (fun w hS => Sx.gone rfl (Sx.keep (fun j v hv => hS.oldc (hE.ce (3 + j) v (by rw [Nat.add_comm]; rcases j with _ | _ | j <;> first | exact hv | simp at hv)) hE.ce') (Sx.none))) ?_
            refine WD.one (i := 11) (by kernel_rfl) rfl ?_
            refine WL.callV F.fun81 rfl rfl (fun w hS => at_c lb ab cb rb y w (by omega) hy (hE.rdb.now hS)) ?_
            refine WD.on (closed_of (by kernel_rfl)) (fun w hS => Sx.gone rfl (Sx.gone rfl (Sx.none))) ?_
            refine WD.one (i := 14) (by kernel_rfl) rfl ?_
            refine WL.storeN F.agg63 rfl rfl rfl (by simp [Value.oneCell']) (by repeat (first | exact Upd.here | apply Upd.there)) (by repeat constructor) ?_
            refine WD.on (closed_of (by kernel_rfl)) (fun w hS => Sx.gone rfl (Sx.gone rfl (Sx.none))) ?_
            refine WD.one (i := 15) (by kernel_rfl) rfl ?_
            refine WL.storeN F.agg63 rfl rfl rfl (by simp [Value.oneCell']) (by repeat (first | exact Upd.here | apply Upd.there)) (by repeat constructor) ?_
            refine WD.on (closed_of (by kernel_rfl)) (fun w hS => Sx.gone rfl (Sx.gone rfl (Sx.none))) ?_
            refine WD.done (by kernel_rfl) ?_
            refine WQ.chunks (C' := [pt (b14, b15).1 [Value.int .i64 ((atD la x).1 : Int), .int .i64 ((atD la x).2.1 : Int), .int .i64 ((atD la x).2.2 : Int)] 63, pt (b14, b15).2 [Value.int .i64 ((atD lb y).1 : Int), .int .i64 ((atD lb y).2.1 : Int), .int .i64 ((atD lb y).2.2 : Int)] 63, pt b11 [Value.int .i64 (x : Int), .int .i64 (y : Int)] 137, mkr F1 bm l, mpg enc2 bs (fun q => (f q).map encI)]) (fun w hS => ((St.pick (St.pick (St.pick (St.pick (St.pick hS (c := mpg enc2 bs (fun q => (f q).map encI)) (by repeat (first | exact Rem.here | apply Rem.there))) (c := mkr F1 bm l) (by repeat (first | exact Rem.here | apply Rem.there))) (c := pt b11 [Value.int .i64 (x : Int), .int .i64 (y : Int)] 137) (by repeat (first | exact Rem.here | apply Rem.there))) (c := pt (b14, b15).2 [Value.int .i64 ((atD lb y).1 : Int), .int .i64 ((atD lb y).2.1 : Int), .int .i64 ((atD lb y).2.2 : Int)] 63) (by repeat (first | exact Rem.here | apply Rem.there))) (c := pt (b14, b15).1 [Value.int .i64 ((atD la x).1 : Int), .int .i64 ((atD la x).2.1 : Int), .int .i64 ((atD la x).2.2 : Int)] 63) (by repeat (first | exact Rem.here | apply Rem.there)))).sublist (List.Sublist.cons_cons _ (List.Sublist.cons_cons _ (List.Sublist.cons_cons _ (List.Sublist.cons_cons _ (List.Sublist.cons_cons _ (List.nil_sublist _))))))) ?_
            exact WQ.byCut (hQ (b14, b15)) ⟨rfl, rfl, rfl, rfl, rfl, rfl, rfl, trivial⟩
      obtain ⟨b14, b15⟩ := xE
      show WQ _ _ _ _ _ _ [(0, pp bp), (1, .int .i64 (x : Int)), (2, .int .i64 (y : Int)), (3, Value.func (.func g) [].toArray [].toArray), (11, pp b11), (14, pp b14), (15, pp b15)] [pt b14 [Value.int .i64 ((atD la x).1 : Int), .int .i64 ((atD la x).2.1 : Int), .int .i64 ((atD la x).2.2 : Int)] 63, pt b15 [Value.int .i64 ((atD lb y).1 : Int), .int .i64 ((atD lb y).2.1 : Int), .int .i64 ((atD lb y).2.2 : Int)] 63, pt b11 [Value.int .i64 (x : Int), .int .i64 (y : Int)] 137, mkr F1 bm l, mpg enc2 bs (fun q => (f q).map encI)]
      obtain ⟨i, hi⟩ : ∃ i, i = min (atD la x).1 (atD lb y).1 := ⟨_, rfl⟩
      have hgo := hop.spec.go x y h28
      have hi24 : i < 24 := by
        rcases hgo with h | h
        · have := atD_lt ha hx h; omega
        · have := atD_lt hb hy h; omega
      have hmi : m ≤ i := by have e1 := atD_ok ha hx hox hm24; have e2 := atD_ok hb hy hoy hm24; omega
      obtain ⟨a1, a2, a3, a4, _, _, a7⟩ := half_at ha hx hox (i := i) (by omega) hi24
      obtain ⟨c1, c2, c3, c4, _, _, c7⟩ := half_at hb hy hoy (i := i) (by omega) hi24
      have hp2 : 2 ^ (24 - (i + 1)) + 2 ^ (24 - (i + 1)) ≤ 2 ^ (24 - m) := by (have e1 : 2 ^ (24 - i) = 2 ^ (24 - (i + 1)) * 2 := by (rw [← Nat.pow_succ]; congr 1; omega)); (have e2 : 2 ^ (24 - i) ≤ 2 ^ (24 - m) := Nat.pow_le_pow_right (by decide) (by omega)); omega
      refine WQ.then_normal ?_
      refine WC.seq ?_
      refine WC.region ?_
      refine WL.step ?_
      refine WL.fieldAddr0 F.fld63_0 rfl rfl ?_
      refine WL.step ?_
      refine WL.loadP F.one3 rfl rfl (by repeat (first | exact List.Mem.head _ | apply List.Mem.tail)) rfl ?_
      refine WL.step ?_
      refine WL.fieldAddr0 F.fld63_0 rfl rfl ?_
      refine WL.step ?_
      refine WL.loadP F.one3 rfl rfl (by repeat (first | exact List.Mem.head _ | apply List.Mem.tail)) rfl ?_
      refine WL.step ?_
      refine WL.minI (r := (i : Int)) rfl rfl rfl (by (split) <;> omega) ?_
      refine WL.step ?_
      refine WL.assign rfl rfl ?_
      refine WL.nil ?_
      refine WQ.then_normal ?_
      refine WC.seq ?_
      refine WC.region ?_
      refine WL.step ?_
      refine WL.move rfl rfl ?_
      refine WL.step ?_
      refine WL.move rfl rfl ?_
      refine WL.step ?_
      refine WL.buildA F.arT137 rfl (by repeat (first | exact Built.nil | apply Built.one rfl rfl (by repeat constructor) | apply Built.agg rfl rfl (by repeat constructor))) rfl ?_
      refine WL.step ?_
      refine WL.move rfl rfl ?_
      refine WL.step ?_
      refine WL.move rfl rfl ?_
      refine WL.step ?_
      refine WL.buildA F.arT137 rfl (by repeat (first | exact Built.nil | apply Built.one rfl rfl (by repeat constructor) | apply Built.agg rfl rfl (by repeat constructor))) rfl ?_
      refine WL.step ?_
      refine WL.alloc F.zero137 rfl (fun b17 => ?_)
      refine WL.step ?_
      refine WL.alloc F.zero137 rfl (fun b18 => ?_)
      refine WL.step ?_
      refine WL.storeN F.agg137 rfl rfl rfl (by simp [Value.oneCell']) (by repeat (first | exact Upd.here | apply Upd.there)) (by repeat constructor) ?_
      refine WL.step ?_
      refine WL.storeN F.agg137 rfl rfl rfl (by simp [Value.oneCell']) (by repeat (first | exact Upd.here | apply Upd.there)) (by repeat constructor) ?_
      refine WL.nil ?_
      refine WQ.then_normal ?_
      refine WC.seq ?_
      refine WC.seq ?_
      refine WC.region ?_
      refine WL.step ?_
      refine WL.fieldAddr0 F.fld63_0 rfl rfl ?_
      refine WL.step ?_
      refine WL.loadP F.one3 rfl rfl (by repeat (first | exact List.Mem.head _ | apply List.Mem.tail)) rfl ?_
      refine WL.step ?_
      refine WL.move rfl rfl ?_
      refine WL.step ?_
      refine WL.eqI rfl rfl rfl ?_
      refine WL.nil ?_
      refine WQ.then_normal ?_
      refine WC.cutQ ([(0, pp bp), (1, .int .i64 (x : Int)), (2, .int .i64 (y : Int)), (3, Value.func (.func g) [].toArray [].toArray), (11, pp b11), (14, pp b14), (15, pp b15), (16, .int .i64 (i : Int)), (17, pp b17), (18, pp b18)]) ([pt b17 [.int .i64 (loP la x i : Int), .int .i64 (y : Int)] 137, pt b18 [.int .i64 (hiP la x i : Int), .int .i64 (y : Int)] 137, pt b15 [Value.int .i64 ((atD lb y).1 : Int), .int .i64 ((atD lb y).2.1 : Int), .int .i64 ((atD lb y).2.2 : Int)] 63, pt b11 [Value.int .i64 (x : Int), .int .i64 (y : Int)] 137, mkr F1 bm l, mpg enc2 bs (fun q => (f q).map encI)]) (fun c a d v w h => by cases d <;> exact h) (fun Q' hP hQ => ?_) ?_
      · skip
        refine WC.cond rfl (fun h70 => ?_) (fun h70 => ?_)
        · skip
          have h70n : (atD la x).1 = i := by simp at h70; omega
          have e70 : loP la x i = (atD la x).2.1 ∧ hiP la x i = (atD la x).2.2 := by unfold loP hiP; rw [if_pos h70n, if_pos h70n]; exact ⟨rfl, rfl⟩
          refine WC.drawsL (by kernel_rfl) (FactsOk.cons (ds := [5, 7]) (LoadOk.one (t := 14) (off := 1) rfl (by repeat (first | exact List.Mem.head _ | apply List.Mem.tail)) rfl) (FactsOk.cons (ds := [7]) (LoadOk.one (t := 14) (off := 2) rfl (by repeat (first | exact List.Mem.head _ | apply List.Mem.tail)) rfl) (FactsOk.nil))) ?_
          refine WD.take (i := 0) rfl rfl rfl rfl (by kernel_rfl) (by kernel_rfl) (by kernel_rfl) (fun _ _ _ h => hP _ _ _ _ _ h) (by kernel_rfl) need_none (Yl.fieldAddr0 F.fld63_1 rfl) ?_
          refine WD.take (i := 1) rfl rfl rfl rfl (by kernel_rfl) (by kernel_rfl) (by kernel_rfl) (fun _ _ _ h => hP _ _ _ _ _ h) (by kernel_rfl) (need_at 0 8 rfl (by kernel_rfl)) (Yl.load1 F.one3 rfl) ?_
          refine WD.take (i := 2) rfl rfl rfl rfl (by kernel_rfl) (by kernel_rfl) (by kernel_rfl) (fun _ _ _ h => hP _ _ _ _ _ h) (by kernel_rfl) need_none (Yl.fieldAddr0 F.fld63_2 rfl) ?_
          refine WD.take (i := 3) rfl rfl rfl rfl (by kernel_rfl) (by kernel_rfl) (by kernel_rfl) (fun _ _ _ h => hP _ _ _ _ _ h) (by kernel_rfl) (need_at 1 8 rfl (by kernel_rfl)) (Yl.load1 F.one3 rfl) ?_
          refine WD.take (i := 4) rfl rfl rfl rfl (by kernel_rfl) (by kernel_rfl) (by kernel_rfl) (fun _ _ _ h => hP _ _ _ _ _ h) (by kernel_rfl) need_none (Yl.indexAddrA (i := 0) F.arT137 rfl rfl (by decide)) ?_
          refine WD.one (i := 5) (by kernel_rfl) rfl ?_
          refine WL.store1 F.one3 rfl rfl rfl (by repeat (first | exact Upd.here | apply Upd.there)) (by repeat constructor) ?_
          refine WD.on (closed_of (by kernel_rfl)) (fun w hS => Sx.gone rfl (Sx.keep (hS.cell (by repeat (first | exact List.Mem.head _ | apply List.Mem.tail)) rfl) (Sx.none))) ?_
          refine WD.take (i := 6) rfl rfl rfl rfl (by kernel_rfl) (by kernel_rfl) (by kernel_rfl) (fun _ _ _ h => hP _ _ _ _ _ h) (by kernel_rfl) need_none (Yl.indexAddrA (i := 0) F.arT137 rfl rfl (by decide)) ?_
          refine WD.one (i := 7) (by kernel_rfl) rfl ?_
          refine WL.store1 F.one3 rfl rfl rfl (by repeat (first | exact Upd.here | apply Upd.there)) (by repeat constructor) ?_
          refine WD.on (closed_of (by kernel_rfl)) (fun w hS => Sx.gone rfl (Sx.gone rfl (Sx.none))) ?_
          refine WD.done (by kernel_rfl) ?_
          refine WQ.chunks (C' := [pt b17 [.int .i64 (loP la x i : Int), .int .i64 (y : Int)] 137, pt b18 [.int .i64 (hiP la x i : Int), .int .i64 (y : Int)] 137, pt b15 [Value.int .i64 ((atD lb y).1 : Int), .int .i64 ((atD lb y).2.1 : Int), .int .i64 ((atD lb y).2.2 : Int)] 63, pt b11 [Value.int .i64 (x : Int), .int .i64 (y : Int)] 137, mkr F1 bm l, mpg enc2 bs (fun q => (f q).map encI)]) (fun w hS => ?_) (WQ.byCut hQ ⟨rfl, rfl, rfl, rfl, rfl, rfl, rfl, rfl, rfl, rfl, trivial⟩)
          rw [e70.1, e70.2]
          first | exact ((St.pick (St.pick (St.pick (St.pick (St.pick (St.pick hS (c := mpg enc2 bs (fun q => (f q).map encI)) (by repeat (first | exact Rem.here | apply Rem.there))) (c := mkr F1 bm l) (by repeat (first | exact Rem.here | apply Rem.there))) (c := pt b11 [Value.int .i64 (x : Int), .int .i64 (y : Int)] 137) (by repeat (first | exact Rem.here | apply Rem.there))) (c := pt b15 [Value.int .i64 ((atD lb y).1 : Int), .int .i64 ((atD lb y).2.1 : Int), .int .i64 ((atD lb y).2.2 : Int)] 63) (by repeat (first | exact Rem.here | apply Rem.there))) (c := pt b18 [.int .i64 ((atD la x).2.2 : Int), .int .i64 (y : Int)] 137) (by repeat (first | exact Rem.here | apply Rem.there))) (c := pt b17 [.int .i64 ((atD la x).2.1 : Int), .int .i64 (y : Int)] 137) (by repeat (first | exact Rem.here | apply Rem.there)))).sublist (List.Sublist.cons_cons _ (List.Sublist.cons_cons _ (List.Sublist.cons_cons _ (List.Sublist.cons_cons _ (List.Sublist.cons_cons _ (List.Sublist.cons_cons _ (List.nil_sublist _))))))) | exact ((St.pick (St.pick (St.pick (St.pick (St.pick (St.pick hS (c := mpg enc2 bs (fun q => (f q).map encI)) (by repeat (first | exact Rem.here | apply Rem.there))) (c := mkr F1 bm l) (by repeat (first | exact Rem.here | apply Rem.there))) (c := pt b11 [Value.int .i64 (x : Int), .int .i64 (y : Int)] 137) (by repeat (first | exact Rem.here | apply Rem.there))) (c := pt b15 [Value.int .i64 ((atD lb y).1 : Int), .int .i64 ((atD lb y).2.1 : Int), .int .i64 ((atD lb y).2.2 : Int)] 63) (by repeat (first | exact Rem.here | apply Rem.there))) (c := pt b18 [.int .i64 (x : Int), .int .i64 (y : Int)] 137) (by repeat (first | exact Rem.here | apply Rem.there))) (c := pt b17 [.int .i64 (x : Int), .int .i64 (y : Int)] 137) (by repeat (first | exact Rem.here | apply Rem.there)))).sublist (List.Sublist.cons_cons _ (List.Sublist.cons_cons _ (List.Sublist.cons_cons _ (List.Sublist.cons_cons _ (List.Sublist.cons_cons _ (List.Sublist.cons_cons _ (List.nil_sublist _)))))))
        · skip
          have h70n : ¬ (atD la x).1 = i := by simp at h70; omega
          have e70 : loP la x i = x ∧ hiP la x i = x := by unfold loP hiP; rw [if_neg h70n, if_neg h70n]; exact ⟨rfl, rfl⟩
          refine WC.skip ?_
          refine WQ.chunks (C' := [pt b17 [.int .i64 (loP la x i : Int), .int .i64 (y : Int)] 137, pt b18 [.int .i64 (hiP la x i : Int), .int .i64 (y : Int)] 137, pt b15 [Value.int .i64 ((atD lb y).1 : Int), .int .i64 ((atD lb y).2.1 : Int), .int .i64 ((atD lb y).2.2 : Int)] 63, pt b11 [Value.int .i64 (x : Int), .int .i64 (y : Int)] 137, mkr F1 bm l, mpg enc2 bs (fun q => (f q).map encI)]) (fun w hS => ?_) (WQ.byCut hQ ⟨rfl, rfl, rfl, rfl, rfl, rfl, rfl, rfl, rfl, rfl, trivial⟩)
          rw [e70.1, e70.2]
          first | exact ((St.pick (St.pick (St.pick (St.pick (St.pick (St.pick hS (c := mpg enc2 bs (fun q => (f q).map encI)) (by repeat (first | exact Rem.here | apply Rem.there))) (c := mkr F1 bm l) (by repeat (first | exact Rem.here | apply Rem.there))) (c := pt b11 [Value.int .i64 (x : Int), .int .i64 (y : Int)] 137) (by repeat (first | exact Rem.here | apply Rem.there))) (c := pt b15 [Value.int .i64 ((atD lb y).1 : Int), .int .i64 ((atD lb y).2.1 : Int), .int .i64 ((atD lb y).2.2 : Int)] 63) (by repeat (first | exact Rem.here | apply Rem.there))) (c := pt b18 [.int .i64 ((atD la x).2.2 : Int), .int .i64 (y : Int)] 137) (by repeat (first | exact Rem.here | apply Rem.there))) (c := pt b17 [.int .i64 ((atD la x).2.1 : Int), .int .i64 (y : Int)] 137) (by repeat (first | exact Rem.here | apply Rem.there)))).sublist (List.Sublist.cons_cons _ (List.Sublist.cons_cons _ (List.Sublist.cons_cons _ (List.Sublist.cons_cons _ (List.Sublist.cons_cons _ (List.Sublist.cons_cons _ (List.nil_sublist _))))))) | exact ((St.pick (St.pick (St.pick (St.pick (St.pick (St.pick hS (c := mpg enc2 bs (fun q => (f q).map encI)) (by repeat (first | exact Rem.here | apply Rem.there))) (c := mkr F1 bm l) (by repeat (first | exact Rem.here | apply Rem.there))) (c := pt b11 [Value.int .i64 (x : Int), .int .i64 (y : Int)] 137) (by repeat (first | exact Rem.here | apply Rem.there))) (c := pt b15 [Value.int .i64 ((atD lb y).1 : Int), .int .i64 ((atD lb y).2.1 : Int), .int .i64 ((atD lb y).2.2 : Int)] 63) (by repeat (first | exact Rem.here | apply Rem.there))) (c := pt b18 [.int .i64 (x : Int), .int .i64 (y : Int)] 137) (by repeat (first | exact Rem.here | apply Rem.there))) (c := pt b17 [.int .i64 (x : Int), .int .i64 (y : Int)] 137) (by repeat (first | exact Rem.here | apply Rem.there)))).sublist (List.Sublist.cons_cons _ (List.Sublist.cons_cons _ (List.Sublist.cons_cons _ (List.Sublist.cons_cons _ (List.Sublist.cons_cons _ (List.Sublist.cons_cons _ (List.nil_sublist _)))))))
      refine WQ.then_normal ?_
      refine WC.seq ?_
      refine WC.seq ?_
      refine WC.region ?_
      refine WL.step ?_
      refine WL.fieldAddr0 F.fld63_0 rfl rfl ?_
      refine WL.step ?_
      refine WL.loadP F.one3 rfl rfl (by repeat (first | exact List.Mem.head _ | apply List.Mem.tail)) rfl ?_
      refine WL.step ?_
      refine WL.move rfl rfl ?_
      refine WL.step ?_
      refine WL.eqI rfl rfl rfl ?_
      refine WL.nil ?_
      refine WQ.then_normal ?_
      refine WC.cutQ ([(0, pp bp), (3, Value.func (.func g) [].toArray [].toArray), (11, pp b11), (14, pp b14), (15, pp b15), (16, .int .i64 (i : Int)), (17, pp b17), (18, pp b18)]) ([pt b17 [.int .i64 (loP la x i : Int), .int .i64 (loP lb y i : Int)] 137, pt b18 [.int .i64 (hiP la x i : Int), .int .i64 (hiP lb y i : Int)] 137, pt b11 [Value.int .i64 (x : Int), .int .i64 (y : Int)] 137, mkr F1 bm l, mpg enc2 bs (fun q => (f q).map encI)]) (fun c a d v w h => by cases d <;> exact h) (fun Q' hP hQ => ?_) ?_
      · skip
        refine WC.cond rfl (fun h80 => ?_) (fun h80 => ?_)
        · skip
          have h80n : (atD lb y).1 = i := by simp at h80; omega
          have e80 : loP lb y i = (atD lb y).2.1 ∧ hiP lb y i = (atD lb y).2.2 := by unfold loP hiP; rw [if_pos h80n, if_pos h80n]; exact ⟨rfl, rfl⟩
          refine WC.drawsL (by kernel_rfl) (FactsOk.cons (ds := [5, 7]) (LoadOk.one (t := 15) (off := 1) rfl (by repeat (first | exact List.Mem.head _ | apply List.Mem.tail)) rfl) (FactsOk.cons (ds := [7]) (LoadOk.one (t := 15) (off := 2) rfl (by repeat (first | exact List.Mem.head _ | apply List.Mem.tail)) rfl) (FactsOk.nil))) ?_
          refine WD.take (i := 0) rfl rfl rfl rfl (by kernel_rfl) (by kernel_rfl) (by kernel_rfl) (fun _ _ _ h => hP _ _ _ _ _ h) (by kernel_rfl) need_none (Yl.fieldAddr0 F.fld63_1 rfl) ?_
          refine WD.take (i := 1) rfl rfl rfl rfl (by kernel_rfl) (by kernel_rfl) (by kernel_rfl) (fun _ _ _ h => hP _ _ _ _ _ h) (by kernel_rfl) (need_at 0 8 rfl (by kernel_rfl)) (Yl.load1 F.one3 rfl) ?_
          refine WD.take (i := 2) rfl rfl rfl rfl (by kernel_rfl) (by kernel_rfl) (by kernel_rfl) (fun _ _ _ h => hP _ _ _ _ _ h) (by kernel_rfl) need_none (Yl.fieldAddr0 F.fld63_2 rfl) ?_
          refine WD.take (i := 3) rfl rfl rfl rfl (by kernel_rfl) (by kernel_rfl) (by kernel_rfl) (fun _ _ _ h => hP _ _ _ _ _ h) (by kernel_rfl) (need_at 1 8 rfl (by kernel_rfl)) (Yl.load1 F.one3 rfl) ?_
          refine WD.take (i := 4) rfl rfl rfl rfl (by kernel_rfl) (by kernel_rfl) (by kernel_rfl) (fun _ _ _ h => hP _ _ _ _ _ h) (by kernel_rfl) need_none (Yl.indexAddrA (i := 1) F.arT137 rfl rfl (by decide)) ?_
          refine WD.one (i := 5) (by kernel_rfl) rfl ?_
          refine WL.store1 F.one3 rfl rfl rfl (by repeat (first | exact Upd.here | apply Upd.there)) (by repeat constructor) ?_
          refine WD.on (closed_of (by kernel_rfl)) (fun w hS => Sx.gone rfl (Sx.keep (hS.cell (by repeat (first | exact List.Mem.head _ | apply List.Mem.tail)) rfl) (Sx.none))) ?_
          refine WD.take (i := 6) rfl rfl rfl rfl (by kernel_rfl) (by kernel_rfl) (by kernel_rfl) (fun _ _ _ h => hP _ _ _ _ _ h) (by kernel_rfl) need_none (Yl.indexAddrA (i := 1) F.arT137 rfl rfl (by decide)) ?_
          refine WD.one (i := 7) (by kernel_rfl) rfl ?_
          refine WL.store1 F.one3 rfl rfl rfl (by repeat (first | exact Upd.here | apply Upd.there)) (by repeat constructor) ?_
          refine WD.on (closed_of (by kernel_rfl)) (fun w hS => Sx.gone rfl (Sx.gone rfl (Sx.none))) ?_
          refine WD.done (by kernel_rfl) ?_
          refine WQ.chunks (C' := [pt b17 [.int .i64 (loP la x i : Int), .int .i64 (loP lb y i : Int)] 137, pt b18 [.int .i64 (hiP la x i : Int), .int .i64 (hiP lb y i : Int)] 137, pt b11 [Value.int .i64 (x : Int), .int .i64 (y : Int)] 137, mkr F1 bm l, mpg enc2 bs (fun q => (f q).map encI)]) (fun w hS => ?_) (WQ.byCut hQ ⟨rfl, rfl, rfl, rfl, rfl, rfl, rfl, rfl, trivial⟩)
          rw [e80.1, e80.2]
          first | exact ((St.pick (St.pick (St.pick (St.pick (St.pick hS (c := mpg enc2 bs (fun q => (f q).map encI)) (by repeat (first | exact Rem.here | apply Rem.there))) (c := mkr F1 bm l) (by repeat (first | exact Rem.here | apply Rem.there))) (c := pt b11 [Value.int .i64 (x : Int), .int .i64 (y : Int)] 137) (by repeat (first | exact Rem.here | apply Rem.there))) (c := pt b18 [.int .i64 (hiP la x i : Int), .int .i64 ((atD lb y).2.2 : Int)] 137) (by repeat (first | exact Rem.here | apply Rem.there))) (c := pt b17 [.int .i64 (loP la x i : Int), .int .i64 ((atD lb y).2.1 : Int)] 137) (by repeat (first | exact Rem.here | apply Rem.there)))).sublist (List.Sublist.cons_cons _ (List.Sublist.cons_cons _ (List.Sublist.cons_cons _ (List.Sublist.cons_cons _ (List.Sublist.cons_cons _ (List.nil_sublist _)))))) | exact ((St.pick (St.pick (St.pick (St.pick (St.pick hS (c := mpg enc2 bs (fun q => (f q).map encI)) (by repeat (first | exact Rem.here | apply Rem.there))) (c := mkr F1 bm l) (by repeat (first | exact Rem.here | apply Rem.there))) (c := pt b11 [Value.int .i64 (x : Int), .int .i64 (y : Int)] 137) (by repeat (first | exact Rem.here | apply Rem.there))) (c := pt b18 [.int .i64 (hiP la x i : Int), .int .i64 (y : Int)] 137) (by repeat (first | exact Rem.here | apply Rem.there))) (c := pt b17 [.int .i64 (loP la x i : Int), .int .i64 (y : Int)] 137) (by repeat (first | exact Rem.here | apply Rem.there)))).sublist (List.Sublist.cons_cons _ (List.Sublist.cons_cons _ (List.Sublist.cons_cons _ (List.Sublist.cons_cons _ (List.Sublist.cons_cons _ (List.nil_sublist _))))))
        · skip
          have h80n : ¬ (atD lb y).1 = i := by simp at h80; omega
          have e80 : loP lb y i = y ∧ hiP lb y i = y := by unfold loP hiP; rw [if_neg h80n, if_neg h80n]; exact ⟨rfl, rfl⟩
          refine WC.skip ?_
          refine WQ.chunks (C' := [pt b17 [.int .i64 (loP la x i : Int), .int .i64 (loP lb y i : Int)] 137, pt b18 [.int .i64 (hiP la x i : Int), .int .i64 (hiP lb y i : Int)] 137, pt b11 [Value.int .i64 (x : Int), .int .i64 (y : Int)] 137, mkr F1 bm l, mpg enc2 bs (fun q => (f q).map encI)]) (fun w hS => ?_) (WQ.byCut hQ ⟨rfl, rfl, rfl, rfl, rfl, rfl, rfl, rfl, trivial⟩)
          rw [e80.1, e80.2]
          first | exact ((St.pick (St.pick (St.pick (St.pick (St.pick hS (c := mpg enc2 bs (fun q => (f q).map encI)) (by repeat (first | exact Rem.here | apply Rem.there))) (c := mkr F1 bm l) (by repeat (first | exact Rem.here | apply Rem.there))) (c := pt b11 [Value.int .i64 (x : Int), .int .i64 (y : Int)] 137) (by repeat (first | exact Rem.here | apply Rem.there))) (c := pt b18 [.int .i64 (hiP la x i : Int), .int .i64 ((atD lb y).2.2 : Int)] 137) (by repeat (first | exact Rem.here | apply Rem.there))) (c := pt b17 [.int .i64 (loP la x i : Int), .int .i64 ((atD lb y).2.1 : Int)] 137) (by repeat (first | exact Rem.here | apply Rem.there)))).sublist (List.Sublist.cons_cons _ (List.Sublist.cons_cons _ (List.Sublist.cons_cons _ (List.Sublist.cons_cons _ (List.Sublist.cons_cons _ (List.nil_sublist _)))))) | exact ((St.pick (St.pick (St.pick (St.pick (St.pick hS (c := mpg enc2 bs (fun q => (f q).map encI)) (by repeat (first | exact Rem.here | apply Rem.there))) (c := mkr F1 bm l) (by repeat (first | exact Rem.here | apply Rem.there))) (c := pt b11 [Value.int .i64 (x : Int), .int .i64 (y : Int)] 137) (by repeat (first | exact Rem.here | apply Rem.there))) (c := pt b18 [.int .i64 (hiP la x i : Int), .int .i64 (y : Int)] 137) (by repeat (first | exact Rem.here | apply Rem.there))) (c := pt b17 [.int .i64 (loP la x i : Int), .int .i64 (y : Int)] 137) (by repeat (first | exact Rem.here | apply Rem.there)))).sublist (List.Sublist.cons_cons _ (List.Sublist.cons_cons _ (List.Sublist.cons_cons _ (List.Sublist.cons_cons _ (List.Sublist.cons_cons _ (List.nil_sublist _))))))
      refine WQ.then_normal ?_
      refine WC.seq ?_
      refine WC.region ?_
      refine WL.step ?_
      refine WL.move rfl rfl ?_
      refine WL.step ?_
      refine WL.indexAddrA (i := 0) F.arT137 rfl rfl rfl (by decide) ?_
      refine WL.step ?_
      refine WL.loadP F.one3 rfl rfl (by repeat (first | exact List.Mem.head _ | apply List.Mem.tail)) rfl ?_
      refine WL.step ?_
      refine WL.indexAddrA (i := 1) F.arT137 rfl rfl rfl (by decide) ?_
      refine WL.step ?_
      refine WL.loadP F.one3 rfl rfl (by repeat (first | exact List.Mem.head _ | apply List.Mem.tail)) rfl ?_
      refine WL.step ?_
      refine WL.move rfl rfl ?_
      refine WA.chunks (C' := [jns (F1 ++ ([bs] ++ [])) bm bs l f, pt b17 [.int .i64 (loP la x i : Int), .int .i64 (loP lb y i : Int)] 137, pt b18 [.int .i64 (hiP la x i : Int), .int .i64 (hiP lb y i : Int)] 137, pt b11 [Value.int .i64 (x : Int), .int .i64 (y : Int)] 137]) (fun w hS => St.jnsClose (((St.pick (St.pick (St.pick (St.pick (St.pick hS (c := pt b11 [Value.int .i64 (x : Int), .int .i64 (y : Int)] 137) (by repeat (first | exact Rem.here | apply Rem.there))) (c := pt b18 [.int .i64 (hiP la x i : Int), .int .i64 (hiP lb y i : Int)] 137) (by repeat (first | exact Rem.here | apply Rem.there))) (c := pt b17 [.int .i64 (loP la x i : Int), .int .i64 (loP lb y i : Int)] 137) (by repeat (first | exact Rem.here | apply Rem.there))) (c := mpg enc2 bs (fun q => (f q).map encI)) (by repeat (first | exact Rem.here | apply Rem.there))) (c := mkr F1 bm l) (by repeat (first | exact Rem.here | apply Rem.there)))).sublist (List.Sublist.cons_cons _ (List.Sublist.cons_cons _ (List.Sublist.cons_cons _ (List.Sublist.cons_cons _ (List.Sublist.cons_cons _ (List.nil_sublist _)))))))) ?_
      refine WL.step ?_
      refine WL.callC (β := { z : JT // JPost bop la lb l (i + 1) (loP la x i) (loP lb y i) z }) (res := fun z => .int .i64 (z.1.2.2.2 : Int)) (cs := fun z => [jns z.1.1 bm bs z.1.2.1 z.1.2.2.1]) (Cs := [jns (F1 ++ ([bs] ++ [])) bm bs l f]) (C1 := [pt b17 [.int .i64 (loP la x i : Int), .int .i64 (loP lb y i : Int)] 137, pt b18 [.int .i64 (hiP la x i : Int), .int .i64 (hiP lb y i : Int)] 137, pt b11 [Value.int .i64 (x : Int), .int .i64 (y : Int)] 137]) (O' := (F1 ++ ([bs] ++ []))) F.fun56 (fun d h => by cases h; rfl) rfl (List.Perm.refl _) bun_O1 bun_O2 (fun w hS hS2 => hrec (i + 1) (by omega) (by omega) (F1 ++ ([bs] ++ [])) l f (loP la x i) (loP lb y i) w a1 c1 a3 c3 hm hsn (by omega) (hE.next hS) hS2) (fun ⟨z1, hz1⟩ => ?_)
      obtain ⟨G1, l1, f1, p1⟩ := z1
      obtain ⟨j1, j2, j3, j4, j5⟩ := hz1
      dsimp only at j1 j2 j3 j4 j5 ⊢
      refine WL.step ?_
      refine WL.assign rfl rfl ?_
      refine WL.nil ?_
      refine WQ.then_normal ?_
      refine WC.seq ?_
      refine WC.drawsL (by kernel_rfl) (FactsOk.cons (ds := [13]) (LoadOk.by (Y := fun w => w.cell? ⟨bp, 0, none⟩ = some (pp bm)) (fun w hS => hS.oldc (hE.ce 0 _ rfl) hE.ce')) (FactsOk.cons (ds := [12, 13]) (LoadOk.by (Y := fun w => w.cell? ⟨b18, 0 + 0 * 1, none⟩ = some (.int .i64 (hiP la x i : Int))) (fun w hS => hS.cell (cs := [.int .i64 (hiP la x i : Int), .int .i64 (hiP lb y i : Int)]) (by repeat (first | exact List.Mem.head _ | apply List.Mem.tail)) rfl)) (FactsOk.cons (ds := [12, 13]) (LoadOk.by (Y := fun w => w.cell? ⟨b18, 0 + 1 * 1, none⟩ = some (.int .i64 (hiP lb y i : Int))) (fun w hS => hS.cell (cs := [.int .i64 (hiP la x i : Int), .int .i64 (hiP lb y i : Int)]) (by repeat (first | exact List.Mem.head _ | apply List.Mem.tail)) rfl)) (FactsOk.nil)))) ?_
      refine WD.take (i := 0) rfl rfl rfl rfl (by kernel_rfl) (by kernel_rfl) (by kernel_rfl) (fun _ _ _ h => h) (by kernel_rfl) need_none (Yl.move rfl) ?_
      refine WD.take (i := 1) rfl rfl rfl rfl (by kernel_rfl) (by kernel_rfl) (by kernel_rfl) (fun _ _ _ h => h) (by kernel_rfl) need_none (Yl.nilCheck rfl) ?_
      refine WD.take (i := 2) rfl rfl rfl rfl (by kernel_rfl) (by kernel_rfl) (by kernel_rfl) (fun _ _ _ h => h) (by kernel_rfl) need_none (Yl.fieldAddr0 F.fld100_0 rfl) ?_
      refine WD.take (i := 3) rfl rfl rfl rfl (by kernel_rfl) (by kernel_rfl) (by kernel_rfl) (fun _ _ _ h => h) (by kernel_rfl) (need_at 0 15 rfl (by kernel_rfl)) (Yl.load1 F.one96 rfl) ?_
      refine WD.take (i := 4) rfl rfl rfl rfl (by kernel_rfl) (by kernel_rfl) (by kernel_rfl) (fun _ _ _ h => h) (by kernel_rfl) need_none (Yl.move rfl) ?_
      refine WD.take (i := 5) rfl rfl rfl rfl (by kernel_rfl) (by kernel_rfl) (by kernel_rfl) (fun _ _ _ h => h) (by kernel_rfl) need_none (Yl.move rfl) ?_
      refine WD.take (i := 6) rfl rfl rfl rfl (by kernel_rfl) (by kernel_rfl) (by kernel_rfl) (fun _ _ _ h => h) (by kernel_rfl) need_none (Yl.move rfl) ?_
      refine WD.take (i := 7) rfl rfl rfl rfl (by kernel_rfl) (by kernel_rfl) (by kernel_rfl) (fun _ _ _ h => h) (by kernel_rfl) need_none (Yl.indexAddrA (i := 0) F.arT137 rfl rfl (by decide)) ?_
      refine WD.take (i := 8) rfl rfl rfl rfl (by kernel_rfl) (by kernel_rfl) (by kernel_rfl) (fun _ _ _ h => h) (by kernel_rfl) (need_at 1 15 rfl (by kernel_rfl)) (Yl.load1 F.one3 rfl) ?_
      refine WD.take (i := 9) rfl rfl rfl rfl (by kernel_rfl) (by kernel_rfl) (by kernel_rfl) (fun _ _ _ h => h) (by kernel_rfl) need_none (Yl.indexAddrA (i := 1) F.arT137 rfl rfl (by decide)) ?_
      refine WD.take (i := 10) rfl rfl rfl rfl (by kernel_rfl) (by kernel_rfl) (by kernel_rfl) (fun _ _ _ h => h) (by kernel_rfl) (need_at 2 15 rfl (by kernel_rfl)) (Yl.load1 F.one3 rfl) ?_
      refine WD.take (i := 11) rfl rfl rfl rfl (by kernel_rfl) (by kernel_rfl) (by kernel_rfl) (fun _ _ _ h => h) (by kernel_rfl) need_none (Yl.move rfl) ?_
      refine WD.one (i := 12) (by kernel_rfl) rfl ?_
      refine WL.callC (β := { z : JT // JPost bop la lb l1 (i + 1) (hiP la x i) (hiP lb y i) z }) (res := fun z => .int .i64 (z.1.2.2.2 : Int)) (cs := fun z => [jns z.1.1 bm bs z.1.2.1 z.1.2.2.1]) (Cs := [jns G1 bm bs l1 f1]) (C1 := [pt b17 [.int .i64 (loP la x i : Int), .int .i64 (loP lb y i : Int)] 137, pt b18 [.int .i64 (hiP la x i : Int), .int .i64 (hiP lb y i : Int)] 137, pt b11 [Value.int .i64 (x : Int), .int .i64 (y : Int)] 137]) (O' := G1) F.fun56 (fun d h => by cases h; rfl) rfl (List.Perm.refl _) bun_O1 bun_O2 (fun w hS hS2 => hrec (i + 1) (by omega) (by omega) G1 l1 f1 (hiP la x i) (hiP lb y i) w a2 c2 a4 c4 j1 j5 (by omega) (hE.next hS) hS2) (fun ⟨z2, hz2⟩ => ?_)
      refine WD.on (closed_of (by kernel_rfl)) (fun w hS => Sx.keep (hS.oldc (hE.ce 0 _ rfl) hE.ce') (Sx.gone rfl (Sx.gone rfl (Sx.none)))) ?_
      obtain ⟨G2, l2, f2, p2⟩ := z2
      obtain ⟨k1, k2, k3, k4, k5⟩ := hz2
      dsimp only at k1 k2 k3 k4 k5 ⊢
      refine WD.one (i := 13) (by kernel_rfl) rfl ?_
      refine WA.openB (fun G3 _ _ _ => ?_)
      simp only [jnCs, List.cons_append, List.nil_append]
      refine WL.callC (β := { z : List Nat × List Dec × Nat // MadeN l2 z.2.1 z.2.2 (mkN i (trs l2 p1) (trs l2 p2)) ∧ z.2.1.length ≤ l2.length + 1 }) (res := fun z => .int .i64 (z.1.2.2 : Int)) (cs := fun z => [mkr z.1.1 bm z.1.2.1]) (Cs := [mkr G3 bm l2]) (C1 := [mpg enc2 bs (fun q => (f2 q).map encI), pt b17 [.int .i64 (loP la x i : Int), .int .i64 (loP lb y i : Int)] 137, pt b18 [.int .i64 (hiP la x i : Int), .int .i64 (hiP lb y i : Int)] 137, pt b11 [Value.int .i64 (x : Int), .int .i64 (y : Int)] 137]) (O' := G3) F.fun82 (fun d h => by cases h; rfl) rfl (List.Perm.refl _) bun_O1 bun_O2 (fun w hS hS2 => mnode_c G3 bm l2 i p1 p2 w hi24 k1 (j4.ext k2).lt k4.lt (by omega) hS2) (fun ⟨z3, hz3, hz3l⟩ => ?_)
      refine WD.on (closed_of (by kernel_rfl)) (fun w hS => Sx.gone rfl (Sx.gone rfl (Sx.gone rfl (Sx.none)))) ?_
      obtain ⟨G4, l3, r3⟩ := z3
      dsimp only at hz3 hz3l ⊢
      refine WD.take (i := 14) rfl rfl rfl rfl (by kernel_rfl) (by kernel_rfl) (by kernel_rfl) (fun _ _ _ h => h) (by kernel_rfl) need_none (Yl.assign rfl) ?_
      refine WD.done (by kernel_rfl) ?_
      refine WQ.then_normal ?_
      refine WC.seq ?_
      refine WC.drawsL (by kernel_rfl) (FactsOk.cons (ds := [6]) (LoadOk.by (Y := fun w => w.cell? ⟨bp, 5, none⟩ = some (.map (some bs))) (fun w hS => hS.oldc (hE.ce 5 _ rfl) hE.ce')) (FactsOk.cons (ds := [6]) (LoadOk.whole (t := 11) rfl (by repeat (first | exact List.Mem.head _ | apply List.Mem.tail))) (FactsOk.nil))) ?_
      refine WD.take (i := 0) rfl rfl rfl rfl (by kernel_rfl) (by kernel_rfl) (by kernel_rfl) (fun _ _ _ h => h) (by kernel_rfl) need_none (Yl.move rfl) ?_
      refine WD.take (i := 1) rfl rfl rfl rfl (by kernel_rfl) (by kernel_rfl) (by kernel_rfl) (fun _ _ _ h => h) (by kernel_rfl) need_none (Yl.nilCheck rfl) ?_
      refine WD.take (i := 2) rfl rfl rfl rfl (by kernel_rfl) (by kernel_rfl) (by kernel_rfl) (fun _ _ _ h => h) (by kernel_rfl) need_none (Yl.fieldAddr0 F.fld100_3 rfl) ?_
      refine WD.take (i := 3) rfl rfl rfl rfl (by kernel_rfl) (by kernel_rfl) (by kernel_rfl) (fun _ _ _ h => h) (by kernel_rfl) (need_at 0 7 rfl (by kernel_rfl)) (Yl.load1 F.one98 rfl) ?_
      refine WD.take (i := 4) rfl rfl rfl rfl (by kernel_rfl) (by kernel_rfl) (by kernel_rfl) (fun _ _ _ h => h) (by kernel_rfl) (need_at 1 7 rfl (by kernel_rfl)) (Yl.loadN F.agg137 rfl rfl) ?_
      refine WD.take (i := 5) rfl rfl rfl rfl (by kernel_rfl) (by kernel_rfl) (by kernel_rfl) (fun _ _ _ h => h) (by kernel_rfl) need_none (Yl.move rfl) ?_
      refine WD.one (i := 6) (by kernel_rfl) rfl ?_
      refine WL.mapPutG (f := fun q => (f2 q).map encI) (x, y) undMP keyPair rfl rfl rfl rfl (by repeat (first | exact Upd.here | apply Upd.there)) ?_
      refine WD.on (closed_of (by kernel_rfl)) (fun w hS => Sx.gone rfl (Sx.gone rfl (Sx.none))) ?_
      refine WD.done (by kernel_rfl) ?_
      refine WQ.then_normal ?_
      refine WC.seq ?_
      refine WC.region ?_
      refine WL.step ?_
      refine WL.move rfl rfl ?_
      refine WL.step ?_
      refine WL.assign rfl rfl ?_
      refine WL.nil ?_
      refine WQ.then_normal ?_
      refine WC.ret ?_
      have hjr := JR.node ha hb hx hy hox hoy hi hi24 j4 k4 k2 hz3
      have hpre : ∃ t, l3 = l ++ t := by (obtain ⟨t1, e1⟩ := j2; obtain ⟨t2, e2⟩ := k2; obtain ⟨t3, e3⟩ := hz3.pre; exact ⟨t1 ++ t2 ++ t3, by rw [e3, e2, e1]; simp⟩)
      refine WQ.ret (rs := [.tmp 8]) rfl (.tmp rfl .nil) (fun w hS => ⟨⟨(G4 ++ ([bs] ++ []), l3, fun q => if q = (x, y) then some r3 else f2 q, r3), ⟨hz3.ismk, hpre, by dsimp only; omega, hjr, (k5.ext hz3.pre).put hjr⟩⟩, rfl, ?_⟩)
      refine St.jnsClose (F1 := G4) ?_
      rw [← pair_map (z := (r3 : Int)) rfl]
      exact ((St.pick (St.pick hS (c := mpg enc2 bs (fun q => if q = (x, y) then some (.int .i64 (r3 : Int)) else (f2 q).map encI)) (by repeat (first | exact Rem.here | apply Rem.there))) (c := mkr G4 bm l3) (by repeat (first | exact Rem.here | apply Rem.there)))).sublist (List.Sublist.cons_cons _ (List.Sublist.cons_cons _ (List.nil_sublist _)))
    · skip
      refine WC.drawsL (by kernel_rfl) (FactsOk.cons (ds := []) (LoadOk.by (Y := fun w => w.cell? ⟨bp, 5, none⟩ = some (.map (some bs))) (fun w hS => hS.oldc (hE.ce 5 _ rfl) hE.ce')) (FactsOk.cons (ds := []) (LoadOk.whole (t := 11) rfl (by repeat (first | exact List.Mem.head _ | apply List.Mem.tail))) (FactsOk.cons (ds := []) (LoadOk.by (Y := fun w => (mpg enc2 bs (fun q => (f q).map encI)).ok w) (fun w hS => hS.ok _ (by repeat (first | exact List.Mem.head _ | apply List.Mem.tail)))) (FactsOk.nil)))) ?_
      refine WD.take (i := 0) rfl rfl rfl rfl (by kernel_rfl) (by kernel_rfl) (by kernel_rfl) (fun _ _ _ h => h) (by kernel_rfl) need_none (Yl.move rfl) ?_
      refine WD.take (i := 1) rfl rfl rfl rfl (by kernel_rfl) (by kernel_rfl) (by kernel_rfl) (fun _ _ _ h => h) (by kernel_rfl) need_none (Yl.nilCheck rfl) ?_
      refine WD.take (i := 2) rfl rfl rfl rfl (by kernel_rfl) (by kernel_rfl) (by kernel_rfl) (fun _ _ _ h => h) (by kernel_rfl) need_none (Yl.fieldAddr0 F.fld100_3 rfl) ?_
      refine WD.take (i := 3) rfl rfl rfl rfl (by kernel_rfl) (by kernel_rfl) (by kernel_rfl) (fun _ _ _ h => h) (by kernel_rfl) (need_at 0 11 rfl (by kernel_rfl)) (Yl.load1 F.one98 rfl) ?_
      refine WD.take (i := 4) rfl rfl rfl rfl (by kernel_rfl) (by kernel_rfl) (by kernel_rfl) (fun _ _ _ h => h) (by kernel_rfl) (need_at 1 11 rfl (by kernel_rfl)) (Yl.loadN F.agg137 rfl rfl) ?_
      refine WD.take (i := 5) rfl rfl rfl rfl (by kernel_rfl) (by kernel_rfl) (by kernel_rfl) (fun _ _ _ h => h) (by kernel_rfl) (need_at 2 11 rfl (by kernel_rfl)) (Yl.lookupHit (f := fun q => (f q).map encI) (v := encI r) (x, y) undMP keyPair zeroInt rfl rfl rfl (by rw [hf]; rfl)) ?_
      refine WD.take (i := 6) rfl rfl rfl rfl (by kernel_rfl) (by kernel_rfl) (by kernel_rfl) (fun _ _ _ h => h) (by kernel_rfl) need_none (Yl.move rfl) ?_
      refine WD.take (i := 7) rfl rfl rfl rfl (by kernel_rfl) (by kernel_rfl) (by kernel_rfl) (fun _ _ _ h => h) (by kernel_rfl) need_none (Yl.extract rfl rfl) ?_
      refine WD.take (i := 8) rfl rfl rfl rfl (by kernel_rfl) (by kernel_rfl) (by kernel_rfl) (fun _ _ _ h => h) (by kernel_rfl) need_none (Yl.extract rfl rfl) ?_
      refine WD.take (i := 9) rfl rfl rfl rfl (by kernel_rfl) (by kernel_rfl) (by kernel_rfl) (fun _ _ _ h => h) (by kernel_rfl) need_none (Yl.assign rfl) ?_
      refine WD.take (i := 10) rfl rfl rfl rfl (by kernel_rfl) (by kernel_rfl) (by kernel_rfl) (fun _ _ _ h => h) (by kernel_rfl) need_none (Yl.assign rfl) ?_
      refine WD.done (by kernel_rfl) ?_
      refine WQ.then_normal ?_
      refine WC.seq ?_
      refine WC.region ?_
      refine WL.step ?_
      refine WL.move rfl rfl ?_
      refine WL.nil ?_
      refine WQ.then_normal ?_
      refine WC.condT rfl ?_
      refine WC.seq ?_
      refine WC.region ?_
      refine WL.step ?_
      refine WL.move rfl rfl ?_
      refine WL.step ?_
      refine WL.assign rfl rfl ?_
      refine WL.nil ?_
      refine WQ.then_normal ?_
      refine WC.ret ?_
      refine WQ.then_ret ?_
      refine WQ.ret (rs := [.tmp 8]) rfl (.tmp rfl .nil) (fun w hS => ⟨⟨(_, l, f, r), ⟨hm, ⟨[], by simp⟩, hpow, hsn x y r hf, hsn⟩⟩, rfl, St.jnsClose (((St.pick (St.pick hS (c := mpg enc2 bs (fun q => (f q).map encI)) (by repeat (first | exact Rem.here | apply Rem.there))) (c := mkr F1 bm l) (by repeat (first | exact Rem.here | apply Rem.there)))).sublist (List.Sublist.cons_cons _ (List.Sublist.cons_cons _ (List.nil_sublist _))))⟩)

end Go.Proofs.Ytkgllhkhdjodeaa

/-
  What an operation on diagrams yields.
-/
namespace Go.Proofs.Ytkgllhkhdjodeaa
open Go Go.Eng Go.Proofs Dg
/-- A diagram of the function f, made anew. -/
abbrev DRes (f : Cf → Bool) : Type := { z : BT × Option Addr × Nat // z.1.ok 0 ∧ ∀ c, z.1.ev c = f c }
abbrev DRes.v {f : Cf → Bool} (z : DRes f) : Value := dval z.1.1 z.1.2.1 z.1.2.2
abbrev DRes.ch {f : Cf → Bool} (z : DRes f) : Chunk := dC z.1.2.1 z.1.2.2 z.1.1
def DPost (f : Cf → Bool) (w : World) (e : Ending) (w' : World) : Prop := ∃ z : DRes f, e = .returned z.v ∧ St w [] [z.ch] w'
theorem DRes.rd {f : Cf → Bool} (z : DRes f) {w0 w : World} {O : List Nat} {C : List Chunk} (hS : St w0 O C w) (hm : z.ch ∈ C) : RdD w z.1.1 z.1.2.1 := RdD.of_row z.2.1 (hS.ok _ hm)
theorem jenv_of {w0 w : World} {C : List Chunk} {F : List Nat} {bp bm bs ca cb ra rb : Nat} {la lb l : List Dec} {aa ab : Option Addr} {f : Nat × Nat → Option Nat} {e : TypeId}
    (hS : St w0 [] (jns F bm bs l f :: pt bp [pp bm, .slice aa la.length ca, .int .i64 (ra : Int), .slice ab lb.length cb, .int .i64 (rb : Int), .map (some bs)] e :: C) w) (hra : RdDec w0 la aa) (hrb : RdDec w0 lb ab) : JEnv w F bp bm bs la lb aa ab ca cb ra rb := by
  have hd := (List.pairwise_cons.1 hS.disj).1
  have hnew : ∀ b, b < w0.heap.size → b ∉ F := fun b hb hF => by
    have := (hS.bnd _ (List.mem_cons_self ..) b hF).2 hb
    simp at this
  refine ⟨fun j v hv => hS.cell (List.mem_cons_of_mem _ (List.mem_cons_self ..)) hv, fun hF => hd _ (List.mem_cons_self ..) bp hF rfl, fun j u hu => ?_, fun j u hu => ?_⟩
  · obtain ⟨b, off, e1, e2⟩ := hra j u hu
    exact ⟨b, off, e1, hS.oldc e2 (by simp), hnew b (World.block_lt_of_cell? w0 _ e2)⟩
  · obtain ⟨b, off, e1, e2⟩ := hrb j u hu
    exact ⟨b, off, e1, hS.oldc e2 (by simp), hnew b (World.block_lt_of_cell? w0 _ e2)⟩
end Go.Proofs.Ytkgllhkhdjodeaa

namespace Go.Proofs.Ytkgllhkhdjodeaa
open Go Go.Eng Go.Proofs Dg
theorem dwith_c (g : Nat) (bop : Bool → Bool → Bool) (opf : Nat → Nat → Nat × Bool) (hop : OpOk g bop opf) (s t : BT) (aa ab : Option Addr) (ca cb : Nat) (w : World) (hs : RdD w s aa) (ht : RdD w t ab) :
    Calls Try.prog 30 [dval s aa ca, dval t ab cb, Value.func (.func g) [].toArray [].toArray].toArray w (DPost (fun c => bop (s.ev c) (t.ev c)) w) := by
  refine enter Try.func30 rfl Try.ntmps30 rfl (St.init _) ?_
  refine WC.seq ?_
  refine WC.region ?_
  refine WL.step ?_
  refine WL.boxN rfl rfl (fun b3 => ?_)
  refine WL.step ?_
  refine WL.boxN rfl rfl (fun b4 => ?_)
  refine WL.step ?_
  refine WL.alloc F.zero27 rfl (fun b6 => ?_)
  refine WL.nil ?_
  refine WQ.then_normal ?_
  refine WC.seq ?_
  refine WC.cutPE (α := Nat × Nat × Nat × List Nat) (fun x => [(7, pp x.1), (2, Value.func (.func g) [].toArray [].toArray), (3, pp b3), (4, pp b4), (6, pp b6)]) (fun x => [pt x.1 [pp x.2.1, .slice aa (canon s).1.length ca, .int .i64 ((canon s).2 : Int), .slice ab (canon t).1.length cb, .int .i64 ((canon t).2 : Int), .map (some x.2.2.1)] 100, mkr x.2.2.2 x.2.1 [], mpg enc2 x.2.2.1 (fun _ => none), pt b3 [.slice aa (canon s).1.length ca, .int .i64 ((canon s).2 : Int)] 27, pt b4 [.slice ab (canon t).1.length cb, .int .i64 ((canon t).2 : Int)] 27, pt b6 [.slice none 0 0, .int .i64 0] 27]) (fun c a d v w h => by cases d <;> exact h) (fun Q' hP hQ => ?_) (fun xE => ?_)
  · skip
    refine WC.drawsL (by kernel_rfl) (FactsOk.cons (ds := [5]) (LoadOk.whole (t := 3) rfl (by repeat (first | exact List.Mem.head _ | apply List.Mem.tail))) (FactsOk.cons (ds := [5]) (LoadOk.whole (t := 4) rfl (by repeat (first | exact List.Mem.head _ | apply List.Mem.tail))) (FactsOk.nil))) ?_
    refine WD.take (i := 1) rfl rfl rfl rfl (by kernel_rfl) (by kernel_rfl) (by kernel_rfl) (fun _ _ _ h => hP _ _ _ _ _ h) (by kernel_rfl) (need_at 0 7 rfl (by kernel_rfl)) (Yl.loadN F.agg27 rfl rfl) ?_
    refine WD.take (i := 2) rfl rfl rfl rfl (by kernel_rfl) (by kernel_rfl) (by kernel_rfl) (fun _ _ _ h => hP _ _ _ _ _ h) (by kernel_rfl) (need_at 1 7 rfl (by kernel_rfl)) (Yl.loadN F.agg27 rfl rfl) ?_
    refine WD.two (i := 0) (j := 3) (by kernel_rfl) rfl rfl ?_ ?_
    · skip
      refine WL.call0 (β := List Nat × Nat) (res := fun x => .returned (pp x.2)) (cs := fun x => [mkr x.1 x.2 []]) (ψ := fun _ => True) F.fun54 (fun d h => by cases h; rfl) rfl (fun w hS => (newMaker_c w).mono (fun e w2 ⟨x, h1, h2⟩ => ⟨x, trivial, h1, h2⟩)) (fun x8 _ => ?_)
      refine WD.on (closed_of (by kernel_rfl)) (fun w hS => Sx.keep ((fun j v hv => by rw [Nat.zero_add]; exact hS.cell (by repeat (first | exact List.Mem.head _ | apply List.Mem.tail)) hv)) (Sx.keep ((fun j v hv => by rw [Nat.zero_add]; exact hS.cell (by repeat (first | exact List.Mem.head _ | apply List.Mem.tail)) hv)) (Sx.none))) ?_
      refine WD.one (i := 3) (by kernel_rfl) rfl ?_
      refine WL.makeMapG enc2 rfl (fun b11 => ?_)
      refine WD.on (closed_of (by kernel_rfl)) (fun w hS => Sx.keep ((fun j v hv => by rw [Nat.zero_add]; exact hS.cell (by repeat (first | exact List.Mem.head _ | apply List.Mem.tail)) hv)) (Sx.keep ((fun j v hv => by rw [Nat.zero_add]; exact hS.cell (by repeat (first | exact List.Mem.head _ | apply List.Mem.tail)) hv)) (Sx.none))) ?_
      refine WD.take (i := 4) rfl rfl rfl rfl (by kernel_rfl) (by kernel_rfl) (by kernel_rfl) (fun _ _ _ h => hP _ _ _ _ _ h) (by kernel_rfl) need_none (Yl.build F.stT100 rfl (by repeat (first | exact Built.nil | apply Built.one rfl rfl (by repeat constructor) | apply Built.agg rfl rfl (by repeat constructor)))) ?_
      refine WD.one (i := 5) (by kernel_rfl) rfl ?_
      refine WL.boxN rfl rfl (fun b13 => ?_)
      refine WD.on (closed_of (by kernel_rfl)) (fun w hS => Sx.gone rfl (Sx.gone rfl (Sx.none))) ?_
      refine WD.take (i := 6) rfl rfl rfl rfl (by kernel_rfl) (by kernel_rfl) (by kernel_rfl) (fun _ _ _ h => hP _ _ _ _ _ h) (by kernel_rfl) need_none (Yl.assign rfl) ?_
      refine WD.done (by kernel_rfl) ?_
      refine WQ.chunks (C' := [pt b13 [pp x8.2, .slice aa (canon s).1.length ca, .int .i64 ((canon s).2 : Int), .slice ab (canon t).1.length cb, .int .i64 ((canon t).2 : Int), .map (some b11)] 100, mkr x8.1 x8.2 [], mpg enc2 b11 (fun _ => none), pt b3 [.slice aa (canon s).1.length ca, .int .i64 ((canon s).2 : Int)] 27, pt b4 [.slice ab (canon t).1.length cb, .int .i64 ((canon t).2 : Int)] 27, pt b6 [.slice none 0 0, .int .i64 0] 27]) (fun w hS => ((St.pick (St.pick (St.pick (St.pick (St.pick (St.pick hS (c := pt b6 [.slice none 0 0, .int .i64 0] 27) (by repeat (first | exact Rem.here | apply Rem.there))) (c := pt b4 [.slice ab (canon t).1.length cb, .int .i64 ((canon t).2 : Int)] 27) (by repeat (first | exact Rem.here | apply Rem.there))) (c := pt b3 [.slice aa (canon s).1.length ca, .int .i64 ((canon s).2 : Int)] 27) (by repeat (first | exact Rem.here | apply Rem.there))) (c := mpg enc2 b11 (fun _ => none)) (by repeat (first | exact Rem.here | apply Rem.there))) (c := mkr x8.1 x8.2 []) (by repeat (first | exact Rem.here | apply Rem.there))) (c := pt b13 [pp x8.2, .slice aa (canon s).1.length ca, .int .i64 ((canon s).2 : Int), .slice ab (canon t).1.length cb, .int .i64 ((canon t).2 : Int), .map (some b11)] 100) (by repeat (first | exact Rem.here | apply Rem.there)))).sublist (List.Sublist.cons_cons _ (List.Sublist.cons_cons _ (List.Sublist.cons_cons _ (List.Sublist.cons_cons _ (List.Sublist.cons_cons _ (List.Sublist.cons_cons _ (List.nil_sublist _)))))))) ?_
      exact WQ.byCut (hQ (b13, x8.2, b11, x8.1)) ⟨rfl, rfl, rfl, rfl, rfl, trivial⟩
    · skip
      refine WL.makeMapG enc2 rfl (fun b11 => ?_)
      refine WD.on (closed_of (by kernel_rfl)) (fun w hS => Sx.keep ((fun j v hv => by rw [Nat.zero_add]; exact hS.cell (by repeat (first | exact List.Mem.head _ | apply List.Mem.tail)) hv)) (Sx.keep ((fun j v hv => by rw [Nat.zero_add]; exact hS.cell (by repeat (first | exact List.Mem.head _ | apply List.Mem.tail)) hv)) (Sx.none))) ?_
      refine WD.one (i := 0) (by kernel_rfl) rfl ?_
      refine WL.call0 (β := List Nat × Nat) (res := fun x => .returned (pp x.2)) (cs := fun x => [mkr x.1 x.2 []]) (ψ := fun _ => True) F.fun54 (fun d h => by cases h; rfl) rfl (fun w hS => (newMaker_c w).mono (fun e w2 ⟨x, h1, h2⟩ => ⟨x, trivial, h1, h2⟩)) (fun x8 _ => ?_)
      refine WD.on (closed_of (by kernel_rfl)) (fun w hS => Sx.keep ((fun j v hv => by rw [Nat.zero_add]; exact hS.cell (by repeat (first | exact List.Mem.head _ | apply List.Mem.tail)) hv)) (Sx.keep ((fun j v hv => by rw [Nat.zero_add]; exact hS.cell (by repeat (first | exact List.Mem.head _ | apply List.Mem.tail)) hv)) (Sx.none))) ?_
      refine WD.take (i := 4) rfl rfl rfl rfl (by kernel_rfl) (by kernel_rfl) (by kernel_rfl) (fun _ _ _ h => hP _ _ _ _ _ h) (by kernel_rfl) need_none (Yl.build F.stT100 rfl (by repeat (first | exact Built.nil | apply Built.one rfl rfl (by repeat constructor) | apply Built.agg rfl rfl (by repeat constructor)))) ?_
      refine WD.one (i := 5) (by kernel_rfl) rfl ?_
      refine WL.boxN rfl rfl (fun b13 => ?_)
      refine WD.on (closed_of (by kernel_rfl)) (fun w hS => Sx.gone rfl (Sx.gone rfl (Sx.none))) ?_
      refine WD.take (i := 6) rfl rfl rfl rfl (by kernel_rfl) (by kernel_rfl) (by kernel_rfl) (fun _ _ _ h => hP _ _ _ _ _ h) (by kernel_rfl) need_none (Yl.assign rfl) ?_
      refine WD.done (by kernel_rfl) ?_
      refine WQ.chunks (C' := [pt b13 [pp x8.2, .slice aa (canon s).1.length ca, .int .i64 ((canon s).2 : Int), .slice ab (canon t).1.length cb, .int .i64 ((canon t).2 : Int), .map (some b11)] 100, mkr x8.1 x8.2 [], mpg enc2 b11 (fun _ => none), pt b3 [.slice aa (canon s).1.length ca, .int .i64 ((canon s).2 : Int)] 27, pt b4 [.slice ab (canon t).1.length cb, .int .i64 ((canon t).2 : Int)] 27, pt b6 [.slice none 0 0, .int .i64 0] 27]) (fun w hS => ((St.pick (St.pick (St.pick (St.pick (St.pick (St.pick hS (c := pt b6 [.slice none 0 0, .int .i64 0] 27) (by repeat (first | exact Rem.here | apply Rem.there))) (c := pt b4 [.slice ab (canon t).1.length cb, .int .i64 ((canon t).2 : Int)] 27) (by repeat (first | exact Rem.here | apply Rem.there))) (c := pt b3 [.slice aa (canon s).1.length ca, .int .i64 ((canon s).2 : Int)] 27) (by repeat (first | exact Rem.here | apply Rem.there))) (c := mpg enc2 b11 (fun _ => none)) (by repeat (first | exact Rem.here | apply Rem.there))) (c := mkr x8.1 x8.2 []) (by repeat (first | exact Rem.here | apply Rem.there))) (c := pt b13 [pp x8.2, .slice aa (canon s).1.length ca, .int .i64 ((canon s).2 : Int), .slice ab (canon t).1.length cb, .int .i64 ((canon t).2 : Int), .map (some b11)] 100) (by repeat (first | exact Rem.here | apply Rem.there)))).sublist (List.Sublist.cons_cons _ (List.Sublist.cons_cons _ (List.Sublist.cons_cons _ (List.Sublist.cons_cons _ (List.Sublist.cons_cons _ (List.Sublist.cons_cons _ (List.nil_sublist _)))))))) ?_
      exact WQ.byCut (hQ (b13, x8.2, b11, x8.1)) ⟨rfl, rfl, rfl, rfl, rfl, trivial⟩
  obtain ⟨bp, bm, bs, F1⟩ := xE
  show WQ _ _ _ _ _ _ [(7, pp bp), (2, Value.func (.func g) [].toArray [].toArray), (3, pp b3), (4, pp b4), (6, pp b6)] [pt bp [pp bm, .slice aa (canon s).1.length ca, .int .i64 ((canon s).2 : Int), .slice ab (canon t).1.length cb, .int .i64 ((canon t).2 : Int), .map (some bs)] 100, mkr F1 bm [], mpg enc2 bs (fun _ => none), pt b3 [.slice aa (canon s).1.length ca, .int .i64 ((canon s).2 : Int)] 27, pt b4 [.slice ab (canon t).1.length cb, .int .i64 ((canon t).2 : Int)] 27, pt b6 [.slice none 0 0, .int .i64 0] 27]
  refine WQ.then_normal ?_
  refine WC.seq ?_
  refine WC.chunks (C' := [jns (F1 ++ ([bs] ++ [])) bm bs [] (fun _ => none), pt bp [pp bm, .slice aa (canon s).1.length ca, .int .i64 ((canon s).2 : Int), .slice ab (canon t).1.length cb, .int .i64 ((canon t).2 : Int), .map (some bs)] 100, pt b3 [.slice aa (canon s).1.length ca, .int .i64 ((canon s).2 : Int)] 27, pt b4 [.slice ab (canon t).1.length cb, .int .i64 ((canon t).2 : Int)] 27, pt b6 [.slice none 0 0, .int .i64 0] 27]) (fun w hS => St.jnsClose (f := fun _ => none) (((St.pick (St.pick (St.pick (St.pick (St.pick (St.pick hS (c := pt b6 [.slice none 0 0, .int .i64 0] 27) (by repeat (first | exact Rem.here | apply Rem.there))) (c := pt b4 [.slice ab (canon t).1.length cb, .int .i64 ((canon t).2 : Int)] 27) (by repeat (first | exact Rem.here | apply Rem.there))) (c := pt b3 [.slice aa (canon s).1.length ca, .int .i64 ((canon s).2 : Int)] 27) (by repeat (first | exact Rem.here | apply Rem.there))) (c := pt bp [pp bm, .slice aa (canon s).1.length ca, .int .i64 ((canon s).2 : Int), .slice ab (canon t).1.length cb, .int .i64 ((canon t).2 : Int), .map (some bs)] 100) (by repeat (first | exact Rem.here | apply Rem.there))) (c := mpg enc2 bs (fun _ => none)) (by repeat (first | exact Rem.here | apply Rem.there))) (c := mkr F1 bm []) (by repeat (first | exact Rem.here | apply Rem.there)))).sublist (List.Sublist.cons_cons _ (List.Sublist.cons_cons _ (List.Sublist.cons_cons _ (List.Sublist.cons_cons _ (List.Sublist.cons_cons _ (List.Sublist.cons_cons _ (List.nil_sublist _))))))))) ?_
  · skip
    refine WC.drawsL (by kernel_rfl) (FactsOk.cons (ds := [11, 12]) (LoadOk.one (t := 7) (off := 0) rfl (by repeat (first | exact List.Mem.head _ | apply List.Mem.tail)) rfl) (FactsOk.cons (ds := [10, 11, 12]) (LoadOk.one (t := 3) (off := 1) rfl (by repeat (first | exact List.Mem.head _ | apply List.Mem.tail)) rfl) (FactsOk.cons (ds := [10, 11, 12]) (LoadOk.one (t := 4) (off := 1) rfl (by repeat (first | exact List.Mem.head _ | apply List.Mem.tail)) rfl) (FactsOk.nil)))) ?_
    refine WD.take (i := 0) rfl rfl rfl rfl (by kernel_rfl) (by kernel_rfl) (by kernel_rfl) (fun _ _ _ h => h) (by kernel_rfl) need_none (Yl.move rfl) ?_
    refine WD.take (i := 1) rfl rfl rfl rfl (by kernel_rfl) (by kernel_rfl) (by kernel_rfl) (fun _ _ _ h => h) (by kernel_rfl) need_none (Yl.nilCheck rfl) ?_
    refine WD.take (i := 2) rfl rfl rfl rfl (by kernel_rfl) (by kernel_rfl) (by kernel_rfl) (fun _ _ _ h => h) (by kernel_rfl) need_none (Yl.fieldAddr0 F.fld100_0 rfl) ?_
    refine WD.take (i := 3) rfl rfl rfl rfl (by kernel_rfl) (by kernel_rfl) (by kernel_rfl) (fun _ _ _ h => h) (by kernel_rfl) (need_at 0 13 rfl (by kernel_rfl)) (Yl.load1 F.one96 rfl) ?_
    refine WD.take (i := 4) rfl rfl rfl rfl (by kernel_rfl) (by kernel_rfl) (by kernel_rfl) (fun _ _ _ h => h) (by kernel_rfl) need_none (Yl.move rfl) ?_
    refine WD.take (i := 5) rfl rfl rfl rfl (by kernel_rfl) (by kernel_rfl) (by kernel_rfl) (fun _ _ _ h => h) (by kernel_rfl) need_none (Yl.fieldAddr0 F.fld27_1 rfl) ?_
    refine WD.take (i := 6) rfl rfl rfl rfl (by kernel_rfl) (by kernel_rfl) (by kernel_rfl) (fun _ _ _ h => h) (by kernel_rfl) (need_at 1 13 rfl (by kernel_rfl)) (Yl.load1 F.one3 rfl) ?_
    refine WD.take (i := 7) rfl rfl rfl rfl (by kernel_rfl) (by kernel_rfl) (by kernel_rfl) (fun _ _ _ h => h) (by kernel_rfl) need_none (Yl.fieldAddr0 F.fld27_1 rfl) ?_
    refine WD.take (i := 8) rfl rfl rfl rfl (by kernel_rfl) (by kernel_rfl) (by kernel_rfl) (fun _ _ _ h => h) (by kernel_rfl) (need_at 2 13 rfl (by kernel_rfl)) (Yl.load1 F.one3 rfl) ?_
    refine WD.take (i := 9) rfl rfl rfl rfl (by kernel_rfl) (by kernel_rfl) (by kernel_rfl) (fun _ _ _ h => h) (by kernel_rfl) need_none (Yl.move rfl) ?_
    refine WD.one (i := 10) (by kernel_rfl) rfl ?_
    refine WL.callC (β := { z : JT // JPost bop (canon s).1 (canon t).1 [] 0 (canon s).2 (canon t).2 z }) (res := fun z => .int .i64 (z.1.2.2.2 : Int)) (cs := fun z => [jns z.1.1 bm bs z.1.2.1 z.1.2.2.1]) (Cs := [jns (F1 ++ ([bs] ++ [])) bm bs [] (fun _ => none)]) (C1 := [pt bp [pp bm, .slice aa (canon s).1.length ca, .int .i64 ((canon s).2 : Int), .slice ab (canon t).1.length cb, .int .i64 ((canon t).2 : Int), .map (some bs)] 100, pt b3 [.slice aa (canon s).1.length ca, .int .i64 ((canon s).2 : Int)] 27, pt b4 [.slice ab (canon t).1.length cb, .int .i64 ((canon t).2 : Int)] 27, pt b6 [.slice none 0 0, .int .i64 0] 27]) (O' := (F1 ++ ([bs] ++ []))) F.fun56 (fun d h => by cases h; rfl) rfl (List.Perm.refl _) bun_O1 bun_O2 (fun w hS hS2 => join_c g bop opf hop bp bm bs (canon s).1 (canon t).1 aa ab ca cb (canon s).2 (canon t).2 (canon_mk hs.1) (canon_mk ht.1) (Nat.le_of_lt (canon_len hs.1)) (Nat.le_of_lt (canon_len ht.1)) 25 0 (by omega) (by omega) (F1 ++ ([bs] ++ [])) [] (fun _ => none) (canon s).2 (canon t).2 w (canon_at s).1 (canon_at t).1 (by rw [(canon_at s).2]; exact hs.1) (by rw [(canon_at t).2]; exact ht.1) Mk.nil (fun _ _ _ h => by cases h) (by decide) (jenv_of hS hs.2 ht.2) hS2) (fun ⟨z1, hz1⟩ => ?_)
    refine WD.on (closed_of (by kernel_rfl)) (fun w hS => Sx.keep (hS.cell (by repeat (first | exact List.Mem.head _ | apply List.Mem.tail)) rfl) (Sx.gone rfl (Sx.gone rfl (Sx.none)))) ?_
    refine WD.one (i := 11) (by kernel_rfl) rfl ?_
    obtain ⟨G1, l1, f1, r1⟩ := z1
    obtain ⟨j1, j2, j3, j4, j5⟩ := hz1
    dsimp only at j1 j2 j3 j4 j5 ⊢
    rw [(canon_at s).2, (canon_at t).2] at j4
    have hl1 : l1.length ≤ 16777216 := by
      have e : 2 ^ (24 - 0) = 16777216 := by decide
      simp only [List.length_nil] at j3
      omega
    refine WA.openB (fun G3 _ _ _ => ?_)
    simp only [jnCs, List.cons_append, List.nil_append]
    refine WL.callC (β := Option Addr × Nat) (res := fun z => dval (trs l1 r1) z.1 z.2) (cs := fun z => [dC z.1 z.2 (trs l1 r1)]) (Cs := [mkr G3 bm l1]) (C1 := [mpg enc2 bs (fun q => (f1 q).map encI), pt bp [pp bm, .slice aa (canon s).1.length ca, .int .i64 ((canon s).2 : Int), .slice ab (canon t).1.length cb, .int .i64 ((canon t).2 : Int), .map (some bs)] 100, pt b3 [.slice aa (canon s).1.length ca, .int .i64 ((canon s).2 : Int)] 27, pt b4 [.slice ab (canon t).1.length cb, .int .i64 ((canon t).2 : Int)] 27, pt b6 [.slice none 0 0, .int .i64 0] 27]) (O' := G3) F.fun55 (fun d h => by cases h; rfl) rfl (List.Perm.refl _) bun_O1 bun_O2 (fun w hS hS2 => done_c G3 bm l1 r1 w j1 j4.lt (j4.ok 0 hs.1 ht.1) hl1 hS2) (fun z3 => ?_)
    refine WD.on (closed_of (by kernel_rfl)) (fun w hS => Sx.gone rfl (Sx.gone rfl (Sx.gone rfl (Sx.none)))) ?_
    refine WD.one (i := 12) (by kernel_rfl) rfl ?_
    refine WL.storeN F.agg27 rfl rfl rfl (by simp [Value.oneCell']) (by repeat (first | exact Upd.here | apply Upd.there)) (by repeat constructor) ?_
    refine WD.on (closed_of (by kernel_rfl)) (fun w hS => Sx.gone rfl (Sx.gone rfl (Sx.gone rfl (Sx.none)))) ?_
    refine WD.done (by kernel_rfl) ?_
    refine WQ.then_normal ?_
    refine WC.ret ?_
    refine WQ.ret (rs := [.cell 6 27]) rfl (.cellN F.agg27 rfl (by repeat (first | exact List.Mem.head _ | apply List.Mem.tail)) rfl .nil) (fun w hS => ⟨⟨(trs l1 r1, z3), j4.ok 0 hs.1 ht.1, j4.ev⟩, rfl, ((St.pick hS (c := dC z3.1 z3.2 (trs l1 r1)) (by repeat (first | exact Rem.here | apply Rem.there)))).sublist (List.Sublist.cons_cons _ (List.nil_sublist _))⟩)

theorem And_c (s t : BT) (aa ab : Option Addr) (ca cb : Nat) (w : World) (hs : RdD w s aa) (ht : RdD w t ab) :
    Calls Try.prog 47 [dval s aa ca, dval t ab cb].toArray w (DPost (fun c => (fun p q : Bool => p && q) (s.ev c) (t.ev c)) w) := by
  refine enter Try.func47 rfl Try.ntmps47 rfl (St.init _) ?_
  refine WC.seq ?_
  refine WC.region ?_
  refine WL.step ?_
  refine WL.boxN rfl rfl (fun b2 => ?_)
  refine WL.step ?_
  refine WL.boxN rfl rfl (fun b3 => ?_)
  refine WL.step ?_
  refine WL.alloc F.zero27 rfl (fun b4 => ?_)
  refine WL.nil ?_
  refine WQ.then_normal ?_
  refine WC.seq ?_
  refine WC.region ?_
  refine WL.step ?_
  refine WL.loadW F.agg27 rfl rfl (by repeat (first | exact List.Mem.head _ | apply List.Mem.tail)) rfl ?_
  refine WL.step ?_
  refine WL.loadW F.agg27 rfl rfl (by repeat (first | exact List.Mem.head _ | apply List.Mem.tail)) rfl ?_
  refine WL.step ?_
  refine WL.call0 (β := DRes (fun c => (fun p q : Bool => p && q) (s.ev c) (t.ev c))) (res := fun z => .returned z.v) (cs := fun z => [z.ch]) (ψ := fun _ => True) F.fun30 (fun d h => by cases h; rfl) rfl (fun w hS => (dwith_c _ _ _ both_ok s t aa ab ca cb w (hs.next0 hS) (ht.next0 hS)).mono (fun e w2 ⟨x, h1, h2⟩ => ⟨x, trivial, h1, h2⟩)) (fun z7 _ => ?_)
  refine WL.step ?_
  refine WL.storeN F.agg27 rfl rfl rfl (by simp [Value.oneCell']) (by repeat (first | exact Upd.here | apply Upd.there)) (by repeat constructor) ?_
  refine WL.nil ?_
  refine WQ.then_normal ?_
  refine WC.ret ?_
  refine WQ.ret (rs := [.cell 4 27]) rfl (.cellN F.agg27 rfl (by repeat (first | exact List.Mem.head _ | apply List.Mem.tail)) rfl .nil) (fun w hS => ⟨z7, rfl, ((St.pick hS (c := z7.ch) (by repeat (first | exact Rem.here | apply Rem.there)))).sublist (List.Sublist.cons_cons _ (List.nil_sublist _))⟩)

end Go.Proofs.Ytkgllhkhdjodeaa

/-! What goes through the nodes of one diagram. -/
namespace Dg
def notT : BT → BT
  | .lf b => .lf (!b)
  | .nd v lo hi => mkN v (notT lo) (notT hi)
theorem notT_ok : ∀ {t : BT} {m : Nat}, t.ok m → (notT t).ok m
  | .lf _, _, _ => trivial
  | .nd v lo hi, m, h => mkN_ok h.1 h.2.1 (notT_ok h.2.2.2.1) (notT_ok h.2.2.2.2)
theorem notT_ev : ∀ (t : BT) (c : Cf), (notT t).ev c = !t.ev c
  | .lf _, _ => rfl
  | .nd v lo hi, c => by
    rw [notT, mkN_ev, notT_ev lo, notT_ev hi]
    simp only [BT.ev]
    cases c v <;> rfl
/-- A tree with a feature fixed (a number that is no feature: as it was). -/
def fixT (i : Int) (on : Bool) : BT → BT
  | .lf b => .lf b
  | .nd v lo hi => if (v : Int) = i then (if on then fixT i on hi else fixT i on lo) else mkN v (fixT i on lo) (fixT i on hi)
theorem fixT_ok {i : Int} {on : Bool} : ∀ {t : BT} {m : Nat}, t.ok m → (fixT i on t).ok m
  | .lf _, _, _ => trivial
  | .nd v lo hi, m, h => by
    unfold fixT
    by_cases hv : (v : Int) = i
    · rw [if_pos hv]
      cases on
      · exact BT.ok_mono (fixT_ok h.2.2.2.1) (by have := h.1; omega)
      · exact BT.ok_mono (fixT_ok h.2.2.2.2) (by have := h.1; omega)
    · rw [if_neg hv]
      exact mkN_ok h.1 h.2.1 (fixT_ok h.2.2.2.1) (fixT_ok h.2.2.2.2)
def updI (c : Cf) (i : Int) (b : Bool) : Cf := fun j => if (j : Int) = i then b else c j
theorem fixT_ev {i : Int} {on : Bool} : ∀ (t : BT) (c : Cf), (fixT i on t).ev c = t.ev (updI c i on)
  | .lf _, _ => rfl
  | .nd v lo hi, c => by
    unfold fixT
    by_cases hv : (v : Int) = i
    · rw [if_pos hv]
      simp only [BT.ev, updI, if_pos hv]
      cases on
      · simp only [Bool.false_eq_true, if_false, cond_false]; exact fixT_ev lo c
      · simp only [if_true, cond_true]; exact fixT_ev hi c
    · rw [if_neg hv, mkN_ev, fixT_ev lo, fixT_ev hi]
      simp only [BT.ev, updI, if_neg hv]
/-- What a pass over the nodes has made of the first of them. -/
structure FI (φ : BT → BT) (la : List Dec) (out : List Int) (l : List Dec) : Prop where
  ismk : Mk l
  len : l.length + 2 ≤ out.length
  at' : ∀ k z, out[k]? = some z → ∃ p : Nat, z = (p : Int) ∧ p < l.length + 2 ∧ trs l p = φ (trs la k)
theorem FI.nil {φ : BT → BT} {la : List Dec} {b0 b1 : Bool} (h0 : φ (.lf false) = .lf b0) (h1 : φ (.lf true) = .lf b1) : FI φ la [bif b0 then 1 else 0, bif b1 then 1 else 0] [] := by
  refine ⟨Mk.nil, by simp, fun k z hz => ?_⟩
  have e : ∀ b : Bool, trs [] (bif b then 1 else 0) = .lf b := fun b => by cases b <;> rfl
  rcases k with _ | _ | k
  · simp only [List.getElem?_cons_zero, Option.some.injEq] at hz
    refine ⟨bif b0 then 1 else 0, by rw [← hz]; cases b0 <;> rfl, by cases b0 <;> simp, ?_⟩
    rw [e, (trs_zero la).1, h0]
  · simp only [List.getElem?_cons_succ, List.getElem?_cons_zero, Option.some.injEq] at hz
    refine ⟨bif b1 then 1 else 0, by rw [← hz]; cases b1 <;> rfl, by cases b1 <;> simp, ?_⟩
    rw [e, (trs_zero la).2, h1]
  · simp at hz
theorem FI.step {φ : BT → BT} {la : List Dec} (hla : Mk la) {out : List Int} {l l' : List Dec} (h : FI φ la out l) {x : Dec} (hx : la[out.length - 2]? = some x) {p : Nat} (hm : Mk l') (hpre : ∃ r, l' = l ++ r) (hlen : l'.length ≤ l.length + 1) (hp : p < l'.length + 2) (ht : trs l' p = φ (.nd x.1 (trs la x.2.1) (trs la x.2.2))) : FI φ la (out ++ [(p : Int)]) l' := by
  have h2 : 2 ≤ out.length := by have := h.len; omega
  refine ⟨hm, by rw [List.length_append, List.length_singleton]; have := h.len; omega, fun k z hz => ?_⟩
  by_cases hk : k < out.length
  · rw [List.getElem?_append_left hk] at hz
    obtain ⟨q, e1, e2, e3⟩ := h.at' k z hz
    obtain ⟨r, rfl⟩ := hpre
    exact ⟨q, e1, by rw [List.length_append]; omega, by rw [trs_append e2]; exact e3⟩
  · have hlt := (List.getElem?_eq_some_iff.1 hz).1
    rw [List.length_append, List.length_singleton] at hlt
    have e : k = out.length := by omega
    subst e
    simp at hz
    refine ⟨p, hz.symm, hp, ?_⟩
    rw [ht]
    have := hla.at hx
    rw [show out.length - 2 + 2 = out.length by omega] at this
    rw [this]
theorem emptyT {t : BT} (h : t.ok 0) : ((canon t).2 == 0) = true ↔ ∀ c, t.ev c = false := by
  rw [beq_iff_eq]
  constructor
  · intro e c
    rw [(canon_lf h false).1 e]; rfl
  · intro e
    have : t = .lf false := BT.unique (n := 0) h trivial e
    rw [this]; rfl
/-- The configuration of a number. -/
def cfg (n : Nat) : Cf := fun i => n.testBit i
/-- Features on which a tree depends. -/
def supT (l : List Dec) : Nat := l.foldl (fun s x => s ||| 2 ^ x.1) 0
end Dg
namespace Dg
/-- A cube, of the features from m on. -/
def cubeB (on off m : Nat) (c : Cf) : Bool := (List.range 24).all fun j => decide (j < m) || ((!on.testBit j || c j) && (!off.testBit j || !c j))
theorem cubeB_end (on off : Nat) (c : Cf) : cubeB on off 24 c = true := by
  unfold cubeB
  rw [List.all_eq_true]
  intro j hj
  simp [List.mem_range.1 hj]
theorem cubeB_step {on off m : Nat} (hm : m < 24) (c : Cf) : cubeB on off m c = (((!on.testBit m || c m) && (!off.testBit m || !c m)) && cubeB on off (m + 1) c) := by
  unfold cubeB
  rw [Bool.eq_iff_iff]
  simp only [List.all_eq_true, Bool.and_eq_true, List.mem_range]
  constructor
  · intro h
    refine ⟨by have := h m hm; simpa using this, fun j hj => ?_⟩
    have := h j hj
    by_cases hjm : j < m
    · simp [show j < m + 1 by omega]
    · simpa [hjm, show (j < m + 1) = (j = m) from by simp; omega] using Or.inr (by simpa [hjm] using this)
  · rintro ⟨h1, h2⟩ j hj
    by_cases hjm : j = m
    · subst hjm; simpa using h1
    · have := h2 j hj
      by_cases hlt : j < m
      · simp [hlt]
      · have h3 : ¬ j < m + 1 := by omega
        simpa [hlt, h3] using this
theorem cubeB_mask {on off : Nat} (c : Cf) : cubeB (on &&& 16777215) (off &&& 16777215) 0 c = cubeB on off 0 c := by
  unfold cubeB
  have key : ∀ n j : Nat, j < 24 → (n &&& 16777215).testBit j = n.testBit j := fun n j hj => by
    rw [Nat.testBit_and, show (16777215 : Nat) = 2 ^ 24 - 1 by decide, Nat.testBit_two_pow_sub_one]
    simp [hj]
  rw [Bool.eq_iff_iff]
  simp only [List.all_eq_true, List.mem_range]
  constructor
  · intro h j hj
    have := h j hj
    rwa [key on j hj, key off j hj] at this
  · intro h j hj
    have := h j hj
    rwa [key on j hj, key off j hj]
theorem cubeB_clash {on off : Nat} (h : (on &&& 16777215) &&& (off &&& 16777215) ≠ 0) (c : Cf) : cubeB on off 0 c = false := by
  obtain ⟨j, hj⟩ : ∃ j, ((on &&& 16777215) &&& (off &&& 16777215)).testBit j = true := Nat.exists_testBit_of_ne_zero h
  rw [Nat.testBit_and, Nat.testBit_and, Nat.testBit_and, show (16777215 : Nat) = 2 ^ 24 - 1 by decide, Nat.testBit_two_pow_sub_one] at hj
  simp only [Bool.and_eq_true, decide_eq_true_eq] at hj
  obtain ⟨⟨h1, h2⟩, h3, _⟩ := hj
  unfold cubeB
  rw [List.all_eq_false]
  refine ⟨j, List.mem_range.2 h2, ?_⟩
  rw [h1, h3]
  cases c j <;> simp
end Dg

namespace Go.Proofs.Ytkgllhkhdjodeaa
open Go Go.Eng Go.Proofs Dg
abbrev fcf (f : Cf → Bool) : Cf → Bool := f
theorem True_c (w : World) : Calls Try.prog 46 [].toArray w (DPost (fun _ => true) w) := by
  refine enter Try.func46 rfl Try.ntmps46 rfl (St.init _) ?_
  refine WC.seq ?_
  refine WC.region ?_
  refine WL.step ?_
  refine WL.alloc F.zero27 rfl (fun b0 => ?_)
  refine WL.nil ?_
  refine WQ.then_normal ?_
  refine WC.seq ?_
  refine WC.region ?_
  refine WL.step ?_
  refine WL.build F.stT27 rfl (by repeat (first | exact Built.nil | apply Built.one rfl rfl (by repeat constructor) | apply Built.agg rfl rfl (by repeat constructor))) rfl ?_
  refine WL.step ?_
  refine WL.storeN F.agg27 rfl rfl rfl (by simp [Value.oneCell']) (by repeat (first | exact Upd.here | apply Upd.there)) (by repeat constructor) ?_
  refine WL.nil ?_
  refine WQ.then_normal ?_
  refine WC.ret ?_
  refine WQ.ret (rs := [.cell 0 27]) rfl (.cellN F.agg27 rfl (by repeat (first | exact List.Mem.head _ | apply List.Mem.tail)) rfl .nil) (fun w hS => ⟨⟨(.lf true, none, 0), trivial, fun _ => rfl⟩, rfl, ?_⟩)
  exact (hS.drop).rowNil _ _

theorem Empty_c (t : BT) (a : Option Addr) (c : Nat) (w : World) : Pure Try.prog 18 [dval t a c] w (.bool ((canon t).2 == 0)) := by
  refine enter Try.func18 rfl Try.ntmps18 rfl (St.init _) ?_
  refine WC.seq ?_
  refine WC.region ?_
  refine WL.step ?_
  refine WL.boxN rfl rfl (fun b1 => ?_)
  refine WL.step ?_
  refine WL.assign rfl rfl ?_
  refine WL.nil ?_
  refine WQ.then_normal ?_
  refine WC.seq ?_
  refine WC.region ?_
  refine WL.step ?_
  refine WL.fieldAddr0 F.fld27_1 rfl rfl ?_
  refine WL.step ?_
  refine WL.loadP F.one3 rfl rfl (by repeat (first | exact List.Mem.head _ | apply List.Mem.tail)) rfl ?_
  refine WL.step ?_
  refine WL.eqI rfl rfl rfl ?_
  refine WL.step ?_
  refine WL.assign rfl rfl ?_
  refine WL.nil ?_
  refine WQ.then_normal ?_
  refine WC.ret ?_
  refine WQ.ret (rs := [.tmp 2]) rfl (.tmp rfl .nil) (fun w hS => ⟨?_, hS.drop⟩)
  show Ending.returned (.bool (((canon t).2 : Int) == 0)) = _
  have e : (((canon t).2 : Int) == 0) = ((canon t).2 == 0) := by (rw [Bool.eq_iff_iff]; simp)
  rw [e]

theorem Has_c (t : BT) (a : Option Addr) (c n : Nat) (hn : n < 4294967296) (w : World) (ht : RdD w t a) : Pure Try.prog 19 [dval t a c, .int .u32 (n : Int)] w (.bool (t.ev (cfg n))) := by
  have hmk := canon_mk ht.1
  have hcl := canon_len ht.1
  refine enter Try.func19 rfl Try.ntmps19 rfl (St.init _) ?_
  refine WC.seq ?_
  refine WC.region ?_
  refine WL.step ?_
  refine WL.boxN rfl rfl (fun b2 => ?_)
  refine WL.step ?_
  refine WL.assign rfl rfl ?_
  refine WL.nil ?_
  refine WQ.then_normal ?_
  refine WC.seq ?_
  refine WC.region ?_
  refine WL.step ?_
  refine WL.fieldAddr0 F.fld27_1 rfl rfl ?_
  refine WL.step ?_
  refine WL.loadP F.one3 rfl rfl (by repeat (first | exact List.Mem.head _ | apply List.Mem.tail)) rfl ?_
  refine WL.step ?_
  refine WL.assign rfl rfl ?_
  refine WL.nil ?_
  refine WQ.then_normal ?_
  refine WC.seq ?_
  refine WC.block ?_
  refine WC.loop (α := Nat) (fun r => r < (canon t).1.length + 2 ∧ (trs (canon t).1 r).ev (cfg n) = t.ev (cfg n)) (fun r => [(1, .int .u32 (n : Int)), (2, pp b2), (5, .int .i64 (r : Int))]) (fun _ => [pt b2 [.slice a (canon t).1.length c, .int .i64 ((canon t).2 : Int)] 27]) (fun r => r) ((canon t).2) ?_ ?_ ?_ ?_
  · exact ⟨(canon_at t).1, by rw [(canon_at t).2]⟩
  · exact ⟨rfl, rfl, rfl, trivial⟩
  · rfl
  rintro r ⟨hr, hev⟩
  show WC _ _ _ _ _ _ _ [(1, .int .u32 (n : Int)), (2, pp b2), (5, .int .i64 (r : Int))] [pt b2 [.slice a (canon t).1.length c, .int .i64 ((canon t).2 : Int)] 27]
  refine WC.seq ?_
  refine WC.seq ?_
  refine WC.region ?_
  refine WL.step ?_
  refine WL.move rfl rfl ?_
  refine WL.step ?_
  refine WL.gtI rfl rfl rfl ?_
  refine WL.nil ?_
  refine WQ.then_normal ?_
  refine WC.cond rfl (fun h10 => ?_) (fun h10 => ?_)
  · skip
    have h2 : 2 ≤ r := by simp at h10; omega
    obtain ⟨k, rfl⟩ : ∃ k, r = k + 2 := ⟨r - 2, by omega⟩
    have hk : k < (canon t).1.length := by omega
    obtain ⟨x, hx⟩ : ∃ x, (canon t).1[k]? = some x := ⟨_, List.getElem?_eq_getElem hk⟩
    have hkb := hmk.kid k x hx
    have htr := hmk.at hx
    obtain ⟨bl, off, rfl, hcx⟩ := ht.2.at hx
    have hri : ((k : Nat) : Int) = ((k + 2 : Nat) : Int) - 2 := by omega
    refine WC.skip ?_
    refine WQ.then_normal ?_
    refine WC.block ?_
    refine WC.seq ?_
    refine WC.region ?_
    refine WL.step ?_
    refine WL.fieldAddr0 F.fld27_0 rfl rfl ?_
    refine WL.step ?_
    refine WL.loadP F.one25 rfl rfl (by repeat (first | exact List.Mem.head _ | apply List.Mem.tail)) rfl ?_
    refine WL.step ?_
    refine WL.move rfl rfl ?_
    refine WL.step ?_
    refine WL.sub rfl rfl rfl ⟨by omega, by omega⟩ ?_
    refine WA.say 14 (.int .i64 (k : Int)) (by rw [hri]; rfl) ?_
    refine WL.step ?_
    refine WL.indexAddr F.sl25 rfl rfl rfl hk ?_
    refine WL.step ?_
    refine WL.loadN F.agg63 rfl rfl (vs := [Value.int .i64 (x.1 : Int), .int .i64 (x.2.1 : Int), .int .i64 (x.2.2 : Int)]) rfl (fun w hS j v hv => hS.oldc (hcx j v hv) (by simp)) ?_
    refine WL.step ?_
    refine WL.alloc F.zero63 rfl (fun b6 => ?_)
    refine WL.step ?_
    refine WL.storeN F.agg63 rfl rfl rfl (by simp [Value.oneCell']) (by repeat (first | exact Upd.here | apply Upd.there)) (by repeat constructor) ?_
    refine WL.nil ?_
    refine WQ.then_normal ?_
    refine WC.seq ?_
    refine WC.region ?_
    refine WL.step ?_
    refine WL.fieldAddr0 F.fld63_1 rfl rfl ?_
    refine WL.step ?_
    refine WL.loadP F.one3 rfl rfl (by repeat (first | exact List.Mem.head _ | apply List.Mem.tail)) rfl ?_
    refine WL.step ?_
    refine WL.assign rfl rfl ?_
    refine WL.nil ?_
    refine WQ.then_normal ?_
    refine WC.seq ?_
    refine WC.region ?_
    refine WL.step ?_
    refine WL.move rfl rfl ?_
    refine WL.step ?_
    refine WL.fieldAddr0 F.fld63_0 rfl rfl ?_
    refine WL.step ?_
    refine WL.loadP F.one3 rfl rfl (by repeat (first | exact List.Mem.head _ | apply List.Mem.tail)) rfl ?_
    refine WL.step ?_
    refine WL.bin rfl rfl rfl (fun w => run_shr (by omega) _ _ _ w) ?_
    refine WL.step ?_
    refine WL.bin rfl rfl rfl (fun w => run_and (b := 1) (Nat.lt_of_le_of_lt (by rw [Nat.shiftRight_eq_div_pow]; exact Nat.div_le_self _ _) hn) (by decide) _ _ _ w) ?_
    refine WL.step ?_
    refine WL.eqI rfl rfl rfl ?_
    refine WL.nil ?_
    refine WQ.then_normal ?_
    refine WC.cond rfl (fun h24 => ?_) (fun h24 => ?_)
    · skip
      have hbit : cfg n x.1 = true := by (rw [Fm.testBit_shift] at h24; exact h24)
      refine WC.region ?_
      refine WL.step ?_
      refine WL.fieldAddr0 F.fld63_2 rfl rfl ?_
      refine WL.step ?_
      refine WL.loadP F.one3 rfl rfl (by repeat (first | exact List.Mem.head _ | apply List.Mem.tail)) rfl ?_
      refine WL.step ?_
      refine WL.assign rfl rfl ?_
      refine WL.nil ?_
      refine WQ.block_normal ?_
      refine WQ.chunks (C' := [pt b2 [.slice (some ⟨bl, off, none⟩) (canon t).1.length c, .int .i64 ((canon t).2 : Int)] 27]) (fun w hS => ((St.pick hS (c := pt b2 [.slice (some ⟨bl, off, none⟩) (canon t).1.length c, .int .i64 ((canon t).2 : Int)] 27) (by repeat (first | exact Rem.here | apply Rem.there)))).sublist (List.Sublist.cons_cons _ (List.nil_sublist _))) ?_
      refine WQ.back (x.2.2) ?_ ?_ ?_ ?_
      · exact ⟨by omega, by rw [← hev, htr]; simp only [BT.ev, hbit, cond_true]⟩
      · (show x.2.2 < k + 2; omega)
      · exact ⟨rfl, rfl, rfl, trivial⟩
      · rfl
    · skip
      have hbit : cfg n x.1 = false := by (rw [Fm.testBit_shift] at h24; exact h24)
      refine WC.skip ?_
      refine WQ.block_normal ?_
      refine WQ.chunks (C' := [pt b2 [.slice (some ⟨bl, off, none⟩) (canon t).1.length c, .int .i64 ((canon t).2 : Int)] 27]) (fun w hS => ((St.pick hS (c := pt b2 [.slice (some ⟨bl, off, none⟩) (canon t).1.length c, .int .i64 ((canon t).2 : Int)] 27) (by repeat (first | exact Rem.here | apply Rem.there)))).sublist (List.Sublist.cons_cons _ (List.nil_sublist _))) ?_
      refine WQ.back (x.2.1) ?_ ?_ ?_ ?_
      · exact ⟨by omega, by rw [← hev, htr]; simp only [BT.ev, hbit, cond_false]⟩
      · (show x.2.1 < k + 2; omega)
      · exact ⟨rfl, rfl, rfl, trivial⟩
      · rfl
  · skip
    have h2 : r < 2 := by simp at h10; omega
    have hfin : (r == 1) = t.ev (cfg n) := by
      rw [← hev]
      rcases r with _ | _ | r
      · rw [(trs_zero _).1]; rfl
      · rw [(trs_zero _).2]; rfl
      · omega
    refine WC.exit ?_
    refine WQ.then_exit ?_
    refine WQ.then_exit ?_
    refine WQ.block_exit ?_
    refine WQ.then_normal ?_
    refine WC.seq ?_
    refine WC.region ?_
    refine WL.step ?_
    refine WL.move rfl rfl ?_
    refine WL.step ?_
    refine WL.eqI rfl rfl rfl ?_
    refine WL.step ?_
    refine WL.assign rfl rfl ?_
    refine WL.nil ?_
    refine WQ.then_normal ?_
    refine WC.ret ?_
    refine WQ.ret (rs := [.tmp 4]) rfl (.tmp rfl .nil) (fun w hS => ⟨?_, hS.drop⟩)
    show Ending.returned (.bool ((r : Int) == 1)) = _
    rw [← hfin]
    have e : ((r : Int) == 1) = (r == 1) := by (rw [Bool.eq_iff_iff]; simp; omega)
    rw [e]

end Go.Proofs.Ytkgllhkhdjodeaa

/-
  Passes over the nodes of a diagram that make another one.
-/
namespace Go.Proofs.Ytkgllhkhdjodeaa
open Go Go.Eng Go.Proofs Dg
theorem rdO_new {w0 w : World} {C : List Chunk} {ch : Chunk} {F : List Nat} {l : List Dec} {a : Option Addr} (hS : St w0 [] C w) (hm : ch ∈ C) (hc : FpIs ch F) (h : RdDec w0 l a) : RdDecO w l a F := fun j u hu => by
  obtain ⟨b, off, e1, e2⟩ := h j u hu
  refine ⟨b, off, e1, hS.oldc e2 (by simp), fun hF => ?_⟩
  have := (hS.bnd _ hm b ((hc b).2 hF)).2 (World.block_lt_of_cell? w0 _ e2)
  simp at this
theorem fi_len {φ : BT → BT} {la l : List Dec} {out : List Int} {x : Dec} (h : FI φ la out l) (hla : la.length < 16777216) (hx : la[out.length - 2]? = some x) : l.length ≤ 16777214 := by
  have h1 := (List.getElem?_eq_some_iff.1 hx).1
  have := h.len
  omega
theorem not_join (bm : Nat) (la : List Dec) (hla : Mk la) (hll : la.length < 16777216) (out : List Int) (s : List Nat × List Dec) (x : Dec) (z1 z2 : Int) (w : World) (hx : la[out.length - 2]? = some x) (hI : FI notT la out s.2) (h1 : out[x.2.1]? = some z1) (h2 : out[x.2.2]? = some z2) (hS : St w s.1 [mkr s.1 bm s.2] w) :
    Calls Try.prog 82 ([pp bm] ++ [Value.int .i64 (x.1 : Int), .int .i64 z1, .int .i64 z2] ++ []).toArray w fun e w' => ∃ y : { y : (List Nat × List Dec) × Int // FI notT la (out ++ [y.2]) y.1.2 }, e = .returned (.int .i64 y.1.2) ∧ St w s.1 [mkr y.1.1.1 bm y.1.1.2] w' := by
  obtain ⟨p1, rfl, e1, f1⟩ := hI.at' _ _ h1
  obtain ⟨p2, rfl, e2, f2⟩ := hI.at' _ _ h2
  refine (mnode_c s.1 bm s.2 x.1 p1 p2 w (hla.kid _ _ hx).1 hI.ismk e1 e2 (fi_len hI hll hx) hS).mono ?_
  rintro e w' ⟨⟨⟨F', l', r⟩, hm, hl⟩, he, hS'⟩
  refine ⟨⟨((F', l'), (r : Int)), hI.step hla hx hm.ismk hm.pre hl hm.lt ?_⟩, he, hS'⟩
  rw [hm.tree, f1, f2]; rfl
/-- The memory of With's pass. -/
abbrev wcCs (bi bmv bon bm : Nat) (i : Int) (on : Bool) (l : List Dec) (F1 : List Nat) : List Chunk := [pt bi [.int .i64 i] 3, pt bmv [pp bm] 96, pt bon [.bool on] 4, mkr F1 bm l]
def wch (F : List Nat) (bi bmv bon bm : Nat) (i : Int) (on : Bool) (l : List Dec) : Chunk := bun F (wcCs bi bmv bon bm i on l) (fun _ => True)
theorem wch_mv {F : List Nat} {bi bmv bon bm : Nat} {i : Int} {on : Bool} {l : List Dec} {w : World} (h : (wch F bi bmv bon bm i on l).ok w) : w.cell? ⟨bmv, 0, none⟩ = some (pp bm) := by
  obtain ⟨x, _, h2, _⟩ := h
  have := h2 (pt bmv [pp bm] 96) (by simp [wcCs])
  simp [World.cell?, show w.heap[bmv]? = some (.cells [pp bm].toArray 96 (0, 0)) from this]
theorem St.wchClose {w0 w : World} {O : List Nat} {C : List Chunk} {F1 : List Nat} {bi bmv bon bm : Nat} {i : Int} {on : Bool} {l : List Dec} (h : St w0 O (pt bi [.int .i64 i] 3 :: pt bmv [pp bm] 96 :: pt bon [.bool on] 4 :: mkr F1 bm l :: C) w) :
    St w0 O (wch ([bi] ++ ([bmv] ++ ([bon] ++ (F1 ++ [])))) bi bmv bon bm i on l :: C) w :=
  St.bunClose' (Cs := wcCs bi bmv bon bm i on l) F1 trivial (.cons FpIs.pt (.cons FpIs.pt (.cons FpIs.pt (.cons FpIs.bun .nil)))) h
end Go.Proofs.Ytkgllhkhdjodeaa

namespace Go.Proofs.Ytkgllhkhdjodeaa
open Go Go.Eng Go.Proofs Dg
theorem Not_c (t : BT) (a : Option Addr) (c : Nat) (w : World) (ht : RdD w t a) : Calls Try.prog 72 [dval t a c].toArray w (DPost (fun c => !t.ev c) w) := by
  have hmk := canon_mk ht.1
  have hcl := canon_len ht.1
  refine enter Try.func72 rfl Try.ntmps72 rfl (St.init _) ?_
  refine WC.seq ?_
  refine WC.region ?_
  refine WL.step ?_
  refine WL.boxN rfl rfl (fun b1 => ?_)
  refine WL.step ?_
  refine WL.alloc F.zero27 rfl (fun b2 => ?_)
  refine WL.nil ?_
  refine WQ.then_normal ?_
  refine WC.seq ?_
  refine WC.region ?_
  refine WL.step ?_
  refine WL.call0 (β := List Nat × Nat) (res := fun x => .returned (pp x.2)) (cs := fun x => [mkr x.1 x.2 []]) (ψ := fun _ => True) F.fun54 (fun d h => by cases h; rfl) rfl (fun w hS => (newMaker_c w).mono (fun e w2 ⟨x, h1, h2⟩ => ⟨x, trivial, h1, h2⟩)) (fun ⟨F1, bm⟩ _ => ?_)
  refine WL.step ?_
  refine WL.assign rfl rfl ?_
  refine WL.nil ?_
  refine WQ.then_normal ?_
  refine WC.seq ?_
  refine WC.region ?_
  refine WL.step ?_
  refine WL.move rfl rfl ?_
  refine WL.step ?_
  refine WL.loadW F.agg27 rfl rfl (by repeat (first | exact List.Mem.head _ | apply List.Mem.tail)) rfl ?_
  refine WL.step ?_
  refine WL.move rfl rfl ?_
  refine WL.step ?_
  refine WL.makeFunc (us := [pp bm]) (vs := []) rfl rfl rfl ?_
  refine WL.step ?_
  refine WL.callC (β := { y : List Int × (List Nat × List Dec) × Int // FI notT (canon t).1 y.1 y.2.1.2 ∧ y.1.length = (canon t).1.length + 2 ∧ y.1[(canon t).2]? = some y.2.2 }) (res := fun y => .int .i64 y.1.2.2) (cs := fun y => [mkr y.1.2.1.1 bm y.1.2.1.2]) (Cs := [mkr F1 bm []]) (C1 := [pt b2 [.slice none 0 0, .int .i64 0] 27, pt b1 [.slice a (canon t).1.length c, .int .i64 ((canon t).2 : Int)] 27]) (O' := F1) F.fun32 (fun d h => by cases h; rfl) rfl (List.Perm.refl _) bun_O1 bun_O2 (fun w hS hS2 => Fold_c (σ := List Nat × List Dec) (fun s => mkr s.1 bm s.2) (fun s => s.1) (fun s => FpIs.bun) 82 F.fun82 [pp bm] [] (canon t).1 a c (canon t).2 1 0 (fun out s => FI notT (canon t).1 out s.2) (Nat.le_of_lt hcl) (fun k x hx => ⟨(hmk.kid k x hx).2.1, (hmk.kid k x hx).2.2.1⟩) (canon_at t).1 (F1, []) (FI.nil (b0 := true) (b1 := false) rfl rfl) (not_join bm (canon t).1 hmk hcl) w (rdO_new hS (by repeat (first | exact List.Mem.head _ | apply List.Mem.tail)) FpIs.bun ht.2) hS2) (fun ⟨⟨out, ⟨G1, l1⟩, z⟩, hI, hol, hz⟩ => ?_)
  obtain ⟨r1, rfl, hr1, htr⟩ := hI.at' _ _ hz
  rw [(canon_at t).2] at htr
  have hI9 := hI.len
  dsimp only at hI9 hol hI
  have hl1 : l1.length ≤ 16777216 := by omega
  refine WL.step ?_
  refine WL.callC (β := Option Addr × Nat) (res := fun z => dval (trs l1 r1) z.1 z.2) (cs := fun z => [dC z.1 z.2 (trs l1 r1)]) (Cs := [mkr G1 bm l1]) (C1 := [pt b2 [.slice none 0 0, .int .i64 0] 27, pt b1 [.slice a (canon t).1.length c, .int .i64 ((canon t).2 : Int)] 27]) (O' := G1) F.fun55 (fun d h => by cases h; rfl) rfl (List.Perm.refl _) bun_O1 bun_O2 (fun w hS hS2 => done_c G1 bm l1 r1 w hI.ismk hr1 (by rw [htr]; exact notT_ok ht.1) hl1 hS2) (fun z3 => ?_)
  refine WL.step ?_
  refine WL.storeN F.agg27 rfl rfl rfl (by simp [Value.oneCell']) (by repeat (first | exact Upd.here | apply Upd.there)) (by repeat constructor) ?_
  refine WL.nil ?_
  refine WQ.then_normal ?_
  refine WC.ret ?_
  refine WQ.ret (rs := [.cell 2 27]) rfl (.cellN F.agg27 rfl (by repeat (first | exact List.Mem.head _ | apply List.Mem.tail)) rfl .nil) (fun w hS => ⟨⟨(trs l1 r1, z3), by rw [htr]; exact notT_ok ht.1, fun c => by rw [htr]; exact notT_ev t c⟩, rfl, ((St.pick hS (c := dC z3.1 z3.2 (trs l1 r1)) (by repeat (first | exact Rem.here | apply Rem.there)))).sublist (List.Sublist.cons_cons _ (List.nil_sublist _))⟩)

theorem fix_join (bi bmv bon bm : Nat) (i : Int) (on : Bool) (la : List Dec) (hla : Mk la) (hll : la.length < 16777216) (out : List Int) (s : List Nat × List Dec) (x : Dec) (z1 z2 : Int) (w : World) (hx : la[out.length - 2]? = some x) (hI : FI (fixT i on) la out s.2) (h1 : out[x.2.1]? = some z1) (h2 : out[x.2.2]? = some z2) (hS0 : St w s.1 [wch s.1 bi bmv bon bm i on s.2] w) :
    Calls Try.prog 94 ([] ++ [Value.int .i64 (x.1 : Int), .int .i64 z1, .int .i64 z2] ++ [pp bi, pp bmv, pp bon]).toArray w fun e w' => ∃ y : { y : (List Nat × List Dec) × Int // FI (fixT i on) la (out ++ [y.2]) y.1.2 }, e = .returned (.int .i64 y.1.2) ∧ St w s.1 [wch y.1.1.1 bi bmv bon bm i on y.1.1.2] w' := by
  obtain ⟨p1, rfl, e1, f1⟩ := hI.at' _ _ h1
  obtain ⟨p2, rfl, e2, f2⟩ := hI.at' _ _ h2
  obtain ⟨F1, _, g1, g2, hS0⟩ := hS0.bunOpen
  simp only [wcCs, List.cons_append, List.nil_append] at hS0
  refine enter Try.func94 rfl Try.ntmps94 rfl (C := [pt bi [.int .i64 i] 3, pt bmv [pp bm] 96, pt bon [.bool on] 4, mkr F1 bm s.2]) hS0 ?_
  refine WC.seq ?_
  refine WC.region ?_
  refine WL.step ?_
  refine WL.assign rfl rfl ?_
  refine WL.nil ?_
  refine WQ.then_normal ?_
  refine WC.seq ?_
  refine WC.block ?_
  refine WC.seq ?_
  refine WC.region ?_
  refine WL.step ?_
  refine WL.move rfl rfl ?_
  refine WL.step ?_
  refine WL.loadP F.one3 rfl rfl (by repeat (first | exact List.Mem.head _ | apply List.Mem.tail)) rfl ?_
  refine WL.step ?_
  refine WL.neI rfl rfl rfl ?_
  refine WL.step ?_
  refine WL.assign rfl rfl ?_
  refine WL.nil ?_
  refine WQ.then_normal ?_
  refine WC.cond rfl (fun h10 => ?_) (fun h10 => ?_)
  · skip
    have hne : ¬ (x.1 : Int) = i := by simpa using h10
    refine WC.seq ?_
    refine WC.region ?_
    refine WA.chunks (C' := [mkr F1 bm s.2, pt bi [.int .i64 i] 3, pt bmv [pp bm] 96, pt bon [.bool on] 4]) (fun w hS => ((St.pick (St.pick (St.pick (St.pick hS (c := pt bon [.bool on] 4) (by repeat (first | exact Rem.here | apply Rem.there))) (c := pt bmv [pp bm] 96) (by repeat (first | exact Rem.here | apply Rem.there))) (c := pt bi [.int .i64 i] 3) (by repeat (first | exact Rem.here | apply Rem.there))) (c := mkr F1 bm s.2) (by repeat (first | exact Rem.here | apply Rem.there)))).sublist (List.Sublist.cons_cons _ (List.Sublist.cons_cons _ (List.Sublist.cons_cons _ (List.Sublist.cons_cons _ (List.nil_sublist _)))))) ?_
    refine WL.step ?_
    refine WL.loadP F.one96 rfl rfl (by repeat (first | exact List.Mem.head _ | apply List.Mem.tail)) rfl ?_
    refine WL.step ?_
    refine WL.move rfl rfl ?_
    refine WL.step ?_
    refine WL.move rfl rfl ?_
    refine WL.step ?_
    refine WL.move rfl rfl ?_
    refine WL.step ?_
    refine WL.callC (β := { z : List Nat × List Dec × Nat // MadeN s.2 z.2.1 z.2.2 (mkN x.1 (trs s.2 p1) (trs s.2 p2)) ∧ z.2.1.length ≤ s.2.length + 1 }) (res := fun z => .int .i64 (z.1.2.2 : Int)) (cs := fun z => [mkr z.1.1 bm z.1.2.1]) (Cs := [mkr F1 bm s.2]) (C1 := [pt bi [.int .i64 i] 3, pt bmv [pp bm] 96, pt bon [.bool on] 4]) (O' := F1) F.fun82 (fun d h => by cases h; rfl) rfl (List.Perm.refl _) bun_O1 bun_O2 (fun w hS hS2 => mnode_c F1 bm s.2 x.1 p1 p2 w (hla.kid _ _ hx).1 hI.ismk e1 e2 (fi_len hI hll hx) hS2) (fun ⟨⟨F2, l2, r2⟩, hm2, hl2⟩ => ?_)
    refine WL.step ?_
    refine WL.assign rfl rfl ?_
    refine WL.nil ?_
    refine WQ.then_normal ?_
    refine WC.ret ?_
    refine WQ.block_ret ?_
    refine WQ.then_ret ?_
    refine WQ.ret (rs := [.tmp 9]) rfl (.tmp rfl .nil) (fun w hS => ⟨⟨(([bi] ++ ([bmv] ++ ([bon] ++ (F2 ++ []))), l2), (r2 : Int)), hI.step hla hx hm2.ismk hm2.pre hl2 hm2.lt (by rw [hm2.tree, f1, f2, fixT, if_neg hne])⟩, rfl, St.wchClose (F1 := F2) (((St.pick (St.pick (St.pick (St.pick hS (c := mkr F2 bm l2) (by repeat (first | exact Rem.here | apply Rem.there))) (c := pt bon [.bool on] 4) (by repeat (first | exact Rem.here | apply Rem.there))) (c := pt bmv [pp bm] 96) (by repeat (first | exact Rem.here | apply Rem.there))) (c := pt bi [.int .i64 i] 3) (by repeat (first | exact Rem.here | apply Rem.there)))).sublist (List.Sublist.cons_cons _ (List.Sublist.cons_cons _ (List.Sublist.cons_cons _ (List.Sublist.cons_cons _ (List.nil_sublist _))))))⟩)
  · skip
    have heq : (x.1 : Int) = i := by simpa using h10
    refine WC.seq ?_
    refine WC.region ?_
    refine WL.step ?_
    refine WL.loadP F.one4 rfl rfl (by repeat (first | exact List.Mem.head _ | apply List.Mem.tail)) rfl ?_
    refine WL.step ?_
    refine WL.assign rfl rfl ?_
    refine WL.nil ?_
    refine WQ.then_normal ?_
    refine WC.cond rfl (fun h19 => ?_) (fun h19 => ?_)
    · skip
      refine WC.seq ?_
      refine WC.region ?_
      refine WL.step ?_
      refine WL.move rfl rfl ?_
      refine WL.step ?_
      refine WL.assign rfl rfl ?_
      refine WL.nil ?_
      refine WQ.then_normal ?_
      refine WC.ret ?_
      refine WQ.block_ret ?_
      refine WQ.then_ret ?_
      refine WQ.ret (rs := [.tmp 9]) rfl (.tmp rfl .nil) (fun w hS => ⟨⟨(([bi] ++ ([bmv] ++ ([bon] ++ (F1 ++ []))), s.2), (p2 : Int)), hI.step hla hx hI.ismk ⟨[], by simp⟩ (Nat.le_succ _) e2 (by rw [f2, fixT, if_pos heq, h19]; rfl)⟩, rfl, St.wchClose (F1 := F1) (((St.pick (St.pick (St.pick (St.pick hS (c := mkr F1 bm s.2) (by repeat (first | exact Rem.here | apply Rem.there))) (c := pt bon [.bool on] 4) (by repeat (first | exact Rem.here | apply Rem.there))) (c := pt bmv [pp bm] 96) (by repeat (first | exact Rem.here | apply Rem.there))) (c := pt bi [.int .i64 i] 3) (by repeat (first | exact Rem.here | apply Rem.there)))).sublist (List.Sublist.cons_cons _ (List.Sublist.cons_cons _ (List.Sublist.cons_cons _ (List.Sublist.cons_cons _ (List.nil_sublist _))))))⟩)
    · skip
      refine WC.skip ?_
      refine WQ.block_normal ?_
      refine WQ.then_normal ?_
      refine WC.seq ?_
      refine WC.region ?_
      refine WL.step ?_
      refine WL.move rfl rfl ?_
      refine WL.step ?_
      refine WL.assign rfl rfl ?_
      refine WL.nil ?_
      refine WQ.then_normal ?_
      refine WC.ret ?_
      refine WQ.ret (rs := [.tmp 9]) rfl (.tmp rfl .nil) (fun w hS => ⟨⟨(([bi] ++ ([bmv] ++ ([bon] ++ (F1 ++ []))), s.2), (p1 : Int)), hI.step hla hx hI.ismk ⟨[], by simp⟩ (Nat.le_succ _) e1 (by rw [f1, fixT, if_pos heq, h19]; rfl)⟩, rfl, St.wchClose (F1 := F1) (((St.pick (St.pick (St.pick (St.pick hS (c := mkr F1 bm s.2) (by repeat (first | exact Rem.here | apply Rem.there))) (c := pt bon [.bool on] 4) (by repeat (first | exact Rem.here | apply Rem.there))) (c := pt bmv [pp bm] 96) (by repeat (first | exact Rem.here | apply Rem.there))) (c := pt bi [.int .i64 i] 3) (by repeat (first | exact Rem.here | apply Rem.there)))).sublist (List.Sublist.cons_cons _ (List.Sublist.cons_cons _ (List.Sublist.cons_cons _ (List.Sublist.cons_cons _ (List.nil_sublist _))))))⟩)

theorem With_c (t : BT) (a : Option Addr) (c : Nat) (i : Int) (on : Bool) (w : World) (ht : RdD w t a) : Calls Try.prog 77 [dval t a c, .int .i64 i, .bool on].toArray w (DPost (fun c => t.ev (updI c i on)) w) := by
  have hmk := canon_mk ht.1
  have hcl := canon_len ht.1
  refine enter Try.func77 rfl Try.ntmps77 rfl (St.init _) ?_
  refine WC.seq ?_
  refine WC.region ?_
  refine WL.step ?_
  refine WL.boxN rfl rfl (fun b3 => ?_)
  refine WL.step ?_
  refine WL.box1 rfl rfl rfl (fun b4 => ?_)
  refine WL.step ?_
  refine WL.box1 rfl rfl rfl (fun b5 => ?_)
  refine WL.step ?_
  refine WL.alloc F.zero27 rfl (fun b6 => ?_)
  refine WL.nil ?_
  refine WQ.then_normal ?_
  refine WC.seq ?_
  refine WC.region ?_
  refine WL.step ?_
  refine WL.call0 (β := List Nat × Nat) (res := fun x => .returned (pp x.2)) (cs := fun x => [mkr x.1 x.2 []]) (ψ := fun _ => True) F.fun54 (fun d h => by cases h; rfl) rfl (fun w hS => (newMaker_c w).mono (fun e w2 ⟨x, h1, h2⟩ => ⟨x, trivial, h1, h2⟩)) (fun ⟨F1, bm⟩ _ => ?_)
  refine WL.step ?_
  refine WL.alloc F.zero96 rfl (fun b7 => ?_)
  refine WL.step ?_
  refine WL.store1 F.one96 rfl rfl rfl (by repeat (first | exact Upd.here | apply Upd.there)) (by repeat constructor) ?_
  refine WL.nil ?_
  refine WQ.then_normal ?_
  refine WC.seq ?_
  refine WC.drawsL (by kernel_rfl) (FactsOk.cons (ds := [4, 5]) (LoadOk.by (Y := fun w => w.cell? ⟨b7, 0, none⟩ = some (pp bm)) (fun w hS => hS.cell (by repeat (first | exact List.Mem.head _ | apply List.Mem.tail)) rfl)) (FactsOk.cons (ds := [3, 4, 5]) (LoadOk.whole (t := 3) rfl (by repeat (first | exact List.Mem.head _ | apply List.Mem.tail))) (FactsOk.nil))) ?_
  refine WD.take (i := 0) rfl rfl rfl rfl (by kernel_rfl) (by kernel_rfl) (by kernel_rfl) (fun _ _ _ h => h) (by kernel_rfl) (need_at 0 6 rfl (by kernel_rfl)) (Yl.load1 F.one96 rfl) ?_
  refine WD.take (i := 1) rfl rfl rfl rfl (by kernel_rfl) (by kernel_rfl) (by kernel_rfl) (fun _ _ _ h => h) (by kernel_rfl) (need_at 1 6 rfl (by kernel_rfl)) (Yl.loadN F.agg27 rfl rfl) ?_
  refine WD.take (i := 2) rfl rfl rfl rfl (by kernel_rfl) (by kernel_rfl) (by kernel_rfl) (fun _ _ _ h => h) (by kernel_rfl) need_none (Yl.makeFunc rfl rfl) ?_
  refine WD.one (i := 3) (by kernel_rfl) rfl ?_
  refine WA.chunks (C' := [wch ([b4] ++ ([b7] ++ ([b5] ++ (F1 ++ [])))) b4 b7 b5 bm i on [], pt b3 [.slice a (canon t).1.length c, .int .i64 ((canon t).2 : Int)] 27, pt b6 [.slice none 0 0, .int .i64 0] 27]) (fun w hS => St.wchClose (((St.pick (St.pick (St.pick (St.pick (St.pick (St.pick hS (c := pt b6 [.slice none 0 0, .int .i64 0] 27) (by repeat (first | exact Rem.here | apply Rem.there))) (c := pt b3 [.slice a (canon t).1.length c, .int .i64 ((canon t).2 : Int)] 27) (by repeat (first | exact Rem.here | apply Rem.there))) (c := mkr F1 bm []) (by repeat (first | exact Rem.here | apply Rem.there))) (c := pt b5 [.bool on] 4) (by repeat (first | exact Rem.here | apply Rem.there))) (c := pt b7 [pp bm] 96) (by repeat (first | exact Rem.here | apply Rem.there))) (c := pt b4 [.int .i64 i] 3) (by repeat (first | exact Rem.here | apply Rem.there)))).sublist (List.Sublist.cons_cons _ (List.Sublist.cons_cons _ (List.Sublist.cons_cons _ (List.Sublist.cons_cons _ (List.Sublist.cons_cons _ (List.Sublist.cons_cons _ (List.nil_sublist _))))))))) ?_
  refine WL.callC (β := { y : List Int × (List Nat × List Dec) × Int // FI (fixT i on) (canon t).1 y.1 y.2.1.2 ∧ y.1.length = (canon t).1.length + 2 ∧ y.1[(canon t).2]? = some y.2.2 }) (res := fun y => .int .i64 y.1.2.2) (cs := fun y => [wch y.1.2.1.1 b4 b7 b5 bm i on y.1.2.1.2]) (Cs := [wch ([b4] ++ ([b7] ++ ([b5] ++ (F1 ++ [])))) b4 b7 b5 bm i on []]) (C1 := [pt b3 [.slice a (canon t).1.length c, .int .i64 ((canon t).2 : Int)] 27, pt b6 [.slice none 0 0, .int .i64 0] 27]) (O' := ([b4] ++ ([b7] ++ ([b5] ++ (F1 ++ []))))) F.fun32 (fun d h => by cases h; rfl) rfl (List.Perm.refl _) bun_O1 bun_O2 (fun w hS hS2 => Fold_c (σ := List Nat × List Dec) (fun s => wch s.1 b4 b7 b5 bm i on s.2) (fun s => s.1) (fun s => FpIs.bun) 94 F.fun94 [] [pp b4, pp b7, pp b5] (canon t).1 a c (canon t).2 0 1 (fun out s => FI (fixT i on) (canon t).1 out s.2) (Nat.le_of_lt hcl) (fun k x hx => ⟨(hmk.kid k x hx).2.1, (hmk.kid k x hx).2.2.1⟩) (canon_at t).1 (([b4] ++ ([b7] ++ ([b5] ++ (F1 ++ [])))), []) (FI.nil (b0 := false) (b1 := true) rfl rfl) (fix_join b4 b7 b5 bm i on (canon t).1 hmk hcl) w (rdO_new hS (by repeat (first | exact List.Mem.head _ | apply List.Mem.tail)) FpIs.bun ht.2) hS2) (fun ⟨⟨out, ⟨G1, l1⟩, z⟩, hI, hol, hz⟩ => ?_)
  refine WD.on (closed_of (by kernel_rfl)) (fun w hS => Sx.keep (wch_mv (hS.ok (wch G1 b4 b7 b5 bm i on l1) (by repeat (first | exact List.Mem.head _ | apply List.Mem.tail)))) (Sx.gone rfl (Sx.none))) ?_
  refine WD.one (i := 4) (by kernel_rfl) rfl ?_
  obtain ⟨r1, rfl, hr1, htr⟩ := hI.at' _ _ hz
  rw [(canon_at t).2] at htr
  have hI9 := hI.len
  dsimp only at hI9 hol hI
  have hl1 : l1.length ≤ 16777216 := by omega
  refine WA.openB (fun F3 _ _ _ => ?_)
  simp only [wcCs, List.cons_append, List.nil_append]
  refine WA.chunks (C' := [mkr F3 bm l1, pt b4 [.int .i64 i] 3, pt b7 [pp bm] 96, pt b5 [.bool on] 4, pt b3 [.slice a (canon t).1.length c, .int .i64 ((canon t).2 : Int)] 27, pt b6 [.slice none 0 0, .int .i64 0] 27]) (fun w hS => ((St.pick (St.pick (St.pick (St.pick (St.pick (St.pick hS (c := pt b6 [.slice none 0 0, .int .i64 0] 27) (by repeat (first | exact Rem.here | apply Rem.there))) (c := pt b3 [.slice a (canon t).1.length c, .int .i64 ((canon t).2 : Int)] 27) (by repeat (first | exact Rem.here | apply Rem.there))) (c := pt b5 [.bool on] 4) (by repeat (first | exact Rem.here | apply Rem.there))) (c := pt b7 [pp bm] 96) (by repeat (first | exact Rem.here | apply Rem.there))) (c := pt b4 [.int .i64 i] 3) (by repeat (first | exact Rem.here | apply Rem.there))) (c := mkr F3 bm l1) (by repeat (first | exact Rem.here | apply Rem.there)))).sublist (List.Sublist.cons_cons _ (List.Sublist.cons_cons _ (List.Sublist.cons_cons _ (List.Sublist.cons_cons _ (List.Sublist.cons_cons _ (List.Sublist.cons_cons _ (List.nil_sublist _)))))))) ?_
  refine WL.callC (β := Option Addr × Nat) (res := fun z => dval (trs l1 r1) z.1 z.2) (cs := fun z => [dC z.1 z.2 (trs l1 r1)]) (Cs := [mkr F3 bm l1]) (C1 := [pt b4 [.int .i64 i] 3, pt b7 [pp bm] 96, pt b5 [.bool on] 4, pt b3 [.slice a (canon t).1.length c, .int .i64 ((canon t).2 : Int)] 27, pt b6 [.slice none 0 0, .int .i64 0] 27]) (O' := F3) F.fun55 (fun d h => by cases h; rfl) rfl (List.Perm.refl _) bun_O1 bun_O2 (fun w hS hS2 => done_c F3 bm l1 r1 w hI.ismk hr1 (by rw [htr]; exact fixT_ok ht.1) hl1 hS2) (fun z3 => ?_)
  refine WD.on (closed_of (by kernel_rfl)) (fun w hS => Sx.gone rfl (Sx.gone rfl (Sx.none))) ?_
  refine WD.one (i := 5) (by kernel_rfl) rfl ?_
  refine WL.storeN F.agg27 rfl rfl rfl (by simp [Value.oneCell']) (by repeat (first | exact Upd.here | apply Upd.there)) (by repeat constructor) ?_
  refine WD.on (closed_of (by kernel_rfl)) (fun w hS => Sx.gone rfl (Sx.gone rfl (Sx.none))) ?_
  refine WD.done (by kernel_rfl) ?_
  refine WQ.then_normal ?_
  refine WC.ret ?_
  refine WQ.ret (rs := [.cell 6 27]) rfl (.cellN F.agg27 rfl (by repeat (first | exact List.Mem.head _ | apply List.Mem.tail)) rfl .nil) (fun w hS => ⟨⟨(trs l1 r1, z3), by rw [htr]; exact fixT_ok ht.1, fun c => by rw [htr]; exact fixT_ev t c⟩, rfl, ((St.pick hS (c := dC z3.1 z3.2 (trs l1 r1)) (by repeat (first | exact Rem.here | apply Rem.there)))).sublist (List.Sublist.cons_cons _ (List.nil_sublist _))⟩)

end Go.Proofs.Ytkgllhkhdjodeaa

/-! The paths of a set to the empty one. -/
namespace Dg
def pathsT : BT → List Int → List (List Int)
  | .lf b, pre => bif b then [] else [pre]
  | .nd v lo hi, pre => pathsT lo (pre ++ [(v : Int) + 1]) ++ pathsT hi (pre ++ [-((v : Int) + 1)])
def pathsN : BT → Nat
  | .lf b => bif b then 0 else 1
  | .nd _ lo hi => pathsN lo + pathsN hi
/-- What Fold makes of the nodes: the number of paths, or 4097 if there are more than 4096. -/
structure FP (la : List Dec) (out : List Int) : Prop where
  at' : ∀ k z, out[k]? = some z → z = ((min (pathsN (trs la k)) 4097 : Nat) : Int)
theorem FP.nil (la : List Dec) : FP la [1, 0] := ⟨fun k z hz => by
  rcases k with _ | _ | k
  · simp at hz; rw [(trs_zero la).1, ← hz]; rfl
  · simp at hz; rw [(trs_zero la).2, ← hz]; rfl
  · simp at hz⟩
theorem FP.step {la : List Dec} (hla : Mk la) {out : List Int} (h2 : 2 ≤ out.length) (h : FP la out) {x : Dec} (hx : la[out.length - 2]? = some x) {z1 z2 r : Int} (h1 : out[x.2.1]? = some z1) (h2' : out[x.2.2]? = some z2) (hr : r = if z1 + z2 > 4097 then 4097 else z1 + z2) : FP la (out ++ [r]) := ⟨fun k z hz => by
  by_cases hk : k < out.length
  · rw [List.getElem?_append_left hk] at hz; exact h.at' k z hz
  · have hlt := (List.getElem?_eq_some_iff.1 hz).1
    rw [List.length_append, List.length_singleton] at hlt
    have e : k = out.length := by omega
    subst e
    simp at hz
    have e1 := h.at' _ _ h1
    have e2 := h.at' _ _ h2'
    have ht := hla.at hx
    rw [show out.length - 2 + 2 = out.length by omega] at ht
    rw [ht, ← hz, hr, e1, e2]
    simp only [pathsN]
    split <;> omega⟩
end Dg

/-
  Trees of the holder's own whose rows may be written.
-/
namespace Go.Eng
open Go Go.RowKit
mutual
def rdW (w : World) : Tree → List Nat → Value → Prop
  | .mk op name kids, F, v => ∃ s, v = .agg #[.int .u8 op, .string (str name), s] ∧
    ((kids = [] ∧ F = [] ∧ ∃ a cap, s = .slice a 0 cap) ∨
     (kids ≠ [] ∧ ∃ g cap G vs, s = .slice (some ⟨g, 0, none⟩) kids.length cap ∧ F = g :: G ∧ w.ownsRow 0 74 3 (.slice (some ⟨g, 0, none⟩) kids.length cap) kids.length (flat vs) ∧ rdWL w kids G vs))
def rdWL (w : World) : List Tree → List Nat → List Value → Prop
  | [], F, vs => F = [] ∧ vs = []
  | t :: ts, F, vs => ∃ F1 F2 v vs', F = F1 ++ F2 ∧ vs = v :: vs' ∧ rdW w t F1 v ∧ rdWL w ts F2 vs'
end
mutual
theorem rdW_loc {w w' : World} : ∀ {t : Tree} {F : List Nat} {v : Value}, (∀ k ∈ F, w'.heap[k]? = w.heap[k]?) → rdW w t F v → rdW w' t F v
  | .mk op name kids, F, v, hk, h => by
    simp only [rdW] at h ⊢
    obtain ⟨s, hv, h⟩ := h
    refine ⟨s, hv, ?_⟩
    rcases h with h | ⟨hne, g, cap, G, vs, hs, hF, hc, hl⟩
    · exact .inl h
    · subst hF
      refine .inr ⟨hne, g, cap, G, vs, hs, rfl, ownsRow_loc (fun k hk' => ?_) hc, rdWL_loc (fun k hkG => hk k (by simp [hkG])) hl⟩
      have : g = k := Option.some.inj hk'
      subst this
      exact hk g (by simp)
theorem rdWL_loc {w w' : World} : ∀ {ts : List Tree} {F : List Nat} {vs : List Value}, (∀ k ∈ F, w'.heap[k]? = w.heap[k]?) → rdWL w ts F vs → rdWL w' ts F vs
  | [], F, vs, hk, h => by simp only [rdWL] at h ⊢; exact h
  | t :: ts, F, vs, hk, h => by
    simp only [rdWL] at h ⊢
    obtain ⟨F1, F2, v, vs', hF, hvs, h1, h2⟩ := h
    subst hF
    exact ⟨F1, F2, v, vs', rfl, hvs, rdW_loc (fun k hkF => hk k (by simp [hkF])) h1, rdWL_loc (fun k hkF => hk k (by simp [hkF])) h2⟩
end
def ownW (F : List Nat) (t : Tree) (v : Value) : Chunk where
  fp k := k ∈ F
  ok w := F.Nodup ∧ rdW w t F v
  loc w w' h hw := ⟨hw.1, rdW_loc h hw.2⟩
def ownWL (F : List Nat) (ts : List Tree) (vs : List Value) : Chunk where
  fp k := k ∈ F
  ok w := F.Nodup ∧ rdWL w ts F vs
  loc w w' h hw := ⟨hw.1, rdWL_loc h hw.2⟩
section
variable {w0 : World} {O : List Nat} {C : List Chunk}
theorem St.split {w : World} {x c d : Chunk} (h : St w0 O (x :: C) w) (hc : x.ok w → c.ok w) (hd : x.ok w → d.ok w) (hfc : ∀ k, c.fp k → x.fp k) (hfd : ∀ k, d.fp k → x.fp k) (hdis : x.ok w → ∀ k, c.fp k → ¬ d.fp k) : St w0 O (c :: d :: C) w := by
  have hx := h.ok x (List.mem_cons_self ..)
  have hD := List.pairwise_cons.1 h.disj
  refine ⟨h.os, h.tape, h.output, h.size, h.old, fun y hy => ?_, fun y hy k hk => ?_, ?_⟩
  · rcases List.mem_cons.1 hy with rfl | hy
    · exact hc hx
    · rcases List.mem_cons.1 hy with rfl | hy
      · exact hd hx
      · exact h.ok y (List.mem_cons_of_mem _ hy)
  · rcases List.mem_cons.1 hy with rfl | hy
    · exact h.bnd x (List.mem_cons_self ..) k (hfc k hk)
    · rcases List.mem_cons.1 hy with rfl | hy
      · exact h.bnd x (List.mem_cons_self ..) k (hfd k hk)
      · exact h.bnd y (List.mem_cons_of_mem _ hy) k hk
  · refine List.Pairwise.cons (fun y hy k hk hk' => ?_) (List.Pairwise.cons (fun y hy k hk hk' => hD.1 y hy k (hfd k hk) hk') hD.2)
    rcases List.mem_cons.1 hy with rfl | hy
    · exact hdis hx k hk hk'
    · exact hD.1 y hy k (hfc k hk) hk'
end
end Go.Eng

namespace Go.Eng
open Go Go.RowKit
section
variable {P : Program} {w0 : World} {O : List Nat} {ops : Array Oper} {Q : Exit → Act → World → Prop} {N : Nat} {D : List Deferred} {L : FL} {C : List Chunk} {K : Act → World → Prop}
variable {ty : TypeId} {pos : String} {af : Array Edge}
end
end Go.Eng

/-
  Clauses of a set: the memory of the walk through its paths.
-/
namespace Go.Proofs.Ytkgllhkhdjodeaa
open Go Go.Eng Go.Proofs Dg
abbrev ints (c : List Int) : List Value := c.map (Value.int .i64)
structure TG where
  oa : Option Addr
  oc : Nat
  vs : List Value
  Fs : List Nat
  pa : Option Addr
  pc : Nat
abbrev thCs (bo bp : Nat) (out : List (List Int)) (path : List Int) (x : TG) : List Chunk :=
  [pt bo [.slice x.oa out.length x.oc] 33, rowc (.slice x.oa out.length x.oc) out.length 23 1 x.vs, stepsC x.Fs x.vs out, pt bp [.slice x.pa path.length x.pc] 23, rowc (.slice x.pa path.length x.pc) path.length 3 1 (ints path)]
def thr (F : List Nat) (bo bp : Nat) (out : List (List Int)) (path : List Int) : Chunk := bun F (thCs bo bp out path) (fun _ => True)
abbrev thF (bo bp bn bt : Nat) : Value := .func (.func 35) [].toArray [pp bo, pp bp, pp bn, pp bt].toArray
structure TEnv (w : World) (F : List Nat) (bo bp bn bt : Nat) (l : List Dec) (a : Option Addr) (c : Nat) : Prop where
  no : w.cell? ⟨bn, 0, none⟩ = some (.slice a l.length c)
  no' : bn ∉ F
  th : w.cell? ⟨bt, 0, none⟩ = some (thF bo bp bn bt)
  th' : bt ∉ F
  rd : RdDecO w l a F
theorem TEnv.next {w0 w : World} {F F' : List Nat} {C1 : List Chunk} {bo bp bn bt c : Nat} {l : List Dec} {a : Option Addr} {out : List (List Int)} {path : List Int} (h : TEnv w0 F bo bp bn bt l a c) (hS : St w0 F ([thr F' bo bp out path] ++ C1) w) : TEnv w F' bo bp bn bt l a c := by
  have hap := fun {z : Nat} (h1 : z < w0.heap.size) (h2 : z ∉ F) => hS.apart (F := F') bun_O2 h1 h2
  refine ⟨hS.oldc h.no h.no', hap (World.block_lt_of_cell? w0 _ h.no) h.no', hS.oldc h.th h.th', hap (World.block_lt_of_cell? w0 _ h.th) h.th', fun j u hu => ?_⟩
  obtain ⟨b, off, e1, e2, e3⟩ := h.rd j u hu
  exact ⟨b, off, e1, hS.oldc e2 e3, hap (World.block_lt_of_cell? w0 _ e2) e3⟩
end Go.Proofs.Ytkgllhkhdjodeaa

namespace Go.Proofs.Ytkgllhkhdjodeaa
open Go Go.Eng Go.Proofs Dg
end Go.Proofs.Ytkgllhkhdjodeaa

namespace Go.Proofs.Ytkgllhkhdjodeaa
open Go Go.Eng Go.Proofs Dg
end Go.Proofs.Ytkgllhkhdjodeaa

namespace Go.Proofs.Ytkgllhkhdjodeaa
open Go Go.Eng Go.Proofs Dg
structure CubeG where
  m : Nat
  G : List Nat
  l : List Dec
  r : Nat

theorem Cube_c (on off : Nat) (hon : on < 4294967296) (hoff : off < 4294967296) (w : World) : Calls Try.prog 71 [.int .u32 (on : Int), .int .u32 (off : Int)].toArray w (DPost (fun c => cubeB on off 0 c) w) := by
  have hon1 : (on &&& 16777215) < 4294967296 := Nat.lt_of_le_of_lt Nat.and_le_left hon
  have hoff1 : (off &&& 16777215) < 4294967296 := Nat.lt_of_le_of_lt Nat.and_le_left hoff
  refine enter Try.func71 rfl Try.ntmps71 rfl (St.init _) ?_
  refine WC.seq ?_
  refine WC.region ?_
  refine WL.step ?_
  refine WL.alloc F.zero27 rfl (fun b4 => ?_)
  refine WL.nil ?_
  refine WQ.then_normal ?_
  refine WC.seq ?_
  refine WC.region ?_
  refine WL.step ?_
  refine WL.move rfl rfl ?_
  refine WL.step ?_
  refine WL.bin rfl rfl rfl (fun w => run_and (b := 16777215) hon (by decide) _ _ _ w) ?_
  refine WL.step ?_
  refine WL.move rfl rfl ?_
  refine WL.step ?_
  refine WL.bin rfl rfl rfl (fun w => run_and (b := 16777215) hoff (by decide) _ _ _ w) ?_
  refine WL.step ?_
  refine WL.assign rfl rfl ?_
  refine WL.step ?_
  refine WL.assign rfl rfl ?_
  refine WL.nil ?_
  refine WQ.then_normal ?_
  refine WC.seq ?_
  refine WC.seq ?_
  refine WC.region ?_
  refine WL.step ?_
  refine WL.move rfl rfl ?_
  refine WL.step ?_
  refine WL.move rfl rfl ?_
  refine WL.step ?_
  refine WL.bin rfl rfl rfl (fun w => run_and hon1 hoff1 _ _ _ w) ?_
  refine WL.step ?_
  refine WL.neI rfl rfl rfl ?_
  refine WL.nil ?_
  refine WQ.then_normal ?_
  refine WC.cond rfl (fun h15 => ?_) (fun h15 => ?_)
  · skip
    have hcl : (on &&& 16777215) &&& (off &&& 16777215) ≠ 0 := by (intro e; rw [e] at h15; simp at h15)
    refine WC.seq ?_
    refine WC.region ?_
    refine WL.step ?_
    refine WL.build F.stT27 rfl (by repeat (first | exact Built.nil | apply Built.one rfl rfl (by repeat constructor) | apply Built.agg rfl rfl (by repeat constructor))) rfl ?_
    refine WL.step ?_
    refine WL.storeN F.agg27 rfl rfl rfl (by simp [Value.oneCell']) (by repeat (first | exact Upd.here | apply Upd.there)) (by repeat constructor) ?_
    refine WL.nil ?_
    refine WQ.then_normal ?_
    refine WC.ret ?_
    refine WQ.then_ret ?_
    refine WQ.ret (rs := [.cell 4 27]) rfl (.cellN F.agg27 rfl (by repeat (first | exact List.Mem.head _ | apply List.Mem.tail)) rfl .nil) (fun w hS => ⟨⟨(.lf false, none, 0), trivial, fun c => (cubeB_clash hcl c).symm⟩, rfl, hS.drop.rowNil _ _⟩)
  · skip
    have hcl : (on &&& 16777215) &&& (off &&& 16777215) = 0 := by (simp at h15; omega)
    refine WC.skip ?_
    refine WQ.then_normal ?_
    refine WC.seq ?_
    refine WC.region ?_
    refine WL.step ?_
    refine WL.call0 (β := List Nat × Nat) (res := fun x => .returned (pp x.2)) (cs := fun x => [mkr x.1 x.2 []]) (ψ := fun _ => True) F.fun54 (fun d h => by cases h; rfl) rfl (fun w hS => (newMaker_c w).mono (fun e w2 ⟨x, h1, h2⟩ => ⟨x, trivial, h1, h2⟩)) (fun ⟨G0, bm⟩ _ => ?_)
    refine WL.step ?_
    refine WL.assign rfl rfl ?_
    refine WL.nil ?_
    refine WQ.then_normal ?_
    refine WC.seq ?_
    refine WC.region ?_
    refine WL.step ?_
    refine WL.assign rfl rfl ?_
    refine WL.nil ?_
    refine WQ.then_normal ?_
    refine WC.seq ?_
    refine WC.seq ?_
    refine WC.region ?_
    refine WL.step ?_
    refine WL.assign rfl rfl ?_
    refine WL.nil ?_
    refine WQ.then_normal ?_
    refine WC.block ?_
    refine WC.loop (α := CubeG) (fun g => g.m ≤ 24 ∧ Mk g.l ∧ g.l.length + g.m ≤ 24 ∧ g.r < g.l.length + 2 ∧ (trs g.l g.r).ok g.m ∧ ∀ c, (trs g.l g.r).ev c = cubeB (on &&& 16777215) (off &&& 16777215) g.m c) (fun g => [(0, .int .u32 (((on &&& 16777215) : Nat) : Int)), (1, .int .u32 (((off &&& 16777215) : Nat) : Int)), (4, pp b4), (5, pp bm), (6, .int .i64 (g.r : Int)), (7, .int .i64 ((g.m : Int) - 1))]) (fun g => [mkr g.G bm g.l, pt b4 [.slice none 0 0, .int .i64 0] 27]) (fun g => g.m) (⟨24, G0, [], 1⟩) ?_ ?_ ?_ ?_
    · exact ⟨Nat.le_refl _, Mk.nil, (by show 0 + 24 ≤ 24; decide), (by show 1 < 0 + 2; decide), trivial, fun c => (cubeB_end _ _ c).symm⟩
    · exact ⟨rfl, rfl, rfl, rfl, rfl, rfl, trivial⟩
    · rfl
    rintro ⟨m, G, l, r⟩ ⟨hm24, hm, hlm, hr, hok, hev⟩
    dsimp only at hm24 hm hlm hr hok hev
    show WC _ _ _ _ _ _ _ [(0, .int .u32 (((on &&& 16777215) : Nat) : Int)), (1, .int .u32 (((off &&& 16777215) : Nat) : Int)), (4, pp b4), (5, pp bm), (6, .int .i64 (r : Int)), (7, .int .i64 ((m : Int) - 1))] [mkr G bm l, pt b4 [.slice none 0 0, .int .i64 0] 27]
    refine WC.seq ?_
    refine WC.seq ?_
    refine WC.region ?_
    refine WL.step ?_
    refine WL.move rfl rfl ?_
    refine WL.step ?_
    refine WL.geI rfl rfl rfl ?_
    refine WL.nil ?_
    refine WQ.then_normal ?_
    refine WC.cond rfl (fun h19 => ?_) (fun h19 => ?_)
    · skip
      obtain ⟨k, rfl⟩ : ∃ k, m = k + 1 := ⟨m - 1, by (simp at h19; omega)⟩
      have hki : (((k + 1 : Nat) : Int) - 1) = (k : Int) := by omega
      refine WC.skip ?_
      refine WQ.then_normal ?_
      refine WC.seq ?_
      refine WC.block ?_
      refine WC.block ?_
      refine WC.seq ?_
      refine WC.region ?_
      refine WL.step ?_
      refine WL.move rfl rfl ?_
      refine WL.step ?_
      refine WL.move rfl rfl ?_
      refine WA.say 24 (.int .i64 (k : Int)) (by rw [← hki]; rfl) ?_
      refine WL.step ?_
      refine WL.bin rfl rfl rfl (fun w => run_shr (by omega) _ _ _ w) ?_
      refine WL.step ?_
      refine WL.bin rfl rfl rfl (fun w => run_and (b := 1) (Nat.lt_of_le_of_lt (by rw [Nat.shiftRight_eq_div_pow]; exact Nat.div_le_self _ _) hon1) (by decide) _ _ _ w) ?_
      refine WL.step ?_
      refine WL.eqI rfl rfl rfl ?_
      refine WL.step ?_
      refine WL.assign rfl rfl ?_
      refine WL.nil ?_
      refine WQ.then_normal ?_
      refine WC.cond rfl (fun h22 => ?_) (fun h22 => ?_)
      · skip
        rw [Fm.testBit_shift] at h22
        have hb1 : (on &&& 16777215).testBit k = true := h22
        have hb2 : (off &&& 16777215).testBit k = false := by
          have h0 : ((on &&& 16777215) &&& (off &&& 16777215)).testBit k = false := by rw [hcl]; simp
          rw [Nat.testBit_and, hb1] at h0; simpa using h0
        refine WC.region ?_
        refine WL.step ?_
        refine WL.move rfl rfl ?_
        refine WL.step ?_
        refine WL.move rfl rfl ?_
        refine WA.say 29 (.int .i64 (k : Int)) (by rw [← hki]; rfl) ?_
        refine WL.step ?_
        refine WL.move rfl rfl ?_
        refine WL.step ?_
        refine WL.callC (β := { z : List Nat × List Dec × Nat // MadeN l z.2.1 z.2.2 (mkN k (trs l 0) (trs l r)) ∧ z.2.1.length ≤ l.length + 1 }) (res := fun z => .int .i64 (z.1.2.2 : Int)) (cs := fun z => [mkr z.1.1 bm z.1.2.1]) (Cs := [mkr G bm l]) (C1 := [pt b4 [.slice none 0 0, .int .i64 0] 27]) (O' := G) F.fun82 (fun d h => by cases h; rfl) rfl (List.Perm.refl _) bun_O1 bun_O2 (fun w hS hS2 => mnode_c G bm l k 0 r w (by omega) hm (by omega) hr (by omega) hS2) (fun ⟨⟨G2, l2, r2⟩, hm2, hl2⟩ => ?_)
        dsimp only at hm2 hl2
        refine WL.step ?_
        refine WL.assign rfl rfl ?_
        refine WL.nil ?_
        refine WQ.block_normal ?_
        refine WQ.block_normal ?_
        refine WQ.then_normal ?_
        refine WC.region ?_
        refine WL.step ?_
        refine WL.move rfl rfl ?_
        refine WA.say 20 (.int .i64 (k : Int)) (by rw [← hki]; rfl) ?_
        refine WL.step ?_
        refine WL.sub rfl rfl rfl ⟨by omega, by omega⟩ ?_
        refine WL.step ?_
        refine WL.assign rfl rfl ?_
        refine WL.nil ?_
        refine WQ.chunks (C' := [mkr G2 bm l2, pt b4 [.slice none 0 0, .int .i64 0] 27]) (fun w hS => ((St.pick (St.pick hS (c := pt b4 [.slice none 0 0, .int .i64 0] 27) (by repeat (first | exact Rem.here | apply Rem.there))) (c := mkr G2 bm l2) (by repeat (first | exact Rem.here | apply Rem.there)))).sublist (List.Sublist.cons_cons _ (List.Sublist.cons_cons _ (List.nil_sublist _)))) ?_
        refine WQ.back (⟨k, G2, l2, r2⟩) ?_ ?_ ?_ ?_
        · exact ⟨by show k ≤ 24; omega, hm2.ismk, by dsimp only; omega, hm2.lt, by show (trs l2 r2).ok k; rw [hm2.tree]; exact mkN_ok (Nat.le_refl _) (by omega) (by rw [(trs_zero l).1]; trivial) hok, fun c => by (show (trs l2 r2).ev c = cubeB _ _ k c; rw [cubeB_step (m := k) (by omega) c, hm2.tree, mkN_ev, (trs_zero l).1, hev, hb1, hb2]; cases c k <;> simp [BT.ev])⟩
        · (show k < k + 1; omega)
        · exact ⟨rfl, rfl, rfl, rfl, rfl, rfl, trivial⟩
        · rfl
      · skip
        rw [Fm.testBit_shift] at h22
        have hb1 : (on &&& 16777215).testBit k = false := h22
        refine WC.seq ?_
        refine WC.region ?_
        refine WL.step ?_
        refine WL.move rfl rfl ?_
        refine WL.step ?_
        refine WL.move rfl rfl ?_
        refine WA.say 34 (.int .i64 (k : Int)) (by rw [← hki]; rfl) ?_
        refine WL.step ?_
        refine WL.bin rfl rfl rfl (fun w => run_shr (by omega) _ _ _ w) ?_
        refine WL.step ?_
        refine WL.bin rfl rfl rfl (fun w => run_and (b := 1) (Nat.lt_of_le_of_lt (by rw [Nat.shiftRight_eq_div_pow]; exact Nat.div_le_self _ _) hoff1) (by decide) _ _ _ w) ?_
        refine WL.step ?_
        refine WL.eqI rfl rfl rfl ?_
        refine WL.step ?_
        refine WL.assign rfl rfl ?_
        refine WL.nil ?_
        refine WQ.then_normal ?_
        refine WC.cond rfl (fun h32 => ?_) (fun h32 => ?_)
        · skip
          rw [Fm.testBit_shift] at h32
          have hb2 : (off &&& 16777215).testBit k = true := h32
          refine WC.region ?_
          refine WL.step ?_
          refine WL.move rfl rfl ?_
          refine WL.step ?_
          refine WL.move rfl rfl ?_
          refine WA.say 39 (.int .i64 (k : Int)) (by rw [← hki]; rfl) ?_
          refine WL.step ?_
          refine WL.move rfl rfl ?_
          refine WL.step ?_
          refine WL.callC (β := { z : List Nat × List Dec × Nat // MadeN l z.2.1 z.2.2 (mkN k (trs l r) (trs l 0)) ∧ z.2.1.length ≤ l.length + 1 }) (res := fun z => .int .i64 (z.1.2.2 : Int)) (cs := fun z => [mkr z.1.1 bm z.1.2.1]) (Cs := [mkr G bm l]) (C1 := [pt b4 [.slice none 0 0, .int .i64 0] 27]) (O' := G) F.fun82 (fun d h => by cases h; rfl) rfl (List.Perm.refl _) bun_O1 bun_O2 (fun w hS hS2 => mnode_c G bm l k r 0 w (by omega) hm hr (by omega) (by omega) hS2) (fun ⟨⟨G2, l2, r2⟩, hm2, hl2⟩ => ?_)
          dsimp only at hm2 hl2
          refine WL.step ?_
          refine WL.assign rfl rfl ?_
          refine WL.nil ?_
          refine WQ.block_normal ?_
          refine WQ.block_normal ?_
          refine WQ.then_normal ?_
          refine WC.region ?_
          refine WL.step ?_
          refine WL.move rfl rfl ?_
          refine WA.say 20 (.int .i64 (k : Int)) (by rw [← hki]; rfl) ?_
          refine WL.step ?_
          refine WL.sub rfl rfl rfl ⟨by omega, by omega⟩ ?_
          refine WL.step ?_
          refine WL.assign rfl rfl ?_
          refine WL.nil ?_
          refine WQ.chunks (C' := [mkr G2 bm l2, pt b4 [.slice none 0 0, .int .i64 0] 27]) (fun w hS => ((St.pick (St.pick hS (c := pt b4 [.slice none 0 0, .int .i64 0] 27) (by repeat (first | exact Rem.here | apply Rem.there))) (c := mkr G2 bm l2) (by repeat (first | exact Rem.here | apply Rem.there)))).sublist (List.Sublist.cons_cons _ (List.Sublist.cons_cons _ (List.nil_sublist _)))) ?_
          refine WQ.back (⟨k, G2, l2, r2⟩) ?_ ?_ ?_ ?_
          · exact ⟨by show k ≤ 24; omega, hm2.ismk, by dsimp only; omega, hm2.lt, by show (trs l2 r2).ok k; rw [hm2.tree]; exact mkN_ok (Nat.le_refl _) (by omega) hok (by rw [(trs_zero l).1]; trivial), fun c => by (show (trs l2 r2).ev c = cubeB _ _ k c; rw [cubeB_step (m := k) (by omega) c, hm2.tree, mkN_ev, (trs_zero l).1, hev, hb1, hb2]; cases c k <;> simp [BT.ev])⟩
          · (show k < k + 1; omega)
          · exact ⟨rfl, rfl, rfl, rfl, rfl, rfl, trivial⟩
          · rfl
        · skip
          rw [Fm.testBit_shift] at h32
          have hb2 : (off &&& 16777215).testBit k = false := h32
          refine WC.skip ?_
          refine WQ.block_normal ?_
          refine WQ.block_normal ?_
          refine WQ.then_normal ?_
          refine WC.region ?_
          refine WL.step ?_
          refine WL.move rfl rfl ?_
          refine WA.say 20 (.int .i64 (k : Int)) (by rw [← hki]; rfl) ?_
          refine WL.step ?_
          refine WL.sub rfl rfl rfl ⟨by omega, by omega⟩ ?_
          refine WL.step ?_
          refine WL.assign rfl rfl ?_
          refine WL.nil ?_
          refine WQ.chunks (C' := [mkr G bm l, pt b4 [.slice none 0 0, .int .i64 0] 27]) (fun w hS => ((St.pick (St.pick hS (c := pt b4 [.slice none 0 0, .int .i64 0] 27) (by repeat (first | exact Rem.here | apply Rem.there))) (c := mkr G bm l) (by repeat (first | exact Rem.here | apply Rem.there)))).sublist (List.Sublist.cons_cons _ (List.Sublist.cons_cons _ (List.nil_sublist _)))) ?_
          refine WQ.back (⟨k, G, l, r⟩) ?_ ?_ ?_ ?_
          · exact ⟨by show k ≤ 24; omega, hm, by dsimp only; omega, hr, BT.ok_mono (n := k + 1) hok (Nat.le_succ _), fun c => by (show (trs l r).ev c = cubeB _ _ k c; rw [cubeB_step (m := k) (by omega) c, hev, hb1, hb2]; simp)⟩
          · (show k < k + 1; omega)
          · exact ⟨rfl, rfl, rfl, rfl, rfl, rfl, trivial⟩
          · rfl
    · skip
      have hm0 : m = 0 := by (simp at h19; omega)
      subst hm0
      refine WC.exit ?_
      refine WQ.then_exit ?_
      refine WQ.then_exit ?_
      refine WQ.block_exit ?_
      refine WQ.then_normal ?_
      refine WC.seq ?_
      refine WC.region ?_
      refine WL.step ?_
      refine WL.move rfl rfl ?_
      refine WL.step ?_
      refine WL.move rfl rfl ?_
      refine WL.step ?_
      refine WL.callC (β := Option Addr × Nat) (res := fun z => dval (trs l r) z.1 z.2) (cs := fun z => [dC z.1 z.2 (trs l r)]) (Cs := [mkr G bm l]) (C1 := [pt b4 [.slice none 0 0, .int .i64 0] 27]) (O' := G) F.fun55 (fun d h => by cases h; rfl) rfl (List.Perm.refl _) bun_O1 bun_O2 (fun w hS hS2 => done_c G bm l r w hm hr hok (by omega) hS2) (fun z3 => ?_)
      refine WL.step ?_
      refine WL.storeN F.agg27 rfl rfl rfl (by simp [Value.oneCell']) (by repeat (first | exact Upd.here | apply Upd.there)) (by repeat constructor) ?_
      refine WL.nil ?_
      refine WQ.then_normal ?_
      refine WC.ret ?_
      refine WQ.ret (rs := [.cell 4 27]) rfl (.cellN F.agg27 rfl (by repeat (first | exact List.Mem.head _ | apply List.Mem.tail)) rfl .nil) (fun w hS => ⟨⟨(trs l r, z3), hok, fun c => by rw [hev, cubeB_mask]⟩, rfl, ((St.pick hS (c := dC z3.1 z3.2 (trs l r)) (by repeat (first | exact Rem.here | apply Rem.there)))).sublist (List.Sublist.cons_cons _ (List.nil_sublist _))⟩)

end Go.Proofs.Ytkgllhkhdjodeaa

namespace Fm
open Go Go.Eng
/-! ### a byte that begins no token -/
/-- What a token, or an error, may be, ahead of that byte. -/
def GoodR (X : Nat) : PR → Prop
  | .ok _ a y => a + y.length ≤ X ∧ y ≠ []
  | .bad a => a ≤ X
/-! ### a text of blanks and a 0 -/
end Fm

/-! Clauses as sets. -/
namespace Dg
def litC (cf : Cf) (x : Int) : Bool := if 0 < x then cf (x - 1).toNat else !cf (-x - 1).toNat
def clauseB (c : List Int) (cf : Cf) : Bool := c.any (litC cf)
def onStep (p : Nat × Nat) (x : Int) : Nat × Nat := if 0 < x then (p.1, p.2 ||| 2 ^ (x - 1).toNat) else (p.1 ||| 2 ^ (-x - 1).toNat, p.2)
def onOff (c : List Int) : Nat × Nat := c.foldl onStep (0, 0)
theorem or_pow_testBit (a k j : Nat) : (a ||| 2 ^ k).testBit j = (a.testBit j || decide (j = k)) := by
  rw [Nat.testBit_or, Nat.testBit_two_pow]
  congr 1
  rw [Bool.eq_iff_iff]; simp; omega
theorem cubeB_on {on off k : Nat} (hk : k < 24) (cf : Cf) : cubeB (on ||| 2 ^ k) off 0 cf = (cubeB on off 0 cf && cf k) := by
  unfold cubeB
  rw [Bool.eq_iff_iff]
  simp only [List.all_eq_true, Bool.and_eq_true, List.mem_range, or_pow_testBit]
  constructor
  · intro h
    refine ⟨fun j hj => ?_, ?_⟩
    · have := h j hj
      revert this
      cases on.testBit j <;> cases cf j <;> cases off.testBit j <;> simp
    · have := h k hk
      revert this
      cases on.testBit k <;> cases cf k <;> simp
  · rintro ⟨h, hc⟩ j hj
    have := h j hj
    by_cases e : j = k
    · subst e
      revert this
      rw [hc]
      simp
    · simpa [e] using this
theorem cubeB_off {on off k : Nat} (hk : k < 24) (cf : Cf) : cubeB on (off ||| 2 ^ k) 0 cf = (cubeB on off 0 cf && !cf k) := by
  unfold cubeB
  rw [Bool.eq_iff_iff]
  simp only [List.all_eq_true, Bool.and_eq_true, List.mem_range, or_pow_testBit]
  constructor
  · intro h
    refine ⟨fun j hj => ?_, ?_⟩
    · have := h j hj
      revert this
      cases on.testBit j <;> cases cf j <;> cases off.testBit j <;> simp
    · have := h k hk
      revert this
      cases off.testBit k <;> cases cf k <;> simp
  · rintro ⟨h, hc⟩ j hj
    have := h j hj
    by_cases e : j = k
    · subst e
      revert this
      simp only [Bool.not_eq_true'] at hc
      rw [hc]
      simp
    · simpa [e] using this
theorem cubeB_fold (cf : Cf) : ∀ (c : List Int) (p : Nat × Nat), (∀ x ∈ c, x ≠ 0 ∧ -24 ≤ x ∧ x ≤ 24) → cubeB (c.foldl onStep p).1 (c.foldl onStep p).2 0 cf = (cubeB p.1 p.2 0 cf && c.all (fun x => !litC cf x))
  | [], p, _ => by simp
  | x :: c, p, h => by
    have hx := h x (List.mem_cons_self ..)
    rw [List.foldl_cons, cubeB_fold cf c _ (fun y hy => h y (List.mem_cons_of_mem _ hy)), List.all_cons]
    unfold onStep litC
    by_cases h0 : 0 < x
    · simp only [if_pos h0]
      rw [cubeB_off (by omega)]
      simp [Bool.and_assoc]
    · simp only [if_neg h0]
      rw [cubeB_on (by omega)]
      simp [Bool.and_assoc]
theorem clause_cube {c : List Int} (h : ∀ x ∈ c, x ≠ 0 ∧ -24 ≤ x ∧ x ≤ 24) (cf : Cf) : (!cubeB (onOff c).1 (onOff c).2 0 cf) = clauseB c cf := by
  unfold onOff clauseB
  rw [cubeB_fold cf c (0, 0) h]
  have e : cubeB 0 0 0 cf = true := by
    unfold cubeB
    rw [List.all_eq_true]
    intro j _
    simp
  rw [e, Bool.true_and, Bool.eq_iff_iff]
  simp only [Bool.not_eq_true', List.all_eq_false, List.any_eq_true]
  simp
theorem onStep_lt {p : Nat × Nat} {x : Int} (hp : p.1 < 2 ^ 24 ∧ p.2 < 2 ^ 24) (hx : x ≠ 0 ∧ -24 ≤ x ∧ x ≤ 24) : (onStep p x).1 < 2 ^ 24 ∧ (onStep p x).2 < 2 ^ 24 := by
  have key : ∀ k : Nat, k < 24 → (2 : Nat) ^ k < 2 ^ 24 := fun k hk => Nat.pow_lt_pow_right (by decide) hk
  unfold onStep
  by_cases h0 : 0 < x
  · rw [if_pos h0]; exact ⟨hp.1, Nat.or_lt_two_pow hp.2 (key _ (by omega))⟩
  · rw [if_neg h0]; exact ⟨Nat.or_lt_two_pow hp.1 (key _ (by omega)), hp.2⟩
theorem onOff_lt : ∀ {c : List Int} {p : Nat × Nat}, (∀ x ∈ c, x ≠ 0 ∧ -24 ≤ x ∧ x ≤ 24) → p.1 < 2 ^ 24 ∧ p.2 < 2 ^ 24 → (c.foldl onStep p).1 < 2 ^ 24 ∧ (c.foldl onStep p).2 < 2 ^ 24
  | [], p, _, hp => hp
  | x :: c, p, h, hp => onOff_lt (c := c) (fun y hy => h y (List.mem_cons_of_mem _ hy)) (onStep_lt hp (h x (List.mem_cons_self ..)))
theorem onOff_take {c : List Int} {i : Nat} {x : Int} (h : c[i]? = some x) : onOff (c.take (i + 1)) = onStep (onOff (c.take i)) x := by
  unfold onOff
  rw [List.take_add_one, h]
  simp
end Dg

namespace Go.Proofs.Ytkgllhkhdjodeaa
open Go Go.Eng Go.Proofs Dg
theorem clause_c (k : List Int) (a : Option Addr) (cap : Nat) (hk : ∀ x ∈ k, x ≠ 0 ∧ -24 ≤ x ∧ x ≤ 24) (hlen : k.length ≤ 1099511627776) (w : World) (hr : RdC w k a) : Calls Try.prog 48 [.slice a k.length cap].toArray w (DPost (clauseB k) w) := by
  refine enter Try.func48 rfl Try.ntmps48 rfl (St.init _) ?_
  refine WC.seq ?_
  refine WC.region ?_
  refine WL.step ?_
  refine WL.alloc F.zero27 rfl (fun b2 => ?_)
  refine WL.nil ?_
  refine WQ.then_normal ?_
  refine WC.seq ?_
  refine WC.region ?_
  refine WL.step ?_
  refine WL.assign rfl rfl ?_
  refine WL.step ?_
  refine WL.assign rfl rfl ?_
  refine WL.nil ?_
  refine WQ.then_normal ?_
  refine WC.seq ?_
  refine WC.seq ?_
  refine WC.region ?_
  refine WL.step ?_
  refine WL.move rfl rfl ?_
  refine WL.step ?_
  refine WL.lenSl F.und23 rfl rfl ?_
  refine WL.step ?_
  refine WL.move rfl rfl ?_
  refine WL.nil ?_
  refine WQ.then_normal ?_
  refine WC.block ?_
  refine WC.loop (α := Nat) (fun i => i ≤ k.length) (fun i => [(3, .int .u32 ((onOff (k.take i)).1 : Int)), (4, .int .u32 ((onOff (k.take i)).2 : Int)), (7, .slice a k.length cap), (8, .int .i64 (k.length : Int)), (9, .int .i64 (i : Int)), (2, pp b2)]) (fun _ => [pt b2 [.slice none 0 0, .int .i64 0] 27]) (fun i => k.length - i) (0) ?_ ?_ ?_ ?_
  · exact Nat.zero_le _
  · exact ⟨rfl, rfl, rfl, rfl, rfl, rfl, trivial⟩
  · rfl
  rintro i hi
  refine WC.seq ?_
  refine WC.region ?_
  refine WL.step ?_
  refine WL.ltI rfl rfl rfl ?_
  refine WL.nil ?_
  refine WQ.then_normal ?_
  refine WC.seq ?_
  refine WC.cond rfl (fun h10 => ?_) (fun h10 => ?_)
  · skip
    have hlt : i < k.length := by simpa using h10
    obtain ⟨y, hx⟩ : ∃ y, k[i]? = some y := ⟨_, List.getElem?_eq_getElem hlt⟩
    obtain ⟨b, off, rfl, hcell⟩ := hr i y hx
    have hy := hk y (List.mem_of_getElem? hx)
    have hst := onOff_take hx
    have hbd := onOff_lt (c := k.take i) (p := (0, 0)) (fun z hz => hk z (List.mem_of_mem_take hz)) ⟨by decide, by decide⟩
    have hbd1 : (onOff (k.take i)).1 < 4294967296 := Nat.lt_of_lt_of_le hbd.1 (by decide)
    have hbd2 : (onOff (k.take i)).2 < 4294967296 := Nat.lt_of_lt_of_le hbd.2 (by decide)
    refine WC.skip ?_
    refine WQ.then_normal ?_
    refine WC.seq ?_
    refine WC.block ?_
    refine WC.seq ?_
    refine WC.region ?_
    refine WL.step ?_
    refine WL.indexAddr F.sl23 rfl rfl rfl hlt ?_
    refine WL.step ?_
    refine WL.load1 F.one3 rfl rfl (v := .int .i64 y) (fun w hS => hS.oldc (by simpa using hcell) (by simp)) ?_
    refine WL.step ?_
    refine WL.assign rfl rfl ?_
    refine WL.nil ?_
    refine WQ.then_normal ?_
    refine WC.seq ?_
    refine WC.region ?_
    refine WL.step ?_
    refine WL.move rfl rfl ?_
    refine WL.step ?_
    refine WL.gtI rfl rfl rfl ?_
    refine WL.nil ?_
    refine WQ.then_normal ?_
    refine WC.cond rfl (fun h14 => ?_) (fun h14 => ?_)
    · skip
      have h0 : 0 < y := by simpa using h14
      have hst2 : onOff (k.take (i + 1)) = ((onOff (k.take i)).1, (onOff (k.take i)).2 ||| 2 ^ (y - 1).toNat) := by rw [hst]; unfold onStep; rw [if_pos h0]
      refine WC.region ?_
      refine WL.step ?_
      refine WL.move rfl rfl ?_
      refine WL.step ?_
      refine WL.move rfl rfl ?_
      refine WL.step ?_
      refine WL.sub rfl rfl rfl ⟨by omega, by omega⟩ ?_
      refine WA.say 17 (.int .i64 (((y - 1).toNat : Nat) : Int)) (by rw [show (((y - 1).toNat : Nat) : Int) = y - 1 by omega]; rfl) ?_
      refine WL.step ?_
      refine WL.bin rfl rfl rfl (fun w => run_shl1 (by omega) _ _ _ w) ?_
      refine WL.step ?_
      refine WL.bin rfl rfl rfl (fun w => run_or hbd2 (pow32 (by omega)) _ _ _ w) ?_
      refine WL.step ?_
      refine WL.assign rfl rfl ?_
      refine WL.nil ?_
      refine WQ.block_normal ?_
      refine WQ.then_normal ?_
      refine WC.region ?_
      refine WL.step ?_
      refine WL.add rfl rfl rfl ⟨by omega, by omega⟩ ?_
      refine WL.step ?_
      refine WL.move rfl rfl ?_
      refine WL.nil ?_
      refine WQ.back (i + 1) (by show i + 1 ≤ k.length; omega) (by show k.length - (i + 1) < k.length - i; omega) ?_ rfl
      simp only [hst2]
      exact ⟨rfl, rfl, rfl, rfl, rfl, rfl, trivial⟩
    · skip
      have h0 : ¬ 0 < y := by simpa using h14
      have hst2 : onOff (k.take (i + 1)) = ((onOff (k.take i)).1 ||| 2 ^ (-y - 1).toNat, (onOff (k.take i)).2) := by rw [hst]; unfold onStep; rw [if_neg h0]
      refine WC.region ?_
      refine WL.step ?_
      refine WL.move rfl rfl ?_
      refine WL.step ?_
      refine WL.move rfl rfl ?_
      refine WL.step ?_
      refine WL.negI rfl rfl (by omega) ?_
      refine WL.step ?_
      refine WL.sub rfl rfl rfl ⟨by omega, by omega⟩ ?_
      refine WA.say 23 (.int .i64 (((-y - 1).toNat : Nat) : Int)) (by rw [show (((-y - 1).toNat : Nat) : Int) = -y - 1 by omega]; rfl) ?_
      refine WL.step ?_
      refine WL.bin rfl rfl rfl (fun w => run_shl1 (by omega) _ _ _ w) ?_
      refine WL.step ?_
      refine WL.bin rfl rfl rfl (fun w => run_or hbd1 (pow32 (by omega)) _ _ _ w) ?_
      refine WL.step ?_
      refine WL.assign rfl rfl ?_
      refine WL.nil ?_
      refine WQ.block_normal ?_
      refine WQ.then_normal ?_
      refine WC.region ?_
      refine WL.step ?_
      refine WL.add rfl rfl rfl ⟨by omega, by omega⟩ ?_
      refine WL.step ?_
      refine WL.move rfl rfl ?_
      refine WL.nil ?_
      refine WQ.back (i + 1) (by show i + 1 ≤ k.length; omega) (by show k.length - (i + 1) < k.length - i; omega) ?_ rfl
      simp only [hst2]
      exact ⟨rfl, rfl, rfl, rfl, rfl, rfl, trivial⟩
  · skip
    have hie : i = k.length := by simp at h10; omega
    subst hie
    rw [List.take_length]
    have hbd := onOff_lt (c := k) (p := (0, 0)) hk ⟨by decide, by decide⟩
    have hbd1 : (onOff k).1 < 4294967296 := Nat.lt_of_lt_of_le hbd.1 (by decide)
    have hbd2 : (onOff k).2 < 4294967296 := Nat.lt_of_lt_of_le hbd.2 (by decide)
    refine WC.exit ?_
    refine WQ.then_exit ?_
    refine WQ.then_exit ?_
    refine WQ.block_exit ?_
    refine WQ.then_normal ?_
    refine WC.seq ?_
    refine WC.region ?_
    refine WL.step ?_
    refine WL.move rfl rfl ?_
    refine WL.step ?_
    refine WL.move rfl rfl ?_
    refine WL.step ?_
    refine WL.call0 (β := DRes (fun cf => cubeB (onOff k).1 (onOff k).2 0 cf)) (res := fun z => .returned z.v) (cs := fun z => [z.ch]) (ψ := fun _ => True) F.fun71 (fun d h => by cases h; rfl) rfl (fun w hS => (Cube_c (onOff k).1 (onOff k).2 hbd1 hbd2 w).mono (fun e w2 ⟨x, h1, h2⟩ => ⟨x, trivial, h1, h2⟩)) (fun z29 _ => ?_)
    refine WL.step ?_
    refine WL.call0 (β := DRes (fun cf => !z29.1.1.ev cf)) (res := fun z => .returned z.v) (cs := fun z => [z.ch]) (ψ := fun _ => True) F.fun72 (fun d h => by cases h; rfl) rfl (fun w hS => (Not_c z29.1.1 z29.1.2.1 z29.1.2.2 w (z29.rd hS (by repeat (first | exact List.Mem.head _ | apply List.Mem.tail)))).mono (fun e w2 ⟨x, h1, h2⟩ => ⟨x, trivial, h1, h2⟩)) (fun z30 _ => ?_)
    refine WL.step ?_
    refine WL.storeN F.agg27 rfl rfl rfl (by simp [Value.oneCell']) (by repeat (first | exact Upd.here | apply Upd.there)) (by repeat constructor) ?_
    refine WL.nil ?_
    refine WQ.then_normal ?_
    refine WC.ret ?_
    refine WQ.ret (rs := [.cell 2 27]) rfl (.cellN F.agg27 rfl (by repeat (first | exact List.Mem.head _ | apply List.Mem.tail)) rfl .nil) (fun w hS => ⟨⟨z30.1, z30.2.1, fun cf => by rw [z30.2.2]; dsimp only; rw [z29.2.2]; exact clause_cube hk cf⟩, rfl, ((St.pick hS (c := z30.ch) (by repeat (first | exact Rem.here | apply Rem.there)))).sublist (List.Sublist.cons_cons _ (List.nil_sublist _))⟩)

structure ConjG where
  i : Nat
  t : BT
  ad : Option Addr
  ac : Nat
theorem may_in {n : Int} {ls : List (List Int)} (h : Fm.mayE n ls = 0) : (0 ≤ n ∧ n ≤ 24) ∧ ls.length ≤ 4096 ∧ ∀ c ∈ ls, c.length ≤ 64 ∧ ∀ x ∈ c, x ≠ 0 ∧ -24 ≤ x ∧ x ≤ 24 := by
  obtain ⟨h1, h2, h3⟩ := may_zero h
  refine ⟨h1, h2, fun c hc => ?_⟩
  have := List.all_eq_true.1 h3 c hc
  simp only [Fm.fitsB, Bool.and_eq_true, decide_eq_true_eq, List.all_eq_true, Fm.litB, Bool.not_eq_true', beq_eq_false_iff_ne] at this
  refine ⟨this.1, fun x hx => ?_⟩
  have hx := this.2 x hx
  omega

theorem Conj_in (n : Int) (ls : List (List Int)) (a : Option Addr) (cap : Nat) (us : List Value) (hm : Fm.mayE n ls = 0) (w : World) (hr : RdLL w ls a us) :
    Calls Try.prog 17 [.int .i64 n, .slice a ls.length cap].toArray w fun e w' => ∃ z : DRes (fun cf => ls.all (fun k => clauseB k cf)), e = .returned (.tuple #[z.v, .int .i64 0]) ∧ St w [] [z.ch] w' := by
  have hin := may_in hm
  refine enter Try.func17 rfl Try.ntmps17 rfl (St.init _) ?_
  refine WC.seq ?_
  refine WC.region ?_
  refine WL.step ?_
  refine WL.alloc F.zero27 rfl (fun b4 => ?_)
  refine WL.step ?_
  refine WL.assign rfl rfl ?_
  refine WL.nil ?_
  refine WQ.then_normal ?_
  refine WC.seq ?_
  refine WC.seq ?_
  refine WC.region ?_
  refine WL.step ?_
  refine WL.move rfl rfl ?_
  refine WL.step ?_
  refine WL.move rfl rfl ?_
  refine WL.step ?_
  refine WL.callV F.fun41 rfl rfl (fun w hS => may_c n ls a cap us w (hr.next hS)) ?_
  refine WL.step ?_
  refine WL.assign rfl rfl ?_
  refine WL.nil ?_
  refine WQ.then_normal ?_
  refine WC.seq ?_
  refine WC.region ?_
  refine WL.step ?_
  refine WL.move rfl rfl ?_
  refine WL.step ?_
  refine WL.neI rfl rfl rfl ?_
  refine WL.nil ?_
  refine WQ.then_normal ?_
  refine WC.cond rfl (fun h14 => ?_) (fun h14 => ?_)
  · skip
    exfalso; rw [hm] at h14; simp at h14
  · skip
    refine WC.skip ?_
    refine WQ.then_normal ?_
    refine WC.seq ?_
    refine WC.region ?_
    refine WL.step ?_
    refine WL.call0 (β := DRes (fun _ => true)) (res := fun z => .returned z.v) (cs := fun z => [z.ch]) (ψ := fun _ => True) F.fun46 (fun d h => by cases h; rfl) rfl (fun w hS => (True_c w).mono (fun e w2 ⟨x, h1, h2⟩ => ⟨x, trivial, h1, h2⟩)) (fun z17 _ => ?_)
    refine WL.step ?_
    refine WL.alloc F.zero27 rfl (fun b7 => ?_)
    refine WL.step ?_
    refine WL.storeN F.agg27 rfl rfl rfl (by simp [Value.oneCell']) (by repeat (first | exact Upd.here | apply Upd.there)) (by repeat constructor) ?_
    refine WL.nil ?_
    refine WQ.then_normal ?_
    refine WC.seq ?_
    refine WC.seq ?_
    refine WC.region ?_
    refine WL.step ?_
    refine WL.move rfl rfl ?_
    refine WL.step ?_
    refine WL.lenSl F.und33 rfl rfl ?_
    refine WL.step ?_
    refine WL.move rfl rfl ?_
    refine WL.nil ?_
    refine WQ.then_normal ?_
    refine WC.block ?_
    refine WC.chunks (C' := [pt b7 [.slice z17.1.2.1 (canon z17.1.1).1.length z17.1.2.2, .int .i64 ((canon z17.1.1).2 : Int)] 27, pt b4 [.slice none 0 0, .int .i64 0] 27, z17.ch]) (fun w hS => ((St.pick (St.pick (St.pick hS (c := z17.ch) (by repeat (first | exact Rem.here | apply Rem.there))) (c := pt b4 [.slice none 0 0, .int .i64 0] 27) (by repeat (first | exact Rem.here | apply Rem.there))) (c := pt b7 [.slice z17.1.2.1 (canon z17.1.1).1.length z17.1.2.2, .int .i64 ((canon z17.1.1).2 : Int)] 27) (by repeat (first | exact Rem.here | apply Rem.there)))).sublist (List.Sublist.cons_cons _ (List.Sublist.cons_cons _ (List.Sublist.cons_cons _ (List.nil_sublist _))))) ?_
    refine WC.loop (α := ConjG) (fun g => g.i ≤ ls.length ∧ g.t.ok 0 ∧ ∀ cf, g.t.ev cf = (ls.take g.i).all (fun k => clauseB k cf)) (fun g => [(4, pp b4), (7, pp b7), (18, .slice a ls.length cap), (19, .int .i64 (ls.length : Int)), (20, .int .i64 (g.i : Int))]) (fun g => [pt b7 [.slice g.ad (canon g.t).1.length g.ac, .int .i64 ((canon g.t).2 : Int)] 27, pt b4 [.slice none 0 0, .int .i64 0] 27, dC g.ad g.ac g.t]) (fun g => ls.length - g.i) (⟨0, z17.1.1, z17.1.2.1, z17.1.2.2⟩) ?_ ?_ ?_ ?_
    · exact ⟨Nat.zero_le _, z17.2.1, fun cf => by rw [z17.2.2]; rfl⟩
    · exact ⟨rfl, rfl, rfl, rfl, rfl, trivial⟩
    · rfl
    rintro ⟨i, t, ad, ac⟩ ⟨hi, hok, hev⟩
    dsimp only at hi hok hev
    show WC _ _ _ _ _ _ _ [(4, pp b4), (7, pp b7), (18, .slice a ls.length cap), (19, .int .i64 (ls.length : Int)), (20, .int .i64 (i : Int))] [pt b7 [.slice ad (canon t).1.length ac, .int .i64 ((canon t).2 : Int)] 27, pt b4 [.slice none 0 0, .int .i64 0] 27, dC ad ac t]
    refine WC.seq ?_
    refine WC.region ?_
    refine WL.step ?_
    refine WL.ltI rfl rfl rfl ?_
    refine WL.nil ?_
    refine WQ.then_normal ?_
    refine WC.seq ?_
    refine WC.cond rfl (fun h21 => ?_) (fun h21 => ?_)
    · skip
      have hlt : i < ls.length := by simpa using h21
      obtain ⟨k, b, off, a1, cap1, hc, rfl, hcell, hrc⟩ := hr.at hlt
      obtain ⟨hkl, hkb⟩ := hin.2.2 k (List.mem_of_getElem? hc)
      refine WC.skip ?_
      refine WQ.then_normal ?_
      refine WC.seq ?_
      refine WC.block ?_
      refine WC.seq ?_
      refine WC.region ?_
      refine WL.step ?_
      refine WL.indexAddr F.sl33 rfl rfl rfl hlt ?_
      refine WL.step ?_
      refine WL.load1 F.one23 rfl rfl (v := .slice a1 k.length cap1) (fun w hS => hS.oldc (by simpa using hcell) (by simp)) ?_
      refine WL.step ?_
      refine WL.assign rfl rfl ?_
      refine WL.nil ?_
      refine WQ.then_normal ?_
      refine WC.drawsL (by kernel_rfl) (FactsOk.cons (ds := [3, 4]) (LoadOk.whole (t := 7) rfl (by repeat (first | exact List.Mem.head _ | apply List.Mem.tail))) (FactsOk.nil)) ?_
      refine WD.take (i := 0) rfl rfl rfl rfl (by kernel_rfl) (by kernel_rfl) (by kernel_rfl) (fun _ _ _ h => h) (by kernel_rfl) (need_at 0 5 rfl (by kernel_rfl)) (Yl.loadN F.agg27 rfl rfl) ?_
      refine WD.take (i := 1) rfl rfl rfl rfl (by kernel_rfl) (by kernel_rfl) (by kernel_rfl) (fun _ _ _ h => h) (by kernel_rfl) need_none (Yl.move rfl) ?_
      refine WD.one (i := 2) (by kernel_rfl) rfl ?_
      refine WL.call0 (β := DRes (clauseB k)) (res := fun z => .returned z.v) (cs := fun z => [z.ch]) (ψ := fun _ => True) F.fun48 (fun d h => by cases h; rfl) rfl (fun w hS => (clause_c k a1 cap1 hkb (by omega) w (hrc.next hS)).mono (fun e w2 ⟨x, h1, h2⟩ => ⟨x, trivial, h1, h2⟩)) (fun z26 _ => ?_)
      refine WD.on (closed_of (by kernel_rfl)) (fun w hS => Sx.keep ((fun j v hv => by rw [Nat.zero_add]; exact hS.cell (by repeat (first | exact List.Mem.head _ | apply List.Mem.tail)) hv)) (Sx.none)) ?_
      refine WD.one (i := 3) (by kernel_rfl) rfl ?_
      refine WL.call0 (β := DRes (fun cf => t.ev cf && z26.1.1.ev cf)) (res := fun z => .returned z.v) (cs := fun z => [z.ch]) (ψ := fun _ => True) F.fun47 (fun d h => by cases h; rfl) rfl (fun w hS => (And_c t z26.1.1 ad z26.1.2.1 ac z26.1.2.2 w (RdD.of_row hok (hS.ok (dC ad ac t) (by repeat (first | exact List.Mem.head _ | apply List.Mem.tail)))) (z26.rd hS (by repeat (first | exact List.Mem.head _ | apply List.Mem.tail)))).mono (fun e w2 ⟨x, h1, h2⟩ => ⟨x, trivial, h1, h2⟩)) (fun z27 _ => ?_)
      refine WD.on (closed_of (by kernel_rfl)) (fun w hS => Sx.gone rfl (Sx.none)) ?_
      refine WD.one (i := 4) (by kernel_rfl) rfl ?_
      refine WL.storeN F.agg27 rfl rfl rfl (by simp [Value.oneCell']) (by repeat (first | exact Upd.here | apply Upd.there)) (by repeat constructor) ?_
      refine WD.on (closed_of (by kernel_rfl)) (fun w hS => Sx.gone rfl (Sx.none)) ?_
      refine WD.done (by kernel_rfl) ?_
      refine WQ.block_normal ?_
      refine WQ.then_normal ?_
      refine WC.region ?_
      refine WL.step ?_
      refine WL.add rfl rfl rfl ⟨by omega, by omega⟩ ?_
      refine WL.step ?_
      refine WL.move rfl rfl ?_
      refine WL.nil ?_
      refine WQ.chunks (C' := [pt b7 [.slice z27.1.2.1 (canon z27.1.1).1.length z27.1.2.2, .int .i64 ((canon z27.1.1).2 : Int)] 27, pt b4 [.slice none 0 0, .int .i64 0] 27, z27.ch]) (fun w hS => ((St.pick (St.pick (St.pick hS (c := z27.ch) (by repeat (first | exact Rem.here | apply Rem.there))) (c := pt b4 [.slice none 0 0, .int .i64 0] 27) (by repeat (first | exact Rem.here | apply Rem.there))) (c := pt b7 [.slice z27.1.2.1 (canon z27.1.1).1.length z27.1.2.2, .int .i64 ((canon z27.1.1).2 : Int)] 27) (by repeat (first | exact Rem.here | apply Rem.there)))).sublist (List.Sublist.cons_cons _ (List.Sublist.cons_cons _ (List.Sublist.cons_cons _ (List.nil_sublist _))))) ?_
      refine WQ.back (⟨i + 1, z27.1.1, z27.1.2.1, z27.1.2.2⟩) ?_ ?_ ?_ ?_
      · exact ⟨by show i + 1 ≤ ls.length; omega, z27.2.1, fun cf => by (show z27.1.1.ev cf = _; rw [z27.2.2]; dsimp only; rw [hev, z26.2.2, List.take_add_one, hc]; simp)⟩
      · (show ls.length - (i + 1) < ls.length - i; omega)
      · exact ⟨rfl, rfl, rfl, rfl, rfl, trivial⟩
      · rfl
    · skip
      have hie : i = ls.length := by simp at h21; omega
      subst hie
      rw [List.take_length] at hev
      refine WC.exit ?_
      refine WQ.then_exit ?_
      refine WQ.then_exit ?_
      refine WQ.block_exit ?_
      refine WQ.then_normal ?_
      refine WC.seq ?_
      refine WC.region ?_
      refine WL.step ?_
      refine WL.loadW F.agg27 rfl rfl (by repeat (first | exact List.Mem.head _ | apply List.Mem.tail)) rfl ?_
      refine WL.step ?_
      refine WL.storeN F.agg27 rfl rfl rfl (by simp [Value.oneCell']) (by repeat (first | exact Upd.here | apply Upd.there)) (by repeat constructor) ?_
      refine WL.step ?_
      refine WL.assign rfl rfl ?_
      refine WL.nil ?_
      refine WQ.then_normal ?_
      refine WC.ret ?_
      refine WQ.ret (rs := [.cell 4 27, .tmp 5]) rfl (.cellN F.agg27 rfl (by repeat (first | exact List.Mem.head _ | apply List.Mem.tail)) rfl (.tmp rfl .nil)) (fun w hS => ⟨⟨(t, ad, ac), hok, hev⟩, rfl, ((St.pick hS (c := dC ad ac t) (by repeat (first | exact Rem.here | apply Rem.there)))).sublist (List.Sublist.cons_cons _ (List.nil_sublist _))⟩)

theorem Conj_out (n : Int) (ls : List (List Int)) (a : Option Addr) (cap : Nat) (us : List Value) (hm : Fm.mayE n ls ≠ 0) (w : World) (hr : RdLL w ls a us) :
    Calls Try.prog 17 [.int .i64 n, .slice a ls.length cap].toArray w fun e w' => ∃ z : DRes (fun _ => false), e = .returned (.tuple #[z.v, .int .i64 (Fm.mayE n ls)]) ∧ St w [] [z.ch] w' := by
  refine enter Try.func17 rfl Try.ntmps17 rfl (St.init _) ?_
  refine WC.seq ?_
  refine WC.region ?_
  refine WL.step ?_
  refine WL.alloc F.zero27 rfl (fun b4 => ?_)
  refine WL.step ?_
  refine WL.assign rfl rfl ?_
  refine WL.nil ?_
  refine WQ.then_normal ?_
  refine WC.seq ?_
  refine WC.seq ?_
  refine WC.region ?_
  refine WL.step ?_
  refine WL.move rfl rfl ?_
  refine WL.step ?_
  refine WL.move rfl rfl ?_
  refine WL.step ?_
  refine WL.callV F.fun41 rfl rfl (fun w hS => may_c n ls a cap us w (hr.next hS)) ?_
  refine WL.step ?_
  refine WL.assign rfl rfl ?_
  refine WL.nil ?_
  refine WQ.then_normal ?_
  refine WC.seq ?_
  refine WC.region ?_
  refine WL.step ?_
  refine WL.move rfl rfl ?_
  refine WL.step ?_
  refine WL.neI rfl rfl rfl ?_
  refine WL.nil ?_
  refine WQ.then_normal ?_
  refine WC.cond rfl (fun h14 => ?_) (fun h14 => ?_)
  · skip
    refine WC.seq ?_
    refine WC.region ?_
    refine WL.step ?_
    refine WL.build F.stT27 rfl (by repeat (first | exact Built.nil | apply Built.one rfl rfl (by repeat constructor) | apply Built.agg rfl rfl (by repeat constructor))) rfl ?_
    refine WL.step ?_
    refine WL.move rfl rfl ?_
    refine WL.step ?_
    refine WL.storeN F.agg27 rfl rfl rfl (by simp [Value.oneCell']) (by repeat (first | exact Upd.here | apply Upd.there)) (by repeat constructor) ?_
    refine WL.step ?_
    refine WL.assign rfl rfl ?_
    refine WL.nil ?_
    refine WQ.then_normal ?_
    refine WC.ret ?_
    refine WQ.then_ret ?_
    exact WQ.ret (rs := [.cell 4 27, .tmp 5]) rfl (.cellN F.agg27 rfl (by repeat (first | exact List.Mem.head _ | apply List.Mem.tail)) rfl (.tmp rfl .nil)) (fun w hS => ⟨⟨(.lf false, none, 0), trivial, fun _ => rfl⟩, rfl, (hS.drop).rowNil _ _⟩)
  · skip
    exfalso; simp at h14; exact hm h14

end Go.Proofs.Ytkgllhkhdjodeaa

namespace Fm
open Go Go.Eng
/-! ### consequences -/
/-- What follows from clauses and literals. -/
inductive Der (ls : List (List Int)) (fixed : List Int) : Int → Prop
  | fix {x : Int} (h : x ∈ fixed) : Der ls fixed x
  | unit {c : List Int} {x : Int} (hc : c ∈ ls) (hx : x ∈ c) (h : ∀ m ∈ c, m ≠ x → Der ls fixed (-m)) : Der ls fixed x
/-- There is a conflict. -/
def Conf (ls : List (List Int)) (fixed : List Int) : Prop := [] ∈ ls ∨ ∃ x, Der ls fixed x ∧ Der ls fixed (-x)

/-! the program's sets of literals -/
theorem hasK_with {k : Kn} {l z : Int} (hl : l ≠ 0) (hz : z ≠ 0) : hasK (withK k l) z = (decide (z = l) || hasK k z) := by
  unfold hasK withK
  by_cases h1 : 0 < l
  · rw [if_pos h1]
    by_cases h2 : 0 < z
    · rw [if_pos h2, if_pos h2]
      simp only [Nat.testBit_or, Nat.testBit_two_pow]
      rw [Bool.or_comm]
      congr 1
      rw [Bool.eq_iff_iff]; simp; omega
    · rw [if_neg h2, if_neg h2]
      have : ¬ z = l := by omega
      simp [this]
  · rw [if_neg h1]
    by_cases h2 : 0 < z
    · rw [if_pos h2, if_pos h2]
      have : ¬ z = l := by omega
      simp [this]
    · rw [if_neg h2, if_neg h2]
      simp only [Nat.testBit_or, Nat.testBit_two_pow]
      rw [Bool.or_comm]
      congr 1
      rw [Bool.eq_iff_iff]; simp; omega
theorem clash_iff {k : Kn} : clash k = true ↔ ∃ z : Int, 0 < z ∧ hasK k z = true ∧ hasK k (-z) = true := by
  unfold clash
  constructor
  · intro h
    have h1 : k.1 &&& k.2 ≠ 0 := by simpa using h
    obtain ⟨j, hj⟩ := Nat.exists_testBit_of_ne_zero h1
    rw [Nat.testBit_and, Bool.and_eq_true] at hj
    refine ⟨(j : Int) + 1, by omega, ?_, ?_⟩
    · unfold hasK; rw [if_pos (by omega), show ((j : Int) + 1 - 1).toNat = j by omega]; exact hj.1
    · unfold hasK; rw [if_neg (by omega), show (-(-((j : Int) + 1)) - 1).toNat = j by omega]; exact hj.2
  · rintro ⟨z, hz, h1, h2⟩
    unfold hasK at h1 h2
    rw [if_pos hz] at h1
    rw [if_neg (by omega)] at h2
    rw [show (- -z - 1).toNat = (z - 1).toNat by omega] at h2
    have h3 : (k.1 &&& k.2).testBit (z - 1).toNat = true := by rw [Nat.testBit_and, h1, h2]; rfl
    have h4 : k.1 &&& k.2 ≠ 0 := by intro h0; rw [h0] at h3; simp at h3
    simpa using h4

/-- What unit says: a literal that is open, all the others being false; 0: all are. -/
theorem unitG_true {k : Kn} : ∀ {c : List Int} {op x : Int}, (∀ m ∈ c, m ≠ 0) → unitG k op c = (x, true) → (∀ m ∈ c, hasK k m = false ∧ (hasK k (-m) = true ∨ m = x)) ∧ (op ≠ 0 → x = op) ∧ (x ≠ 0 → x = op ∨ x ∈ c)
  | [], op, x, _, h => by
    simp only [unitG, Prod.mk.injEq, and_true] at h
    subst h
    exact ⟨fun m hm => (by cases hm), fun _ => rfl, fun _ => .inl rfl⟩
  | l :: ls, op, x, h0, h => by
    have hl := h0 l (List.mem_cons_self ..)
    have hls := fun m hm => h0 m (List.mem_cons_of_mem _ hm)
    simp only [unitG] at h
    split at h
    · simp at h
    rename_i h1
    split at h
    · rename_i h2
      obtain ⟨i1, i2, i3⟩ := unitG_true hls h
      refine ⟨fun m hm => ?_, i2, fun hx => ?_⟩
      · rcases List.mem_cons.1 hm with e | hm
        · subst e
          refine ⟨by simpa using h1, ?_⟩
          simp only [Bool.or_eq_true, beq_iff_eq] at h2
          rcases h2 with h2 | h2
          · exact .inl h2
          · exact .inr (by rw [h2, i2 (by rw [← h2]; exact hl)])
        · exact i1 m hm
      · rcases i3 hx with h3 | h3
        · exact .inl h3
        · exact .inr (List.mem_cons_of_mem _ h3)
    rename_i h2
    split at h
    · simp at h
    rename_i h3
    have h3' : op = 0 := by simpa using h3
    obtain ⟨i1, i2, i3⟩ := unitG_true hls h
    refine ⟨fun m hm => ?_, fun h0 => absurd h3' h0, fun hx => ?_⟩
    · rcases List.mem_cons.1 hm with e | hm
      · subst e
        exact ⟨by simpa using h1, .inr (i2 hl).symm⟩
      · exact i1 m hm
    · exact .inr (by rw [i2 hl]; exact List.mem_cons_self ..)
/-- Whatever the set has follows. -/
def SoundK (ls : List (List Int)) (fixed : List Int) (k : Kn) : Prop := ∀ z : Int, z ≠ 0 → hasK k z = true → Der ls fixed z
theorem SoundK.unit {ls : List (List Int)} {fixed : List Int} {k : Kn} {c : List Int} (h : SoundK ls fixed k) (hc : c ∈ ls) (hn : ∀ m ∈ c, m ≠ 0) {x : Int} (hu : unitK k c = (x, true)) : (x ≠ 0 → SoundK ls fixed (withK k x)) ∧ (x = 0 → Conf ls fixed) := by
  obtain ⟨i1, i2, i3⟩ := unitG_true hn hu
  refine ⟨fun hx z hz hh => ?_, fun hx => ?_⟩
  · rw [hasK_with hx hz] at hh
    simp only [Bool.or_eq_true, decide_eq_true_eq] at hh
    rcases hh with hh | hh
    · subst hh
      rcases i3 hx with h3 | h3
      · exact absurd h3 hx
      · exact .unit hc h3 (fun m hm hne => by
          rcases (i1 m hm).2 with h4 | h4
          · exact h _ (by have := hn m hm; omega) h4
          · exact absurd h4 hne)
    · exact h z hz hh
  · cases c with
    | nil => exact .inl hc
    | cons y r =>
      have hf : ∀ m ∈ y :: r, hasK k (-m) = true := fun m hm => by
        rcases (i1 m hm).2 with h4 | h4
        · exact h4
        · exact absurd (h4.trans hx) (hn m hm)
      have hy := List.mem_cons_self (a := y) (l := r)
      refine .inr ⟨y, .unit hc hy (fun m hm _ => h _ (by have := hn m hm; omega) (hf m hm)), h _ (by have := hn y hy; omega) (hf y hy)⟩
theorem SoundK.clash {ls : List (List Int)} {fixed : List Int} {k : Kn} (h : SoundK ls fixed k) (hc : clash k = true) : Conf ls fixed := by
  obtain ⟨z, hz, h1, h2⟩ := clash_iff.1 hc
  exact .inr ⟨z, h z (by omega) h1, h (-z) (by omega) h2⟩
end Fm

namespace Fm
open Go Go.Eng
/-! ### the reference's consequences -/
def aloneB (c out : List Int) (x : Int) : Bool := !out.contains x && c.all (fun m => m == x || out.contains (-m))
def stepL (c out : List Int) (x : Int) : List Int := if aloneB c out x then out ++ [x] else out
def passC (out c : List Int) : List Int := c.foldl (stepL c) out
def consPass (ls : List (List Int)) (out : List Int) : List Int := ls.foldl passC out
def consF : Nat → List (List Int) → List Int → Option (List Int)
  | 0, _, _ => none
  | n + 1, ls, out => if (consPass ls out).length = out.length then some (consPass ls out) else consF n ls (consPass ls out)
/-- The reference's conflict. -/
def conflictB (ls : List (List Int)) (out : List Int) : Bool := ls.any (·.isEmpty) || out.any (fun x => out.contains (-x))
/-! ### that they end -/
def Rg : List Int := (List.range 65).map fun (i : Nat) => (i : Int) - 32
def openC (p : Int → Bool) : Nat := (Rg.filter p).length
def openL (out : List Int) : Nat := openC fun z => !out.contains z
def openKn (k : Kn) : Nat := openC fun z => z != 0 && !hasK k z
end Fm

namespace Go.Proofs.Ytkgllhkhdjodeaa
open Go Go.Eng Go.Proofs
theorem name_c (s : List UInt8) (w : World) : Pure Try.prog 39 [.string (str s)] w (.agg [Value.int .u8 3, .string (str s), .slice none 0 0].toArray) := by
  refine enter Try.func39 rfl Try.ntmps39 rfl (St.init _) ?_
  refine WC.seq ?_
  refine WC.region ?_
  refine WL.step ?_
  refine WL.alloc F.zero74 rfl (fun b2 => ?_)
  refine WL.nil ?_
  refine WQ.then_normal ?_
  refine WC.seq ?_
  refine WC.region ?_
  refine WL.step ?_
  refine WL.move rfl rfl ?_
  refine WL.step ?_
  refine WL.build F.stT74 rfl (by repeat (first | exact Built.nil | apply Built.one rfl rfl (by repeat constructor) | apply Built.agg rfl rfl (by repeat constructor))) rfl ?_
  refine WL.step ?_
  refine WL.storeN F.agg74 rfl rfl rfl (by simp [Value.oneCell']) (by repeat (first | exact Upd.here | apply Upd.there)) (by repeat constructor) ?_
  refine WL.nil ?_
  refine WQ.then_normal ?_
  refine WC.ret ?_
  refine WQ.ret (rs := [.cell 2 74]) rfl (.cellN F.agg74 rfl (by repeat (first | exact List.Mem.head _ | apply List.Mem.tail)) rfl .nil) (fun w hS => ⟨rfl, hS.drop⟩)

def T1 : Tree := .mk 5 [] [.mk 3 [97] [], .mk 3 [98] [], .mk 5 [] [.mk 3 [99] [], .mk 3 [100] []]]
def T2 : Tree := .mk 5 [] [.mk 6 [] [.mk 3 [97] [], .mk 3 [98] []], .mk 4 [] [.mk 3 [99] []]]
theorem top1 : Fm.top [97, 32, 38, 32, 98, 32, 38, 32, 40, 99, 32, 38, 32, 100, 41] = (T1, 0, 0) := by kernel_rfl
theorem top2 : Fm.top [97, 32, 60, 61, 62, 32, 98, 32, 60, 61, 62, 32, 99] = (Fm.zeroTree, 8, 4) := by kernel_rfl
theorem print1 : printS T2 = [40, 97, 32, 124, 32, 98, 41, 32, 38, 32, 33, 99] := by kernel_rfl
theorem valid1 : Fm.validB T2 = true := by kernel_rfl
theorem sol1 : Fm.solveF 2 20 false [[1, 2], [-1]] [] [] = some ⟨true, 2, []⟩ := by kernel_rfl
theorem sol2 : Fm.solveF 1 20 false [[1], [-1]] [] [] = some ⟨false, 0, [[]]⟩ := by kernel_rfl
theorem may1 : Fm.mayE 2 [[1, 2], [-1]] = 0 := by kernel_rfl
theorem may2 : Fm.mayE 1 [[1], [-1]] = 0 := by kernel_rfl
/-- Two clauses that the caller laid. -/
theorem RdLL.two {w0 w : World} {O : List Nat} {C : List Chunk} {b1 b2 b3 : Nat} {c1 c2 : List Int} (hS : St w0 O C w) (h1 : pt b1 (c1.map (Value.int .i64)) 3 ∈ C) (h2 : pt b2 (c2.map (Value.int .i64)) 3 ∈ C)
    (h3 : pt b3 [.slice (some ⟨b1, 0, none⟩) c1.length c1.length, .slice (some ⟨b2, 0, none⟩) c2.length c2.length] 23 ∈ C) :
    RdLL w [c1, c2] (some ⟨b3, 0, none⟩) [.slice (some ⟨b1, 0, none⟩) c1.length c1.length, .slice (some ⟨b2, 0, none⟩) c2.length c2.length] := by
  refine ⟨rfl, fun i u hu => ⟨b3, 0, rfl, by rw [Nat.zero_add]; exact hS.cell h3 hu⟩, fun i c u hc hu => ?_⟩
  match i, hc, hu with
  | 0, hc, hu =>
    simp at hc hu
    subst hc; subst hu
    exact ⟨_, _, rfl, fun j x hx => ⟨b1, 0, rfl, by rw [Nat.zero_add]; exact hS.cell h1 (by simp [hx])⟩⟩
  | 1, hc, hu =>
    simp at hc hu
    subst hc; subst hu
    exact ⟨_, _, rfl, fun j x hx => ⟨b2, 0, rfl, by rw [Nat.zero_add]; exact hS.cell h2 (by simp [hx])⟩⟩
  | i + 2, hc, hu => simp at hc

theorem wakes_c (w : World) : Pure Try.prog 13 [] w (.bool true) := by
  refine enter Try.func13 rfl Try.ntmps13 rfl (St.init _) ?_
  refine WC.seq ?_
  refine WC.region ?_
  refine WL.step ?_
  refine WL.assign rfl rfl ?_
  refine WL.nil ?_
  refine WQ.then_normal ?_
  refine WC.seq ?_
  refine WC.region ?_
  refine WL.step ?_
  refine WL.callC (β := List Nat × Option Addr × Nat) (res := fun y => .tuple #[tv T1 y.2.1 y.2.2, .int .i64 0, .int .i64 0]) (cs := fun y => [own y.1 T1 (tv T1 y.2.1 y.2.2)]) (Cs := []) (O' := []) F.fun37 (fun d h => by cases h; rfl) rfl (List.Perm.refl _) (by simp) (by simp) (fun w hS _ => (Parse_c [97, 32, 38, 32, 98, 32, 38, 32, 40, 99, 32, 38, 32, 100, 41] w).mono (fun e w2 h => ?_)) (fun y14 => ?_)
  · rw [top1] at h
    exact h
  refine WL.step ?_
  refine WL.move rfl rfl ?_
  refine WL.step ?_
  refine WL.extract rfl rfl rfl ?_
  refine WL.step ?_
  refine WL.extract rfl rfl rfl ?_
  refine WL.step ?_
  refine WL.extract rfl rfl rfl ?_
  refine WL.step ?_
  refine WL.alloc F.zero74 rfl (fun b1 => ?_)
  refine WL.step ?_
  refine WL.storeN F.agg74 rfl rfl rfl (by simp [Value.oneCell']) (by repeat (first | exact Upd.here | apply Upd.there)) (by repeat constructor) ?_
  refine WL.step ?_
  refine WL.assign rfl rfl ?_
  refine WL.step ?_
  refine WL.assign rfl rfl ?_
  refine WL.nil ?_
  refine WQ.then_normal ?_
  refine WC.seq ?_
  refine WC.region ?_
  refine WL.step ?_
  refine WL.callV F.fun39 rfl rfl (fun w _ => name_c [97] w) ?_
  refine WL.step ?_
  refine WL.callV F.fun39 rfl rfl (fun w _ => name_c [98] w) ?_
  refine WL.step ?_
  refine WL.buildSlice F.sl72 F.ez72 rfl rfl rfl rfl (by repeat (first | exact Built.nil | apply Built.one rfl rfl (by repeat constructor) | apply Built.agg rfl rfl (by repeat constructor))) rfl (fun b21 => ?_)
  refine WL.step ?_
  refine WL.build F.stT74 rfl (by repeat (first | exact Built.nil | apply Built.one rfl rfl (by repeat constructor) | apply Built.agg rfl rfl (by repeat constructor))) rfl ?_
  refine WL.step ?_
  refine WL.callV F.fun39 rfl rfl (fun w _ => name_c [99] w) ?_
  refine WL.step ?_
  refine WL.buildSlice F.sl72 F.ez72 rfl rfl rfl rfl (by repeat (first | exact Built.nil | apply Built.one rfl rfl (by repeat constructor) | apply Built.agg rfl rfl (by repeat constructor))) rfl (fun b24 => ?_)
  refine WL.step ?_
  refine WL.build F.stT74 rfl (by repeat (first | exact Built.nil | apply Built.one rfl rfl (by repeat constructor) | apply Built.agg rfl rfl (by repeat constructor))) rfl ?_
  refine WL.step ?_
  refine WL.buildSlice F.sl72 F.ez72 rfl rfl rfl rfl (by repeat (first | exact Built.nil | apply Built.one rfl rfl (by repeat constructor) | apply Built.agg rfl rfl (by repeat constructor))) rfl (fun b26 => ?_)
  refine WL.step ?_
  refine WL.build F.stT74 rfl (by repeat (first | exact Built.nil | apply Built.one rfl rfl (by repeat constructor) | apply Built.agg rfl rfl (by repeat constructor))) rfl ?_
  refine WA.chunksE (C' := fun x : List Nat => [own x T2 (.agg #[.int .u8 5, .string (str []), .slice (some ⟨b26, 0, none⟩) 2 2]), pt b1 [.int .u8 T1.op, .string (str T1.name), .slice y14.2.1 T1.kids.length y14.2.2] 74]) (fun w hS => ?_) (fun G => ?_)
  · have a1 := St.node0 3 [98] (St.node0 3 [97] hS)
    have a2 := St.pick a1 (c := own [] (Tree.mk 3 [97] []) (.agg #[.int .u8 3, .string (str [97]), .slice none 0 0])) (by repeat (first | exact Rem.here | apply Rem.there))
    obtain ⟨F1, a3⟩ := St.node2 6 (t1 := Tree.mk 3 [97] []) (t2 := Tree.mk 3 [98] []) (a1 := none) (a2 := none) (c1 := 0) (c2 := 0) (St.pick a2 (c := pt b21 [.int .u8 3, .string (str [97]), .slice none 0 0, .int .u8 3, .string (str [98]), .slice none 0 0] 74) (by repeat (first | exact Rem.here | apply Rem.there)))
    have a4 := St.node0 3 [99] a3
    obtain ⟨F2, a5⟩ := St.node1 4 (t1 := Tree.mk 3 [99] []) (a1 := none) (c1 := 0) (St.pick a4 (c := pt b24 [.int .u8 3, .string (str [99]), .slice none 0 0] 74) (by repeat (first | exact Rem.here | apply Rem.there)))
    have a6 := St.pick a5 (c := own F1 (.mk 6 [] [Tree.mk 3 [97] [], Tree.mk 3 [98] []]) (.agg #[.int .u8 6, .string (str []), .slice (some ⟨b21, 0, none⟩) 2 2])) (by repeat (first | exact Rem.here | apply Rem.there))
    obtain ⟨F3, a7⟩ := St.node2 5 (t1 := .mk 6 [] [Tree.mk 3 [97] [], Tree.mk 3 [98] []]) (t2 := .mk 4 [] [Tree.mk 3 [99] []]) (a1 := some ⟨b21, 0, none⟩) (a2 := some ⟨b24, 0, none⟩) (c1 := 2) (c2 := 1) (St.pick a6 (c := pt b26 [.int .u8 6, .string (str []), .slice (some ⟨b21, 0, none⟩) 2 2, .int .u8 4, .string (str []), .slice (some ⟨b24, 0, none⟩) 1 1] 74) (by repeat (first | exact Rem.here | apply Rem.there)))
    exact ⟨F3, ((St.pick (St.pick a7 (c := pt b1 [.int .u8 T1.op, .string (str T1.name), .slice y14.2.1 T1.kids.length y14.2.2] 74) (by repeat (first | exact Rem.here | apply Rem.there))) (c := own F3 T2 (.agg #[.int .u8 5, .string (str []), .slice (some ⟨b26, 0, none⟩) 2 2])) (by repeat (first | exact Rem.here | apply Rem.there)))).two2⟩
  refine WL.step ?_
  refine WL.callV (v := .tuple #[.string (str [40, 97, 32, 124, 32, 98, 41, 32, 38, 32, 33, 99]), .int .i64 0]) F.fun38 rfl rfl (fun w hS => by have h9 := Print_c T2 G (some ⟨b26, 0, none⟩) 2 w (hS.ok _ (List.Mem.head _)).2; rw [print1, valid1] at h9; exact h9) ?_
  refine WL.step ?_
  refine WL.move rfl rfl ?_
  refine WL.step ?_
  refine WL.extract rfl rfl rfl ?_
  refine WL.step ?_
  refine WL.extract rfl rfl rfl ?_
  refine WL.step ?_
  refine WL.assign rfl rfl ?_
  refine WL.step ?_
  refine WL.assign rfl rfl ?_
  refine WL.nil ?_
  refine WQ.then_normal ?_
  refine WC.seq ?_
  refine WC.region ?_
  refine WL.step ?_
  refine WL.callC (β := List Nat × Option Addr × Nat) (res := fun y => .tuple #[tv Fm.zeroTree y.2.1 y.2.2, .int .i64 8, .int .i64 4]) (cs := fun y => [own y.1 Fm.zeroTree (tv Fm.zeroTree y.2.1 y.2.2)]) (Cs := []) (O' := []) F.fun37 (fun d h => by cases h; rfl) rfl (List.Perm.refl _) (by simp) (by simp) (fun w hS _ => (Parse_c [97, 32, 60, 61, 62, 32, 98, 32, 60, 61, 62, 32, 99] w).mono (fun e w2 h => ?_)) (fun y32 => ?_)
  · rw [top2] at h
    exact h
  refine WL.step ?_
  refine WL.move rfl rfl ?_
  refine WL.step ?_
  refine WL.extract rfl rfl rfl ?_
  refine WL.step ?_
  refine WL.extract rfl rfl rfl ?_
  refine WL.step ?_
  refine WL.extract rfl rfl rfl ?_
  refine WL.step ?_
  refine WL.alloc F.zero74 rfl (fun b6 => ?_)
  refine WL.step ?_
  refine WL.storeN F.agg74 rfl rfl rfl (by simp [Value.oneCell']) (by repeat (first | exact Upd.here | apply Upd.there)) (by repeat constructor) ?_
  refine WL.step ?_
  refine WL.assign rfl rfl ?_
  refine WL.step ?_
  refine WL.assign rfl rfl ?_
  refine WL.nil ?_
  refine WQ.then_normal ?_
  refine WC.seq ?_
  refine WC.region ?_
  refine WL.step ?_
  refine WL.buildSlice F.sl23 F.ez23 rfl rfl rfl rfl (by repeat (first | exact Built.nil | apply Built.one rfl rfl (by repeat constructor) | apply Built.agg rfl rfl (by repeat constructor))) rfl (fun b37 => ?_)
  refine WL.step ?_
  refine WL.buildSlice F.sl23 F.ez23 rfl rfl rfl rfl (by repeat (first | exact Built.nil | apply Built.one rfl rfl (by repeat constructor) | apply Built.agg rfl rfl (by repeat constructor))) rfl (fun b38 => ?_)
  refine WL.step ?_
  refine WL.buildSlice F.sl33 F.ez33 rfl rfl rfl rfl (by repeat (first | exact Built.nil | apply Built.one rfl rfl (by repeat constructor) | apply Built.agg rfl rfl (by repeat constructor))) rfl (fun b39 => ?_)
  refine WL.step ?_
  refine WL.callC (β := Option Addr × Nat) (res := fun x => .tuple #[.agg #[.bool true, .int .u32 2, .slice x.1 0 x.2], .int .i64 0]) (cs := fun _ => []) (Cs := []) (O' := []) F.fun16 (fun d h => by cases h; rfl) rfl (List.Perm.refl _) (by simp) (by simp) (fun w hS _ => (Solve_c 2 [[1, 2], [-1]] (some ⟨b39, 0, none⟩) 2 _ (.inr ⟨_, _, rfl⟩) w (RdLL.two (b1 := b37) (b2 := b38) (b3 := b39) (c1 := [1, 2]) (c2 := [-1]) hS (by repeat (first | exact List.Mem.head _ | apply List.Mem.tail)) (by repeat (first | exact List.Mem.head _ | apply List.Mem.tail)) (by repeat (first | exact List.Mem.head _ | apply List.Mem.tail))) 20 ⟨true, 2, []⟩ (by decide) (fun n hn _ => ?_)).mono (fun e w2 h => ?_)) (fun x40 => ?_)
  · have : n = 2 := by omega
    subst this
    exact sol1
  · rcases h with h | h
    · exact absurd may1 h.1
    · obtain ⟨_, x, F, vs, h1, h2⟩ := h
      exact ⟨x, h1, h2.sublist (List.nil_sublist _)⟩
  refine WL.step ?_
  refine WL.move rfl rfl ?_
  refine WL.step ?_
  refine WL.extract rfl rfl rfl ?_
  refine WL.step ?_
  refine WL.extract rfl rfl rfl ?_
  refine WL.step ?_
  refine WL.alloc F.zero41 rfl (fun b9 => ?_)
  refine WL.step ?_
  refine WL.storeN F.agg41 rfl rfl rfl (by simp [Value.oneCell']) (by repeat (first | exact Upd.here | apply Upd.there)) (by repeat constructor) ?_
  refine WL.step ?_
  refine WL.assign rfl rfl ?_
  refine WL.nil ?_
  refine WQ.then_normal ?_
  refine WC.seq ?_
  refine WC.region ?_
  refine WL.step ?_
  refine WL.buildSlice F.sl23 F.ez23 rfl rfl rfl rfl (by repeat (first | exact Built.nil | apply Built.one rfl rfl (by repeat constructor) | apply Built.agg rfl rfl (by repeat constructor))) rfl (fun b44 => ?_)
  refine WL.step ?_
  refine WL.buildSlice F.sl23 F.ez23 rfl rfl rfl rfl (by repeat (first | exact Built.nil | apply Built.one rfl rfl (by repeat constructor) | apply Built.agg rfl rfl (by repeat constructor))) rfl (fun b45 => ?_)
  refine WL.step ?_
  refine WL.buildSlice F.sl33 F.ez33 rfl rfl rfl rfl (by repeat (first | exact Built.nil | apply Built.one rfl rfl (by repeat constructor) | apply Built.agg rfl rfl (by repeat constructor))) rfl (fun b46 => ?_)
  refine WL.step ?_
  refine WL.callC (β := Option Addr × Nat) (res := fun x => .tuple #[.agg #[.bool false, .int .u32 0, .slice x.1 1 x.2], .int .i64 0]) (cs := fun _ => []) (Cs := []) (O' := []) F.fun16 (fun d h => by cases h; rfl) rfl (List.Perm.refl _) (by simp) (by simp) (fun w hS _ => (Solve_c 1 [[1], [-1]] (some ⟨b46, 0, none⟩) 2 _ (.inr ⟨_, _, rfl⟩) w (RdLL.two (b1 := b44) (b2 := b45) (b3 := b46) (c1 := [1]) (c2 := [-1]) hS (by repeat (first | exact List.Mem.head _ | apply List.Mem.tail)) (by repeat (first | exact List.Mem.head _ | apply List.Mem.tail)) (by repeat (first | exact List.Mem.head _ | apply List.Mem.tail))) 20 ⟨false, 0, [[]]⟩ (by decide) (fun n hn _ => ?_)).mono (fun e w2 h => ?_)) (fun x47 => ?_)
  · have : n = 1 := by omega
    subst this
    exact sol2
  · rcases h with h | h
    · exact absurd may2 h.1
    · obtain ⟨_, x, F, vs, h1, h2⟩ := h
      exact ⟨x, h1, h2.sublist (List.nil_sublist _)⟩
  refine WL.step ?_
  refine WL.move rfl rfl ?_
  refine WL.step ?_
  refine WL.extract rfl rfl rfl ?_
  refine WL.step ?_
  refine WL.extract rfl rfl rfl ?_
  refine WL.step ?_
  refine WL.alloc F.zero41 rfl (fun b11 => ?_)
  refine WL.step ?_
  refine WL.storeN F.agg41 rfl rfl rfl (by simp [Value.oneCell']) (by repeat (first | exact Upd.here | apply Upd.there)) (by repeat constructor) ?_
  refine WL.step ?_
  refine WL.assign rfl rfl ?_
  refine WL.nil ?_
  refine WQ.then_normal ?_
  refine WC.seq ?_
  refine WC.region ?_
  refine WL.step ?_
  refine WL.move rfl rfl ?_
  refine WL.step ?_
  refine WL.eqI rfl rfl rfl ?_
  refine WL.step ?_
  refine WL.move rfl rfl ?_
  refine WA.splitB (i := 52) rfl (fun g52 => ?_) (fun g52 => ?_)
  · skip
    refine WL.step (WL.guardT rfl rfl rfl ?_)
    refine WL.move rfl rfl ?_
    refine WL.step (WL.guardT rfl rfl rfl ?_)
    refine WL.eqI rfl rfl rfl ?_
    refine WL.step ?_
    refine WL.pickT rfl rfl rfl ?_
    refine WL.step ?_
    refine WL.move rfl rfl ?_
    refine WA.splitB (i := 56) rfl (fun g56 => ?_) (fun g56 => ?_)
    · skip
      refine WL.step (WL.guardT rfl rfl rfl ?_)
      refine WL.fieldAddr0 F.fld74_0 rfl rfl ?_
      refine WL.step (WL.guardT rfl rfl rfl ?_)
      refine WL.loadP F.one5 rfl rfl (by repeat (first | exact List.Mem.head _ | apply List.Mem.tail)) rfl ?_
      refine WL.step (WL.guardT rfl rfl rfl ?_)
      refine WL.eqI rfl rfl rfl ?_
      refine WL.step ?_
      refine WL.pickT rfl rfl rfl ?_
      refine WL.step ?_
      refine WL.move rfl rfl ?_
      refine WA.splitB (i := 61) rfl (fun g61 => ?_) (fun g61 => ?_)
      · skip
        refine WL.step (WL.guardT rfl rfl rfl ?_)
        refine WL.fieldAddr0 F.fld74_2 rfl rfl ?_
        refine WL.step (WL.guardT rfl rfl rfl ?_)
        refine WL.loadP F.one72 rfl rfl (by repeat (first | exact List.Mem.head _ | apply List.Mem.tail)) rfl ?_
        refine WL.step (WL.guardT rfl rfl rfl ?_)
        refine WL.lenSl F.und72 rfl rfl ?_
        refine WL.step (WL.guardT rfl rfl rfl ?_)
        refine WL.eqI rfl rfl rfl ?_
        refine WL.step ?_
        refine WL.pickT rfl rfl rfl ?_
        refine WL.step ?_
        refine WL.move rfl rfl ?_
        refine WA.splitB (i := 67) rfl (fun g67 => ?_) (fun g67 => ?_)
        · skip
          refine WL.step (WL.guardT rfl rfl rfl ?_)
          refine WL.move rfl rfl ?_
          refine WL.step (WL.guardT rfl rfl rfl ?_)
          refine WL.eqI rfl rfl rfl ?_
          refine WL.step ?_
          refine WL.pickT rfl rfl rfl ?_
          refine WL.step ?_
          refine WL.move rfl rfl ?_
          refine WA.splitB (i := 71) rfl (fun g71 => ?_) (fun g71 => ?_)
          · skip
            refine WL.step (WL.guardT rfl rfl rfl ?_)
            refine WL.move rfl rfl ?_
            refine WL.step (WL.guardT rfl rfl rfl ?_)
            refine WL.eqS rfl rfl rfl ?_
            refine WL.step ?_
            refine WL.pickT rfl rfl rfl ?_
            refine WL.step ?_
            refine WL.move rfl rfl ?_
            refine WA.splitB (i := 75) rfl (fun g75 => ?_) (fun g75 => ?_)
            · skip
              refine WL.step (WL.guardT rfl rfl rfl ?_)
              refine WL.move rfl rfl ?_
              refine WL.step (WL.guardT rfl rfl rfl ?_)
              refine WL.eqI rfl rfl rfl ?_
              refine WL.step ?_
              refine WL.pickT rfl rfl rfl ?_
              refine WL.step ?_
              refine WL.move rfl rfl ?_
              refine WA.splitB (i := 79) rfl (fun g79 => ?_) (fun g79 => ?_)
              · skip
                refine WL.step (WL.guardT rfl rfl rfl ?_)
                refine WL.move rfl rfl ?_
                refine WL.step (WL.guardT rfl rfl rfl ?_)
                refine WL.eqI rfl rfl rfl ?_
                refine WL.step ?_
                refine WL.pickT rfl rfl rfl ?_
                refine WL.step ?_
                refine WL.move rfl rfl ?_
                refine WA.splitB (i := 83) rfl (fun g83 => ?_) (fun g83 => ?_)
                · skip
                  refine WL.step (WL.guardT rfl rfl rfl ?_)
                  refine WL.move rfl rfl ?_
                  refine WL.step (WL.guardT rfl rfl rfl ?_)
                  refine WL.eqI rfl rfl rfl ?_
                  refine WL.step ?_
                  refine WL.pickT rfl rfl rfl ?_
                  refine WL.step ?_
                  refine WL.move rfl rfl ?_
                  refine WA.splitB (i := 87) rfl (fun g87 => ?_) (fun g87 => ?_)
                  · skip
                    refine WL.step (WL.guardT rfl rfl rfl ?_)
                    refine WL.fieldAddr0 F.fld41_0 rfl rfl ?_
                    refine WL.step (WL.guardT rfl rfl rfl ?_)
                    refine WL.loadP F.one4 rfl rfl (by repeat (first | exact List.Mem.head _ | apply List.Mem.tail)) rfl ?_
                    refine WL.step ?_
                    refine WL.pickT rfl rfl rfl ?_
                    refine WL.step ?_
                    refine WL.move rfl rfl ?_
                    refine WA.splitB (i := 91) rfl (fun g91 => ?_) (fun g91 => ?_)
                    · skip
                      refine WL.step (WL.guardT rfl rfl rfl ?_)
                      refine WL.fieldAddr0 F.fld41_1 rfl rfl ?_
                      refine WL.step (WL.guardT rfl rfl rfl ?_)
                      refine WL.loadP F.one22 rfl rfl (by repeat (first | exact List.Mem.head _ | apply List.Mem.tail)) rfl ?_
                      refine WL.step (WL.guardT rfl rfl rfl ?_)
                      refine WL.eqI rfl rfl rfl ?_
                      refine WL.step ?_
                      refine WL.pickT rfl rfl rfl ?_
                      refine WL.step ?_
                      refine WL.move rfl rfl ?_
                      refine WA.splitB (i := 96) rfl (fun g96 => ?_) (fun g96 => ?_)
                      · skip
                        refine WL.step (WL.guardT rfl rfl rfl ?_)
                        refine WL.move rfl rfl ?_
                        refine WL.step (WL.guardT rfl rfl rfl ?_)
                        refine WL.eqI rfl rfl rfl ?_
                        refine WL.step ?_
                        refine WL.pickT rfl rfl rfl ?_
                        refine WL.step ?_
                        refine WL.move rfl rfl ?_
                        refine WA.splitB (i := 100) rfl (fun g100 => ?_) (fun g100 => ?_)
                        · skip
                          refine WL.step (WL.guardT rfl rfl rfl ?_)
                          refine WL.fieldAddr0 F.fld41_0 rfl rfl ?_
                          refine WL.step (WL.guardT rfl rfl rfl ?_)
                          refine WL.loadP F.one4 rfl rfl (by repeat (first | exact List.Mem.head _ | apply List.Mem.tail)) rfl ?_
                          refine WL.step (WL.guardT rfl rfl rfl ?_)
                          refine WL.not rfl rfl ?_
                          refine WL.step ?_
                          refine WL.pickT rfl rfl rfl ?_
                          refine WL.step ?_
                          refine WL.move rfl rfl ?_
                          refine WA.splitB (i := 105) rfl (fun g105 => ?_) (fun g105 => ?_)
                          · skip
                            refine WL.step (WL.guardT rfl rfl rfl ?_)
                            refine WL.fieldAddr0 F.fld41_2 rfl rfl ?_
                            refine WL.step (WL.guardT rfl rfl rfl ?_)
                            refine WL.loadP F.one33 rfl rfl (by repeat (first | exact List.Mem.head _ | apply List.Mem.tail)) rfl ?_
                            refine WL.step (WL.guardT rfl rfl rfl ?_)
                            refine WL.lenSl F.und33 rfl rfl ?_
                            refine WL.step (WL.guardT rfl rfl rfl ?_)
                            refine WL.gtI rfl rfl rfl ?_
                            refine WL.step ?_
                            refine WL.pickT rfl rfl rfl ?_
                            refine WL.step ?_
                            refine WL.assign rfl rfl ?_
                            refine WL.nil ?_
                            refine WQ.then_normal ?_
                            refine WC.ret ?_
                            exact WQ.ret (rs := [.tmp 0]) rfl (.tmp rfl .nil) (fun w hS => ⟨rfl, hS.sublist (List.nil_sublist _)⟩)
                          · skip
                            exact absurd g105 (by decide)
                        · skip
                          exact absurd g100 (by decide)
                      · skip
                        exact absurd g96 (by decide)
                    · skip
                      exact absurd g91 (by decide)
                  · skip
                    exact absurd g87 (by decide)
                · skip
                  exact absurd g83 (by decide)
              · skip
                exact absurd g79 (by decide)
            · skip
              exact absurd g75 (by decide)
          · skip
            exact absurd g71 (by decide)
        · skip
          exact absurd g67 (by decide)
      · skip
        exact absurd g61 (by decide)
    · skip
      exact absurd g56 (by decide)
  · skip
    exact absurd g52 (by decide)

end Go.Proofs.Ytkgllhkhdjodeaa

namespace Go.Proofs.Ytkgllhkhdjodeaa
open Go Go.Eng Go.Proofs
theorem rfits_c (n : Int) (l : List Int) (a : Option Addr) (cap : Nat) (hn : -1000 ≤ n ∧ n ≤ 1000) (hlen : l.length ≤ 1099511627776) (w : World) (hr : RdC w l a) : Pure Try.prog 40 [.int .i64 n, .slice a l.length cap] w (.bool (Fm.fitsB n l)) := by
  refine enter Try.func40 rfl Try.ntmps40 rfl (St.init _) ?_
  refine WC.seq ?_
  refine WC.region ?_
  refine WL.step ?_
  refine WL.assign rfl rfl ?_
  refine WL.nil ?_
  refine WQ.then_normal ?_
  refine WC.seq ?_
  refine WC.seq ?_
  refine WC.region ?_
  refine WL.step ?_
  refine WL.assign rfl rfl ?_
  refine WL.nil ?_
  refine WQ.then_normal ?_
  refine WC.block ?_
  refine WC.loop (α := Nat) (fun i => i ≤ l.length ∧ (l.take i).all (Fm.litB n) = true) (fun i => [(0, .int .i64 n), (1, .slice a l.length cap), (5, .int .i64 (i : Int))]) (fun _ => []) (fun i => l.length - i) (0) ?_ ?_ ?_ ?_
  · exact ⟨Nat.zero_le _, rfl⟩
  · exact ⟨rfl, rfl, rfl, trivial⟩
  · rfl
  rintro i ⟨hi, hal⟩
  refine WC.seq ?_
  refine WC.seq ?_
  refine WC.region ?_
  refine WL.step ?_
  refine WL.move rfl rfl ?_
  refine WL.step ?_
  refine WL.move rfl rfl ?_
  refine WL.step ?_
  refine WL.lenSl F.und23 rfl rfl ?_
  refine WL.step ?_
  refine WL.ltI rfl rfl rfl ?_
  refine WL.nil ?_
  refine WQ.then_normal ?_
  refine WC.cond rfl (fun h9 => ?_) (fun h9 => ?_)
  · skip
    have hlt : i < l.length := by simpa using h9
    obtain ⟨y, hx⟩ : ∃ y, l[i]? = some y := ⟨_, List.getElem?_eq_getElem hlt⟩
    obtain ⟨b, off, rfl, hcell⟩ := hr i y hx
    refine WC.skip ?_
    refine WQ.then_normal ?_
    refine WC.seq ?_
    refine WC.block ?_
    refine WC.seq ?_
    refine WC.cutF [(33, .bool (!Fm.litB n y)), (0, .int .i64 n), (1, .slice (some ⟨b, off, none⟩) l.length cap), (5, .int .i64 (i : Int))] (fun Q' hQ => ?_) ?_
    · skip
      refine WC.region ?_
      refine WL.step ?_
      refine WL.move rfl rfl ?_
      refine WL.step ?_
      refine WL.move rfl rfl ?_
      refine WL.step ?_
      refine WL.indexAddr F.sl23 rfl rfl rfl hlt ?_
      refine WL.step ?_
      refine WL.load1 F.one3 rfl rfl (v := .int .i64 y) (fun w hS => hS.oldc (by simpa using hcell) (by simp)) ?_
      refine WL.step ?_
      refine WL.eqI rfl rfl rfl ?_
      refine WL.step ?_
      refine WL.move rfl rfl ?_
      refine WA.splitB (i := 17) rfl (fun g17 => ?_) (fun g17 => ?_)
      · skip
        refine WL.step (WL.guardF rfl rfl rfl rfl rfl rfl ?_)
        refine WL.step (WL.guardF rfl rfl rfl rfl rfl rfl ?_)
        refine WL.step (WL.guardF rfl rfl rfl rfl rfl rfl ?_)
        refine WL.step (WL.guardF rfl rfl rfl rfl rfl rfl ?_)
        refine WL.step (WL.guardF rfl rfl rfl rfl rfl rfl ?_)
        refine WL.step (WL.guardF rfl rfl rfl rfl rfl rfl ?_)
        refine WL.step (WL.guardF rfl rfl rfl rfl rfl rfl ?_)
        refine WL.step ?_
        refine WL.pickT rfl rfl rfl ?_
        refine WL.step ?_
        refine WL.move rfl rfl ?_
        refine WL.step (WL.guardF rfl rfl rfl rfl rfl rfl ?_)
        refine WL.step (WL.guardF rfl rfl rfl rfl rfl rfl ?_)
        refine WL.step (WL.guardF rfl rfl rfl rfl rfl rfl ?_)
        refine WL.step (WL.guardF rfl rfl rfl rfl rfl rfl ?_)
        refine WL.step (WL.guardF rfl rfl rfl rfl rfl rfl ?_)
        refine WL.step (WL.guardF rfl rfl rfl rfl rfl rfl ?_)
        refine WL.step ?_
        refine WL.pickT rfl rfl rfl ?_
        refine WL.nil ?_
        refine WQ.byCut hQ (subF_bool ?_ ⟨rfl, rfl, rfl, trivial⟩ rfl)
        unfold Fm.litB
        first | (simp_all; done) | (rw [Bool.eq_iff_iff]; simp at *; omega) | (simp_all; omega)
      · skip
        refine WL.step (WL.guardT rfl rfl rfl ?_)
        refine WL.move rfl rfl ?_
        refine WL.step (WL.guardT rfl rfl rfl ?_)
        refine WL.move rfl rfl ?_
        refine WL.step (WL.guardT rfl rfl rfl ?_)
        refine WL.indexAddr F.sl23 rfl rfl rfl hlt ?_
        refine WL.step (WL.guardT rfl rfl rfl ?_)
        refine WL.load1 F.one3 rfl rfl (v := .int .i64 y) (fun w hS => hS.oldc (by simpa using hcell) (by simp)) ?_
        refine WL.step (WL.guardT rfl rfl rfl ?_)
        refine WL.move rfl rfl ?_
        refine WL.step (WL.guardT rfl rfl rfl ?_)
        refine WL.negI rfl rfl (by omega) ?_
        refine WL.step (WL.guardT rfl rfl rfl ?_)
        refine WL.ltI rfl rfl rfl ?_
        refine WL.step ?_
        refine WL.pickF rfl rfl rfl ?_
        refine WL.step ?_
        refine WL.move rfl rfl ?_
        refine WA.splitB (i := 26) rfl (fun g26 => ?_) (fun g26 => ?_)
        · skip
          refine WL.step (WL.guardF rfl rfl rfl rfl rfl rfl ?_)
          refine WL.step (WL.guardF rfl rfl rfl rfl rfl rfl ?_)
          refine WL.step (WL.guardF rfl rfl rfl rfl rfl rfl ?_)
          refine WL.step (WL.guardF rfl rfl rfl rfl rfl rfl ?_)
          refine WL.step (WL.guardF rfl rfl rfl rfl rfl rfl ?_)
          refine WL.step (WL.guardF rfl rfl rfl rfl rfl rfl ?_)
          refine WL.step ?_
          refine WL.pickT rfl rfl rfl ?_
          refine WL.nil ?_
          refine WQ.byCut hQ (subF_bool ?_ ⟨rfl, rfl, rfl, trivial⟩ rfl)
          unfold Fm.litB
          first | (simp_all; done) | (rw [Bool.eq_iff_iff]; simp at *; omega) | (simp_all; omega)
        · skip
          refine WL.step (WL.guardT rfl rfl rfl ?_)
          refine WL.move rfl rfl ?_
          refine WL.step (WL.guardT rfl rfl rfl ?_)
          refine WL.move rfl rfl ?_
          refine WL.step (WL.guardT rfl rfl rfl ?_)
          refine WL.indexAddr F.sl23 rfl rfl rfl hlt ?_
          refine WL.step (WL.guardT rfl rfl rfl ?_)
          refine WL.load1 F.one3 rfl rfl (v := .int .i64 y) (fun w hS => hS.oldc (by simpa using hcell) (by simp)) ?_
          refine WL.step (WL.guardT rfl rfl rfl ?_)
          refine WL.move rfl rfl ?_
          refine WL.step (WL.guardT rfl rfl rfl ?_)
          refine WL.gtI rfl rfl rfl ?_
          refine WL.step ?_
          refine WL.pickF rfl rfl rfl ?_
          refine WL.nil ?_
          refine WQ.byCut hQ (subF_bool ?_ ⟨rfl, rfl, rfl, trivial⟩ rfl)
          unfold Fm.litB
          first | (simp_all; done) | (rw [Bool.eq_iff_iff]; simp at *; omega) | (simp_all; omega)
    refine WQ.then_normal ?_
    refine WC.cond rfl (fun h33 => ?_) (fun h33 => ?_)
    · skip
      refine WC.seq ?_
      refine WC.region ?_
      refine WL.step ?_
      refine WL.assign rfl rfl ?_
      refine WL.nil ?_
      refine WQ.then_normal ?_
      refine WC.ret ?_
      refine WQ.block_ret ?_
      refine WQ.then_ret ?_
      refine WQ.then_ret ?_
      refine WQ.block_ret ?_
      refine WQ.then_ret ?_
      refine WQ.ret (rs := [.tmp 4]) rfl (.tmp rfl .nil) (fun w hS => ⟨?_, hS⟩)
      have h9 : l.all (Fm.litB n) = false := by rw [List.all_eq_false]; exact ⟨y, List.mem_of_getElem? hx, by simpa using h33⟩
      simp [tup, Fm.fitsB, h9]
    · skip
      refine WC.skip ?_
      refine WQ.block_normal ?_
      refine WQ.then_normal ?_
      refine WC.region ?_
      refine WL.step ?_
      refine WL.move rfl rfl ?_
      refine WL.step ?_
      refine WL.add rfl rfl rfl ⟨by omega, by omega⟩ ?_
      refine WL.step ?_
      refine WL.assign rfl rfl ?_
      refine WL.nil ?_
      refine WQ.back (i + 1) ?_ ?_ ?_ ?_
      · exact ⟨by omega, by rw [List.take_add_one, hx]; simp only [Option.toList, List.all_append, hal, List.all_cons, List.all_nil, Bool.true_and, Bool.and_true]; simpa using h33⟩
      · omega
      · exact ⟨rfl, rfl, rfl, trivial⟩
      · rfl
  · skip
    have hie : i = l.length := by simp at h9; omega
    subst hie
    rw [List.take_length] at hal
    refine WC.exit ?_
    refine WQ.then_exit ?_
    refine WQ.then_exit ?_
    refine WQ.block_exit ?_
    refine WQ.then_normal ?_
    refine WC.seq ?_
    refine WC.region ?_
    refine WL.step ?_
    refine WL.move rfl rfl ?_
    refine WL.step ?_
    refine WL.lenSl F.und23 rfl rfl ?_
    refine WL.step ?_
    refine WL.leI rfl rfl rfl ?_
    refine WL.step ?_
    refine WL.assign rfl rfl ?_
    refine WL.nil ?_
    refine WQ.then_normal ?_
    refine WC.ret ?_
    refine WQ.ret (rs := [.tmp 4]) rfl (.tmp rfl .nil) (fun w hS => ⟨?_, hS⟩)
    have h9 : decide ((l.length : Int) ≤ 64) = decide (l.length ≤ 64) := by rw [Bool.eq_iff_iff]; simp; omega
    simp [tup, Fm.fitsB, hal, h9]

theorem rclauses_c (n : Int) (ls : List (List Int)) (a : Option Addr) (cap : Nat) (us : List Value) (hll : ls.length ≤ 1099511627776) (hlens : ∀ c ∈ ls, c.length ≤ 1099511627776) (w : World) (hr : RdLL w ls a us) : Pure Try.prog 15 [.int .i64 n, .slice a ls.length cap] w (.int .i64 (Fm.mayE n ls)) := by
  refine enter Try.func15 rfl Try.ntmps15 rfl (St.init _) ?_
  refine WC.seq ?_
  refine WC.region ?_
  refine WL.step ?_
  refine WL.assign rfl rfl ?_
  refine WL.nil ?_
  refine WQ.then_normal ?_
  refine WC.seq ?_
  refine WC.seq ?_
  refine WC.region ?_
  refine WL.step ?_
  refine WL.move rfl rfl ?_
  refine WL.step ?_
  refine WL.ltI rfl rfl rfl ?_
  refine WL.step ?_
  refine WL.move rfl rfl ?_
  refine WA.splitB (i := 8) rfl (fun h8 => ?_) (fun h8 => ?_)
  · skip
    have hm : Fm.mayE n ls = 3 := by (unfold Fm.mayE; rw [if_pos]; left; simpa using h8)
    refine WL.step (WL.guardF rfl rfl rfl rfl rfl rfl ?_)
    refine WL.step (WL.guardF rfl rfl rfl rfl rfl rfl ?_)
    refine WL.step ?_
    refine WL.pickT rfl rfl rfl ?_
    refine WL.nil ?_
    refine WQ.then_normal ?_
    refine WC.condT rfl ?_
    refine WC.seq ?_
    refine WC.region ?_
    refine WL.step ?_
    refine WL.assign rfl rfl ?_
    refine WL.nil ?_
    refine WQ.then_normal ?_
    refine WC.ret ?_
    refine WQ.then_ret ?_
    exact WQ.ret (rs := [.tmp 4]) rfl (.tmp rfl .nil) (fun w hS => ⟨by rw [hm]; rfl, hS⟩)
  · skip
    refine WL.step (WL.guardT rfl rfl rfl ?_)
    refine WL.move rfl rfl ?_
    refine WL.step (WL.guardT rfl rfl rfl ?_)
    refine WL.gtI rfl rfl rfl ?_
    refine WL.step ?_
    refine WL.pickF rfl rfl rfl ?_
    refine WL.nil ?_
    refine WQ.then_normal ?_
    refine WC.cond rfl (fun h11 => ?_) (fun h11 => ?_)
    · skip
      have hm : Fm.mayE n ls = 3 := by (first | assumption | (unfold Fm.mayE; rw [if_pos]; right; simpa using h11))
      refine WC.seq ?_
      refine WC.region ?_
      refine WL.step ?_
      refine WL.assign rfl rfl ?_
      refine WL.nil ?_
      refine WQ.then_normal ?_
      refine WC.ret ?_
      refine WQ.then_ret ?_
      exact WQ.ret (rs := [.tmp 4]) rfl (.tmp rfl .nil) (fun w hS => ⟨by rw [hm]; rfl, hS⟩)
    · skip
      have hn0 : ¬ (n < 0 ∨ 24 < n) := by (simp at h8 h11; omega)
      have hnb : -1000 ≤ n ∧ n ≤ 1000 := by omega
      refine WC.skip ?_
      refine WQ.then_normal ?_
      refine WC.seq ?_
      refine WC.seq ?_
      refine WC.region ?_
      refine WL.step ?_
      refine WL.assign rfl rfl ?_
      refine WL.nil ?_
      refine WQ.then_normal ?_
      refine WC.block ?_
      refine WC.loop (α := Nat) (fun i => i ≤ ls.length ∧ (ls.take i).all (Fm.fitsB n) = true) (fun i => [(0, .int .i64 n), (1, .slice a ls.length cap), (5, .int .i64 (i : Int))]) (fun _ => []) (fun i => ls.length - i) (0) ?_ ?_ ?_ ?_
      · exact ⟨Nat.zero_le _, rfl⟩
      · exact ⟨rfl, rfl, rfl, trivial⟩
      · rfl
      rintro i ⟨hi, hno⟩
      refine WC.seq ?_
      refine WC.seq ?_
      refine WC.region ?_
      refine WL.step ?_
      refine WL.move rfl rfl ?_
      refine WL.step ?_
      refine WL.move rfl rfl ?_
      refine WL.step ?_
      refine WL.lenSl F.und33 rfl rfl ?_
      refine WL.step ?_
      refine WL.ltI rfl rfl rfl ?_
      refine WL.nil ?_
      refine WQ.then_normal ?_
      refine WC.cond rfl (fun h15 => ?_) (fun h15 => ?_)
      · skip
        have hlt : i < ls.length := by simpa using h15
        obtain ⟨c, b, off, a1, cap1, hc, rfl, hcell, hrc⟩ := hr.at hlt
        have hcl := hlens c (List.mem_of_getElem? hc)
        refine WC.skip ?_
        refine WQ.then_normal ?_
        refine WC.seq ?_
        refine WC.block ?_
        refine WC.seq ?_
        refine WC.region ?_
        refine WL.step ?_
        refine WL.move rfl rfl ?_
        refine WL.step ?_
        refine WL.move rfl rfl ?_
        refine WL.step ?_
        refine WL.move rfl rfl ?_
        refine WL.step ?_
        refine WL.indexAddr F.sl33 rfl rfl rfl hlt ?_
        refine WL.step ?_
        refine WL.load1 F.one23 rfl rfl (v := .slice a1 c.length cap1) (fun w hS => hS.oldc (by simpa using hcell) (by simp)) ?_
        refine WL.step ?_
        refine WL.callV F.fun40 rfl rfl (fun w hS => rfits_c n c a1 cap1 hnb hcl w (hrc.next hS)) ?_
        refine WL.step ?_
        refine WL.not rfl rfl ?_
        refine WL.nil ?_
        refine WQ.then_normal ?_
        refine WC.cond rfl (fun h24 => ?_) (fun h24 => ?_)
        · skip
          have hm : Fm.mayE n ls = 2 := by
            unfold Fm.mayE; rw [if_neg hn0]; split
            · rfl
            · rw [if_neg]
              rw [Bool.not_eq_true, List.all_eq_false]
              exact ⟨c, List.mem_of_getElem? hc, by simpa using h24⟩
          refine WC.seq ?_
          refine WC.region ?_
          refine WL.step ?_
          refine WL.assign rfl rfl ?_
          refine WL.nil ?_
          refine WQ.then_normal ?_
          refine WC.ret ?_
          refine WQ.block_ret ?_
          refine WQ.then_ret ?_
          refine WQ.then_ret ?_
          refine WQ.block_ret ?_
          refine WQ.then_ret ?_
          exact WQ.ret (rs := [.tmp 4]) rfl (.tmp rfl .nil) (fun w hS => ⟨by rw [hm]; rfl, hS⟩)
        · skip
          refine WC.skip ?_
          refine WQ.block_normal ?_
          refine WQ.then_normal ?_
          refine WC.region ?_
          refine WL.step ?_
          refine WL.move rfl rfl ?_
          refine WL.step ?_
          refine WL.add rfl rfl rfl ⟨by omega, by omega⟩ ?_
          refine WL.step ?_
          refine WL.assign rfl rfl ?_
          refine WL.nil ?_
          refine WQ.back (i + 1) ?_ ?_ ?_ ?_
          · exact ⟨by omega, by rw [List.take_add_one, hc]; simp only [Option.toList, List.all_append, hno, List.all_cons, List.all_nil]; simpa using h24⟩
          · omega
          · exact ⟨rfl, rfl, rfl, trivial⟩
          · rfl
      · skip
        have hie : i = ls.length := by simp at h15; omega
        subst hie
        rw [List.take_length] at hno
        refine WC.exit ?_
        refine WQ.then_exit ?_
        refine WQ.then_exit ?_
        refine WQ.block_exit ?_
        refine WQ.then_normal ?_
        refine WC.seq ?_
        refine WC.seq ?_
        refine WC.region ?_
        refine WL.step ?_
        refine WL.move rfl rfl ?_
        refine WL.step ?_
        refine WL.lenSl F.und33 rfl rfl ?_
        refine WL.step ?_
        refine WL.gtI rfl rfl rfl ?_
        refine WL.nil ?_
        refine WQ.then_normal ?_
        refine WC.cond rfl (fun h27 => ?_) (fun h27 => ?_)
        · skip
          have hm : Fm.mayE n ls = 2 := by (unfold Fm.mayE; rw [if_neg hn0, if_pos]; simp at h27; omega)
          refine WC.seq ?_
          refine WC.region ?_
          refine WL.step ?_
          refine WL.assign rfl rfl ?_
          refine WL.nil ?_
          refine WQ.then_normal ?_
          refine WC.ret ?_
          refine WQ.then_ret ?_
          exact WQ.ret (rs := [.tmp 4]) rfl (.tmp rfl .nil) (fun w hS => ⟨by rw [hm]; rfl, hS⟩)
        · skip
          have hm : Fm.mayE n ls = 0 := by (unfold Fm.mayE; rw [if_neg hn0, if_neg (by simp at h27; omega), if_pos hno])
          refine WC.skip ?_
          refine WQ.then_normal ?_
          refine WC.seq ?_
          refine WC.region ?_
          refine WL.step ?_
          refine WL.assign rfl rfl ?_
          refine WL.nil ?_
          refine WQ.then_normal ?_
          refine WC.ret ?_
          exact WQ.ret (rs := [.tmp 4]) rfl (.tmp rfl .nil) (fun w hS => ⟨by rw [hm]; rfl, hS⟩)

end Go.Proofs.Ytkgllhkhdjodeaa

namespace Go.Proofs.Ytkgllhkhdjodeaa
open Go Go.Eng Go.Proofs
structure C1 where
  f : Nat
  out : List Int
  ad : Option Addr
  ac : Nat
structure C2 where
  i : Nat
  out : List Int
  ad : Option Addr
  ac : Nat
structure C3 where
  k : Nat
  out : List Int
  ad : Option Addr
  ac : Nat

end Go.Proofs.Ytkgllhkhdjodeaa

namespace Go.Proofs.Ytkgllhkhdjodeaa
open Go Go.Eng Go.Proofs
def refuted (ls : List (List Int)) (c : List Int) : Bool := match Fm.consF 66 ls (c.map (fun x => -x)) with | some o => Fm.conflictB ls o | none => false
def verF : List (List Int) → List (List Int) → Nat → Int
  | _, [], i => i
  | ls, c :: ps, i => if refuted ls c then (if c.isEmpty then -1 else verF (ls ++ [c]) ps (i + 1)) else i
def verE (n : Int) (ls ps : List (List Int)) : Int × Int := if Fm.mayE n ls = 0 then (if ps.all (Fm.fitsB n) then (verF ls ps 0, 0) else (0, 2)) else (0, Fm.mayE n ls)
theorem any_take {α : Type} {p : α → Bool} {l : List α} {i : Nat} {x : α} (hx : l[i]? = some x) (h : (l.take i).any p = false) (hp : p x = false) : (l.take (i + 1)).any p = false := by
  rw [List.take_add_one, hx, List.any_append, h, Bool.false_or]
  simp [hp]
theorem all_takeB {α : Type} {p : α → Bool} {l : List α} {i : Nat} {x : α} (hx : l[i]? = some x) (h : (l.take i).all p = true) (hp : p x = true) : (l.take (i + 1)).all p = true := by
  rw [List.take_add_one, hx, List.all_append, h, Bool.true_and]
  simp [hp]
theorem any_at {α : Type} {p : α → Bool} {l : List α} {i : Nat} {x : α} (hx : l[i]? = some x) (hp : p x = true) : l.any p = true := List.any_eq_true.2 ⟨x, List.mem_of_getElem? hx, hp⟩
theorem all_at {α : Type} {p : α → Bool} {l : List α} {i : Nat} {x : α} (hx : l[i]? = some x) (hp : p x = false) : l.all p = false := List.all_eq_false.2 ⟨x, List.mem_of_getElem? hx, by rw [hp]; decide⟩

end Go.Proofs.Ytkgllhkhdjodeaa

namespace Go.Proofs.Ytkgllhkhdjodeaa
open Go Go.Eng Go.Proofs
structure V2 where
  i : Nat
  N : Nat
  hs : List Value
  aa : Option Addr
  ca : Nat

end Go.Proofs.Ytkgllhkhdjodeaa

/-
  The search: it ends, its model is the least, and its proof is one.
-/
namespace Go.Proofs.Ytkgllhkhdjodeaa
open Go Go.Eng Go.Proofs

def satL (M : Nat) (x : Int) : Bool := if 0 < x then M.testBit (x - 1).toNat else !M.testBit (-x - 1).toNat
def satC (M : Nat) (c : List Int) : Bool := c.any (satL M)
def holdsB (ls : List (List Int)) (M : Nat) : Bool := ls.all (satC M)
/-! ### the search -/
structure SI (n : Nat) (ls : List (List Int)) (path : List Int) (proof : List (List Int)) : Prop where
  lit : ∀ x ∈ path, x ≠ 0 ∧ x.natAbs ≤ n
  dec : path.Pairwise (fun x y => y.natAbs < x.natAbs)
  hi : ∀ i x, path[i]? = some x → ∀ v : Nat, x.natAbs < v → v ≤ n → Fm.Der (ls ++ proof) (path.take i) (v : Int) ∨ Fm.Der (ls ++ proof) (path.take i) (-(v : Int))
  pos : ∀ i x, path[i]? = some x → 0 < x → ((path.take i).map (fun y => -y) ++ [x]) ∈ ls ++ proof
  ver : ∀ i c, proof[i]? = some c → refuted (ls ++ proof.take i) c = true ∧ c ≠ []
  fit : ∀ c ∈ proof, (∀ x ∈ c, x ≠ 0 ∧ x.natAbs ≤ n) ∧ c.length ≤ 64
  mdl : ∀ M, holdsB ls M = true → holdsB (ls ++ proof) M = true
theorem lit_le {n : Nat} (hn : n ≤ 24) {ls : List (List Int)} (h : ∀ c ∈ ls, ∀ x ∈ c, x ≠ 0 ∧ x.natAbs ≤ n) : ∀ c ∈ ls, ∀ x ∈ c, Lit x := fun c hc x hx => by
  have := h c hc x hx
  exact ⟨this.1, by omega, by omega⟩
theorem SI.all {n : Nat} {ls proof : List (List Int)} {path : List Int} (h : SI n ls path proof) (hls : ∀ c ∈ ls, ∀ x ∈ c, x ≠ 0 ∧ x.natAbs ≤ n) : ∀ c ∈ ls ++ proof, ∀ x ∈ c, x ≠ 0 ∧ x.natAbs ≤ n := fun c hc => by
  rcases List.mem_append.1 hc with hc | hc
  · exact hls c hc
  · exact (h.fit c hc).1
def tS (v : Nat) : Nat := 4 * 2 ^ v - 3
def rS (x : Int) : Nat := if x < 0 then tS (x.natAbs - 1) + 2 else 1
def remS (n : Nat) (path : List Int) : Nat := match path.getLast? with | none => n | some x => x.natAbs - 1
def muS (n : Nat) (mode : Bool) (path : List Int) : Nat := (path.map rS).sum + 1 + (if mode then 0 else tS (remS n path))
def GoodS (n : Nat) (ls : List (List Int)) (r : Fm.Ans) : Prop :=
  (r.ok = true ∧ r.proof = [] ∧ r.model < 2 ^ n ∧ holdsB ls r.model = true ∧ ∀ M, M < 2 ^ n → holdsB ls M = true → r.model ≤ M) ∨
  (r.ok = false ∧ r.model = 0 ∧ verF ls r.proof 0 = -1 ∧ (∀ c ∈ r.proof, (∀ x ∈ c, x ≠ 0 ∧ x.natAbs ≤ n) ∧ c.length ≤ 64) ∧ ∀ M, holdsB ls M = false)
/-- A new decision. -/
theorem SI.push {n : Nat} {ls proof : List (List Int)} {p : List Int} {y : Int} (h : SI n ls p proof) (hy : y ≠ 0 ∧ y.natAbs ≤ n) (hd : ∀ x ∈ p, y.natAbs < x.natAbs) (hh : ∀ v : Nat, y.natAbs < v → v ≤ n → Fm.Der (ls ++ proof) p (v : Int) ∨ Fm.Der (ls ++ proof) p (-(v : Int)))
    (hp : 0 < y → (p.map (fun z => -z) ++ [y]) ∈ ls ++ proof) : SI n ls (p ++ [y]) proof := by
  have hidx : ∀ i x, (p ++ [y])[i]? = some x → (p[i]? = some x ∧ (p ++ [y]).take i = p.take i) ∨ (x = y ∧ (p ++ [y]).take i = p) := fun i x hi => by
    by_cases hlt : i < p.length
    · rw [List.getElem?_append_left hlt] at hi
      exact .inl ⟨hi, by rw [List.take_append_of_le_length (by omega)]⟩
    · rw [List.getElem?_append_right (by omega)] at hi
      have hie : i = p.length := by
        have := (List.getElem?_eq_some_iff.1 hi).1
        simp at this; omega
      subst hie
      rw [Nat.sub_self] at hi
      injection hi with hi
      exact .inr ⟨hi.symm, List.take_left' rfl⟩
  refine ⟨fun x hx => ?_, ?_, fun i x hi v h1 h2 => ?_, fun i x hi h1 => ?_, h.ver, h.fit, h.mdl⟩
  · rcases List.mem_append.1 hx with hx | hx
    · exact h.lit x hx
    · rw [List.mem_singleton] at hx; rw [hx]; exact hy
  · refine List.pairwise_append.2 ⟨h.dec, List.pairwise_singleton _ _, fun x hx z hz => ?_⟩
    rw [List.mem_singleton] at hz; rw [hz]; exact hd x hx
  · rcases hidx i x hi with ⟨g1, g2⟩ | ⟨rfl, g2⟩
    · rw [g2]; exact h.hi i x g1 v h1 h2
    · rw [g2]; exact hh v h1 h2
  · rcases hidx i x hi with ⟨g1, g2⟩ | ⟨rfl, g2⟩
    · rw [g2]; exact h.pos i x g1 h1
    · rw [g2]; exact hp h1
theorem may_abs {m : Nat} {ls : List (List Int)} (h : Fm.mayE (m : Int) ls = 0) : ∀ c ∈ ls, ∀ x ∈ c, x ≠ 0 ∧ x.natAbs ≤ m := fun c hc x hx => by
  have h1 := (may_zero h).2.2
  have h2 := (List.all_eq_true.1 h1) c hc
  simp only [Fm.fitsB, Bool.and_eq_true, List.all_eq_true] at h2
  have h3 := h2.2 x hx
  simp [Fm.litB] at h3
  exact ⟨h3.1.1, by omega⟩
end Go.Proofs.Ytkgllhkhdjodeaa

/-! Sets of clauses and what the search says of them. -/
namespace Go.Proofs.Ytkgllhkhdjodeaa
open Go Go.Eng Go.Proofs Dg
theorem holds_cf (ls : List (List Int)) (M : Nat) : holdsB ls M = ls.all (fun k => clauseB k (cfg M)) := rfl
end Go.Proofs.Ytkgllhkhdjodeaa
