import Derived.Test.YtkgllhkhdjodeaaPaWide4
set_option linter.unusedSimpArgs false
set_option linter.unusedVariables false
namespace Go.Proofs.Ytkgllhkhdjodeaa
open Go Go.Eng Go.Proofs Dg
set_option maxRecDepth 100000 in
theorem join_c (g : Nat) (bop : Bool → Bool → Bool) (opf : Nat → Nat → Nat × Bool) (hop : OpOk g bop opf) (bp bm bs : Nat) (la lb : List Dec) (aa ab : Option Addr) (ca cb ra rb : Nat) (ha : Mk la) (hb : Mk lb) (hla : la.length ≤ 16777216) (hlb : lb.length ≤ 16777216) : ∀ (n m : Nat), m ≤ 24 → 24 - m < n →
    ∀ (Fp : List Nat) (l : List Dec) (f : Nat × Nat → Option Nat) (x y : Nat) (w : World), x < la.length + 2 → y < lb.length + 2 → (trs la x).ok m → (trs lb y).ok m → Mk l → SeenOk bop la lb l f → l.length + 2 ^ (24 - m) ≤ 16777216 → JEnv w Fp bp bm bs la lb aa ab ca cb ra rb → St w Fp [jns Fp bm bs l f] w →
    Calls Try.prog 56 [pp bp, .int .i64 (x : Int), .int .i64 (y : Int), Value.func (.func g) [].toArray [].toArray].toArray w fun e w' => ∃ z : { z : JT // JPost bop la lb l m x y z }, e = .returned (.int .i64 (z.1.2.2.2 : Int)) ∧ St w Fp [jns z.1.1 bm bs z.1.2.1 z.1.2.2.1] w' := by
  intro n
  induction n with
  | zero => intro m; omega
  | succ n hrec =>
  intro m hm24 hmn Fp l f x y w hx hy hox hoy hm hsn hsz hE hS0
  have hpow : l.length + 1 ≤ l.length + 2 ^ (24 - m) := by have := Nat.one_le_two_pow (n := 24 - m); omega
  obtain ⟨F1, _, h1, h2, hS0⟩ := hS0.bunOpen
  simp only [jnCs, List.cons_append, List.nil_append] at hS0
  refine enter Try.func56 rfl Try.ntmps56 rfl (C := [mkr F1 bm l, mpg enc2 bs (fun q => (f q).map encI)]) hS0 ?_
  refine WC.seq ?_
  refine WC.region ?_
  refine WL.step ?_
  refine WL.assign rfl rfl ?_
  refine WL.nil ?_
  refine WQ.then_normal ?_
  refine WC.seq ?_
  refine WC.seq ?_
  refine WC.region ?_
  refine WL.step ?_
  refine WL.move rfl rfl ?_
  refine WL.step ?_
  refine WL.move rfl rfl ?_
  refine WL.step ?_
  refine WL.move rfl rfl ?_
  refine WL.step ?_
  refine WL.callF0 (β := Unit) (res := fun _ => .returned (.tuple #[.int .i64 ((opf x y).1 : Int), .bool (opf x y).2])) (cs := fun _ => []) (ψ := fun _ => True) (us := []) (cap := []) hop.fn (fun d h => by cases h; rfl) rfl rfl (fun w hS => (hop.call x y w (by omega) (by omega)).mono (fun e w2 h => ⟨(), trivial, h.1, h.2⟩)) (fun _ _ => ?_)
  refine WL.step ?_
  refine WL.move rfl rfl ?_
  refine WL.step ?_
  refine WL.extract rfl rfl rfl ?_
  refine WL.step ?_
  refine WL.extract rfl rfl rfl ?_
  refine WL.step ?_
  refine WL.assign rfl rfl ?_
  refine WL.step ?_
  refine WL.assign rfl rfl ?_
  refine WL.nil ?_
  refine WQ.then_normal ?_
  refine WC.seq ?_
  refine WC.region ?_
  refine WL.step ?_
  refine WL.move rfl rfl ?_
  refine WL.nil ?_
  refine WQ.then_normal ?_
  refine WC.cond rfl (fun h28 => ?_) (fun h28 => ?_)
  · skip
    refine WC.seq ?_
    refine WC.region ?_
    refine WL.step ?_
    refine WL.move rfl rfl ?_
    refine WL.step ?_
    refine WL.assign rfl rfl ?_
    refine WL.nil ?_
    refine WQ.then_normal ?_
    refine WC.ret ?_
    refine WQ.then_ret ?_
    refine WQ.ret (rs := [.tmp 8]) rfl (.tmp rfl .nil) (fun w hS => ⟨⟨(_, l, f, (opf x y).1), ⟨hm, ⟨[], by simp⟩, hpow, hop.spec.done h28, hsn⟩⟩, rfl, St.jnsClose hS⟩)
  · skip
    refine WC.skip ?_
    refine WQ.then_normal ?_
    refine WC.seq ?_
    refine WC.region ?_
    refine WL.step ?_
    refine WL.move rfl rfl ?_
    refine WL.step ?_
    refine WL.move rfl rfl ?_
    refine WL.step ?_
    refine WL.buildA F.arT137 rfl (by repeat (first | exact Built.nil | apply Built.one rfl rfl (by repeat constructor) | apply Built.agg rfl rfl (by repeat constructor))) rfl ?_
    refine WL.step ?_
    refine WL.alloc F.zero137 rfl (fun b11 => ?_)
    refine WL.step ?_
    refine WL.storeN F.agg137 rfl rfl rfl (by simp [Value.oneCell']) (by repeat (first | exact Upd.here | apply Upd.there)) (by repeat constructor) ?_
    refine WL.nil ?_
    refine WQ.then_normal ?_
    refine WC.seq ?_
    refine WC.seq ?_
    rcases Option.eq_none_or_eq_some (f (x, y)) with hf | ⟨r, hf⟩
    · skip
      refine WC.drawsL (by kernel_rfl) (FactsOk.cons (ds := []) (LoadOk.by (Y := fun w => w.cell? ⟨bp, 5, none⟩ = some (.map (some bs))) (fun w hS => hS.oldc (hE.ce 5 _ rfl) hE.ce')) (FactsOk.cons (ds := []) (LoadOk.whole (t := 11) rfl (by repeat (first | exact List.Mem.head _ | apply List.Mem.tail))) (FactsOk.cons (ds := []) (LoadOk.by (Y := fun w => (mpg enc2 bs (fun q => (f q).map encI)).ok w) (fun w hS => hS.ok _ (by repeat (first | exact List.Mem.head _ | apply List.Mem.tail)))) (FactsOk.nil)))) ?_
      refine WD.take (i := 0) rfl rfl rfl rfl (by kernel_rfl) (by kernel_rfl) (by kernel_rfl) (fun _ _ _ h => h) (by kernel_rfl) need_none (Yl.move rfl) ?_
      refine WD.take (i := 1) rfl rfl rfl rfl (by kernel_rfl) (by kernel_rfl) (by kernel_rfl) (fun _ _ _ h => h) (by kernel_rfl) need_none (Yl.nilCheck rfl) ?_
      refine WD.take (i := 2) rfl rfl rfl rfl (by kernel_rfl) (by kernel_rfl) (by kernel_rfl) (fun _ _ _ h => h) (by kernel_rfl) need_none (Yl.fieldAddr0 F.fld100_3 rfl) ?_
      refine WD.take (i := 3) rfl rfl rfl rfl (by kernel_rfl) (by kernel_rfl) (by kernel_rfl) (fun _ _ _ h => h) (by kernel_rfl) (need_at 0 11 rfl (by kernel_rfl)) (Yl.load1 F.one98 rfl) ?_
      refine WD.take (i := 4) rfl rfl rfl rfl (by kernel_rfl) (by kernel_rfl) (by kernel_rfl) (fun _ _ _ h => h) (by kernel_rfl) (need_at 1 11 rfl (by kernel_rfl)) (Yl.loadN F.agg137 rfl rfl) ?_
      refine WD.take (i := 5) rfl rfl rfl rfl (by kernel_rfl) (by kernel_rfl) (by kernel_rfl) (fun _ _ _ h => h) (by kernel_rfl) (need_at 2 11 rfl (by kernel_rfl)) (Yl.lookupMiss (f := fun q => (f q).map encI) (x, y) undMP keyPair zeroInt rfl rfl rfl (by rw [hf]; rfl)) ?_
      refine WD.take (i := 6) rfl rfl rfl rfl (by kernel_rfl) (by kernel_rfl) (by kernel_rfl) (fun _ _ _ h => h) (by kernel_rfl) need_none (Yl.move rfl) ?_
      refine WD.take (i := 7) rfl rfl rfl rfl (by kernel_rfl) (by kernel_rfl) (by kernel_rfl) (fun _ _ _ h => h) (by kernel_rfl) need_none (Yl.extract rfl rfl) ?_
      refine WD.take (i := 8) rfl rfl rfl rfl (by kernel_rfl) (by kernel_rfl) (by kernel_rfl) (fun _ _ _ h => h) (by kernel_rfl) need_none (Yl.extract rfl rfl) ?_
      refine WD.take (i := 9) rfl rfl rfl rfl (by kernel_rfl) (by kernel_rfl) (by kernel_rfl) (fun _ _ _ h => h) (by kernel_rfl) need_none (Yl.assign rfl) ?_
      refine WD.take (i := 10) rfl rfl rfl rfl (by kernel_rfl) (by kernel_rfl) (by kernel_rfl) (fun _ _ _ h => h) (by kernel_rfl) need_none (Yl.assign rfl) ?_
      refine WD.done (by kernel_rfl) ?_
      refine WQ.then_normal ?_
      refine WC.seq ?_
      refine WC.region ?_
      refine WL.step ?_
      refine WL.move rfl rfl ?_
      refine WL.nil ?_
      refine WQ.then_normal ?_
      refine WC.condF rfl ?_
      refine WC.skip ?_
      refine WQ.then_normal ?_
      refine WC.seq ?_
      refine WC.cutPE (α := Nat × Nat) (fun z => [(0, pp bp), (1, .int .i64 (x : Int)), (2, .int .i64 (y : Int)), (3, Value.func (.func g) [].toArray [].toArray), (11, pp b11), (14, pp z.1), (15, pp z.2)]) (fun z => [pt z.1 [Value.int .i64 ((atD la x).1 : Int), .int .i64 ((atD la x).2.1 : Int), .int .i64 ((atD la x).2.2 : Int)] 63, pt z.2 [Value.int .i64 ((atD lb y).1 : Int), .int .i64 ((atD lb y).2.1 : Int), .int .i64 ((atD lb y).2.2 : Int)] 63, pt b11 [Value.int .i64 (x : Int), .int .i64 (y : Int)] 137, mkr F1 bm l, mpg enc2 bs (fun q => (f q).map encI)]) (fun c a d v w h => by cases d <;> exact h) (fun Q' hP hQ => ?_) (fun xE => ?_)
      · skip
        refine WC.drawsL (by kernel_rfl) (FactsOk.cons (ds := [5, 11, 14, 15]) (LoadOk.by (Y := fun w => ∀ j v, [Value.slice aa la.length ca, .int .i64 (ra : Int)][j]? = some v → w.cell? ⟨bp, 1 + j, none⟩ = some v) (fun w hS => fun j v hv => hS.oldc (hE.ce (1 + j) v (by rw [Nat.add_comm]; rcases j with _ | _ | j <;> first | exact hv | simp at hv)) hE.ce')) (FactsOk.cons (ds := [11, 14, 15]) (LoadOk.by (Y := fun w => ∀ j v, [Value.slice ab lb.length cb, .int .i64 (rb : Int)][j]? = some v → w.cell? ⟨bp, 3 + j, none⟩ = some v) (fun w hS => fun j v hv => hS.oldc (hE.ce (3 + j) v (by rw [Nat.add_comm]; rcases j with _ | _ | j <;> first | exact hv | simp at hv)) hE.ce')) (FactsOk.nil))) ?_
        refine WD.take (i := 0) rfl rfl rfl rfl (by kernel_rfl) (by kernel_rfl) (by kernel_rfl) (fun _ _ _ h => hP _ _ _ _ _ h) (by kernel_rfl) need_none (Yl.move rfl) ?_
        refine WD.take (i := 1) rfl rfl rfl rfl (by kernel_rfl) (by kernel_rfl) (by kernel_rfl) (fun _ _ _ h => hP _ _ _ _ _ h) (by kernel_rfl) need_none (Yl.nilCheck rfl) ?_
        refine WD.take (i := 2) rfl rfl rfl rfl (by kernel_rfl) (by kernel_rfl) (by kernel_rfl) (fun _ _ _ h => hP _ _ _ _ _ h) (by kernel_rfl) need_none (Yl.fieldAddr0 F.fld100_1 rfl) ?_
        refine WD.take (i := 3) rfl rfl rfl rfl (by kernel_rfl) (by kernel_rfl) (by kernel_rfl) (fun _ _ _ h => hP _ _ _ _ _ h) (by kernel_rfl) (need_at 0 16 rfl (by kernel_rfl)) (Yl.loadN F.agg27 rfl rfl) ?_
        refine WD.take (i := 4) rfl rfl rfl rfl (by kernel_rfl) (by kernel_rfl) (by kernel_rfl) (fun _ _ _ h => hP _ _ _ _ _ h) (by kernel_rfl) need_none (Yl.move rfl) ?_
        refine WD.take (i := 6) rfl rfl rfl rfl (by kernel_rfl) (by kernel_rfl) (by kernel_rfl) (fun _ _ _ h => hP _ _ _ _ _ h) (by kernel_rfl) need_none (Yl.move rfl) ?_
        refine WD.take (i := 7) rfl rfl rfl rfl (by kernel_rfl) (by kernel_rfl) (by kernel_rfl) (fun _ _ _ h => hP _ _ _ _ _ h) (by kernel_rfl) need_none (Yl.nilCheck rfl) ?_
        refine WD.take (i := 8) rfl rfl rfl rfl (by kernel_rfl) (by kernel_rfl) (by kernel_rfl) (fun _ _ _ h => hP _ _ _ _ _ h) (by kernel_rfl) need_none (Yl.fieldAddr0 F.fld100_2 rfl) ?_
        refine WD.take (i := 9) rfl rfl rfl rfl (by kernel_rfl) (by kernel_rfl) (by kernel_rfl) (fun _ _ _ h => hP _ _ _ _ _ h) (by kernel_rfl) (need_at 1 16 rfl (by kernel_rfl)) (Yl.loadN F.agg27 rfl rfl) ?_
        refine WD.take (i := 10) rfl rfl rfl rfl (by kernel_rfl) (by kernel_rfl) (by kernel_rfl) (fun _ _ _ h => hP _ _ _ _ _ h) (by kernel_rfl) need_none (Yl.move rfl) ?_
        refine WD.three (i := 5) (j := 12) (l := 13) (by kernel_rfl) rfl rfl rfl ?_ ?_ ?_
        · skip
          refine WL.callV F.fun81 rfl rfl (fun w hS => at_c la aa ca ra x w (by omega) hx (hE.rda.now hS)) ?_
          refine WD.on (closed_of (by kernel_rfl)) (fun w hS => Sx.gone rfl (Sx.keep (fun j v hv => hS.oldc (hE.ce (3 + j) v (by rw [Nat.add_comm]; rcases j with _ | _ | j <;> first | exact hv | simp at hv)) hE.ce') (Sx.none))) ?_
          refine WD.three (i := 11) (j := 12) (l := 13) (by kernel_rfl) rfl rfl rfl ?_ ?_ ?_
          · skip
            refine WL.callV F.fun81 rfl rfl (fun w hS => at_c lb ab cb rb y w (by omega) hy (hE.rdb.now hS)) ?_
            refine WD.on (closed_of (by kernel_rfl)) (fun w hS => Sx.gone rfl (Sx.gone rfl (Sx.none))) ?_
            refine WD.two (i := 12) (j := 13) (by kernel_rfl) rfl rfl ?_ ?_
            · skip
              refine WL.alloc F.zero63 rfl (fun b14 => ?_)
              refine WD.on (closed_of (by kernel_rfl)) (fun w hS => Sx.gone rfl (Sx.gone rfl (Sx.none))) ?_
              refine WD.one (i := 13) (by kernel_rfl) rfl ?_
              refine WL.alloc F.zero63 rfl (fun b15 => ?_)
              refine WD.on (closed_of (by kernel_rfl)) (fun w hS => Sx.gone rfl (Sx.gone rfl (Sx.none))) ?_
              refine WD.one (i := 14) (by kernel_rfl) rfl ?_
              refine WL.storeN F.agg63 rfl rfl rfl (by simp [Value.oneCell']) (by repeat (first | exact Upd.here | apply Upd.there)) (by repeat constructor) ?_
              refine WD.on (closed_of (by kernel_rfl)) (fun w hS => Sx.gone rfl (Sx.gone rfl (Sx.none))) ?_
              refine WD.one (i := 15) (by kernel_rfl) rfl ?_
              refine WL.storeN F.agg63 rfl rfl rfl (by simp [Value.oneCell']) (by repeat (first | exact Upd.here | apply Upd.there)) (by repeat constructor) ?_
              refine WD.on (closed_of (by kernel_rfl)) (fun w hS => Sx.gone rfl (Sx.gone rfl (Sx.none))) ?_
              refine WD.done (by kernel_rfl) ?_
              refine WQ.chunks (C' := [pt (b14, b15).1 [Value.int .i64 ((atD la x).1 : Int), .int .i64 ((atD la x).2.1 : Int), .int .i64 ((atD la x).2.2 : Int)] 63, pt (b14, b15).2 [Value.int .i64 ((atD lb y).1 : Int), .int .i64 ((atD lb y).2.1 : Int), .int .i64 ((atD lb y).2.2 : Int)] 63, pt b11 [Value.int .i64 (x : Int), .int .i64 (y : Int)] 137, mkr F1 bm l, mpg enc2 bs (fun q => (f q).map encI)]) (fun w hS => ((St.pick (St.pick (St.pick (St.pick (St.pick hS (c := mpg enc2 bs (fun q => (f q).map encI)) (by repeat (first | exact Rem.here | apply Rem.there))) (c := mkr F1 bm l) (by repeat (first | exact Rem.here | apply Rem.there))) (c := pt b11 [Value.int .i64 (x : Int), .int .i64 (y : Int)] 137) (by repeat (first | exact Rem.here | apply Rem.there))) (c := pt (b14, b15).2 [Value.int .i64 ((atD lb y).1 : Int), .int .i64 ((atD lb y).2.1 : Int), .int .i64 ((atD lb y).2.2 : Int)] 63) (by repeat (first | exact Rem.here | apply Rem.there))) (c := pt (b14, b15).1 [Value.int .i64 ((atD la x).1 : Int), .int .i64 ((atD la x).2.1 : Int), .int .i64 ((atD la x).2.2 : Int)] 63) (by repeat (first | exact Rem.here | apply Rem.there)))).sublist (List.Sublist.cons_cons _ (List.Sublist.cons_cons _ (List.Sublist.cons_cons _ (List.Sublist.cons_cons _ (List.Sublist.cons_cons _ (List.nil_sublist _))))))) ?_
              exact WQ.byCut (hQ (b14, b15)) ⟨rfl, rfl, rfl, rfl, rfl, rfl, rfl, trivial⟩
            · skip
              refine WL.alloc F.zero63 rfl (fun b15 => ?_)
              refine WD.on (closed_of (by kernel_rfl)) (fun w hS => Sx.gone rfl (Sx.gone rfl (Sx.none))) ?_
              refine WD.one (i := 12) (by kernel_rfl) rfl ?_
              refine WL.alloc F.zero63 rfl (fun b14 => ?_)
              refine WD.on (closed_of (by kernel_rfl)) (fun w hS => Sx.gone rfl (Sx.gone rfl (Sx.none))) ?_
              refine WD.one (i := 14) (by kernel_rfl) rfl ?_
              refine WL.storeN F.agg63 rfl rfl rfl (by simp [Value.oneCell']) (by repeat (first | exact Upd.here | apply Upd.there)) (by repeat constructor) ?_
              refine WD.on (closed_of (by kernel_rfl)) (fun w hS => Sx.gone rfl (Sx.gone rfl (Sx.none))) ?_
              refine WD.one (i := 15) (by kernel_rfl) rfl ?_
              refine WL.storeN F.agg63 rfl rfl rfl (by simp [Value.oneCell']) (by repeat (first | exact Upd.here | apply Upd.there)) (by repeat constructor) ?_
              refine WD.on (closed_of (by kernel_rfl)) (fun w hS => Sx.gone rfl (Sx.gone rfl (Sx.none))) ?_
              refine WD.done (by kernel_rfl) ?_
              refine WQ.chunks (C' := [pt (b14, b15).1 [Value.int .i64 ((atD la x).1 : Int), .int .i64 ((atD la x).2.1 : Int), .int .i64 ((atD la x).2.2 : Int)] 63, pt (b14, b15).2 [Value.int .i64 ((atD lb y).1 : Int), .int .i64 ((atD lb y).2.1 : Int), .int .i64 ((atD lb y).2.2 : Int)] 63, pt b11 [Value.int .i64 (x : Int), .int .i64 (y : Int)] 137, mkr F1 bm l, mpg enc2 bs (fun q => (f q).map encI)]) (fun w hS => ((St.pick (St.pick (St.pick (St.pick (St.pick hS (c := mpg enc2 bs (fun q => (f q).map encI)) (by repeat (first | exact Rem.here | apply Rem.there))) (c := mkr F1 bm l) (by repeat (first | exact Rem.here | apply Rem.there))) (c := pt b11 [Value.int .i64 (x : Int), .int .i64 (y : Int)] 137) (by repeat (first | exact Rem.here | apply Rem.there))) (c := pt (b14, b15).2 [Value.int .i64 ((atD lb y).1 : Int), .int .i64 ((atD lb y).2.1 : Int), .int .i64 ((atD lb y).2.2 : Int)] 63) (by repeat (first | exact Rem.here | apply Rem.there))) (c := pt (b14, b15).1 [Value.int .i64 ((atD la x).1 : Int), .int .i64 ((atD la x).2.1 : Int), .int .i64 ((atD la x).2.2 : Int)] 63) (by repeat (first | exact Rem.here | apply Rem.there)))).sublist (List.Sublist.cons_cons _ (List.Sublist.cons_cons _ (List.Sublist.cons_cons _ (List.Sublist.cons_cons _ (List.Sublist.cons_cons _ (List.nil_sublist _))))))) ?_
              exact WQ.byCut (hQ (b14, b15)) ⟨rfl, rfl, rfl, rfl, rfl, rfl, rfl, trivial⟩
          · skip
            refine WL.alloc F.zero63 rfl (fun b14 => ?_)
            refine WD.on (closed_of (by kernel_rfl)) (fun w hS => Sx.gone rfl (Sx.keep (fun j v hv => hS.oldc (hE.ce (3 + j) v (by rw [Nat.add_comm]; rcases j with _ | _ | j <;> first | exact hv | simp at hv)) hE.ce') (Sx.none))) ?_
            refine WD.two (i := 11) (j := 13) (by kernel_rfl) rfl rfl ?_ ?_
            · skip
              refine WL.callV F.fun81 rfl rfl (fun w hS => at_c lb ab cb rb y w (by omega) hy (hE.rdb.now hS)) ?_
              refine WD.on (closed_of (by kernel_rfl)) (fun w hS => Sx.gone rfl (Sx.gone rfl (Sx.none))) ?_
              refine WD.one (i := 13) (by kernel_rfl) rfl ?_
              refine WL.alloc F.zero63 rfl (fun b15 => ?_)
              refine WD.on (closed_of (by kernel_rfl)) (fun w hS => Sx.gone rfl (Sx.gone rfl (Sx.none))) ?_
              refine WD.one (i := 14) (by kernel_rfl) rfl ?_
              refine WL.storeN F.agg63 rfl rfl rfl (by simp [Value.oneCell']) (by repeat (first | exact Upd.here | apply Upd.there)) (by repeat constructor) ?_
              refine WD.on (closed_of (by kernel_rfl)) (fun w hS => Sx.gone rfl (Sx.gone rfl (Sx.none))) ?_
              refine WD.one (i := 15) (by kernel_rfl) rfl ?_
              refine WL.storeN F.agg63 rfl rfl rfl (by simp [Value.oneCell']) (by repeat (first | exact Upd.here | apply Upd.there)) (by repeat constructor) ?_
              refine WD.on (closed_of (by kernel_rfl)) (fun w hS => Sx.gone rfl (Sx.gone rfl (Sx.none))) ?_
              refine WD.done (by kernel_rfl) ?_
              refine WQ.chunks (C' := [pt (b14, b15).1 [Value.int .i64 ((atD la x).1 : Int), .int .i64 ((atD la x).2.1 : Int), .int .i64 ((atD la x).2.2 : Int)] 63, pt (b14, b15).2 [Value.int .i64 ((atD lb y).1 : Int), .int .i64 ((atD lb y).2.1 : Int), .int .i64 ((atD lb y).2.2 : Int)] 63, pt b11 [Value.int .i64 (x : Int), .int .i64 (y : Int)] 137, mkr F1 bm l, mpg enc2 bs (fun q => (f q).map encI)]) (fun w hS => ((St.pick (St.pick (St.pick (St.pick (St.pick hS (c := mpg enc2 bs (fun q => (f q).map encI)) (by repeat (first | exact Rem.here | apply Rem.there))) (c := mkr F1 bm l) (by repeat (first | exact Rem.here | apply Rem.there))) (c := pt b11 [Value.int .i64 (x : Int), .int .i64 (y : Int)] 137) (by repeat (first | exact Rem.here | apply Rem.there))) (c := pt (b14, b15).2 [Value.int .i64 ((atD lb y).1 : Int), .int .i64 ((atD lb y).2.1 : Int), .int .i64 ((atD lb y).2.2 : Int)] 63) (by repeat (first | exact Rem.here | apply Rem.there))) (c := pt (b14, b15).1 [Value.int .i64 ((atD la x).1 : Int), .int .i64 ((atD la x).2.1 : Int), .int .i64 ((atD la x).2.2 : Int)] 63) (by repeat (first | exact Rem.here | apply Rem.there)))).sublist (List.Sublist.cons_cons _ (List.Sublist.cons_cons _ (List.Sublist.cons_cons _ (List.Sublist.cons_cons _ (List.Sublist.cons_cons _ (List.nil_sublist _))))))) ?_
              exact WQ.byCut (hQ (b14, b15)) ⟨rfl, rfl, rfl, rfl, rfl, rfl, rfl, trivial⟩
            · skip
              refine WL.alloc F.zero63 rfl (fun b15 => ?_)
              refine WD.on (closed_of (by kernel_rfl)) (fun w hS => Sx.gone rfl (Sx.keep (fun j v hv => hS.oldc (hE.ce (3 + j) v (by rw [Nat.add_comm]; rcases j with _ | _ | j <;> first | exact hv | simp at hv)) hE.ce') (Sx.none))) ?_
              refine WD.one (i := 11) (by kernel_rfl) rfl ?_
              refine WL.callV F.fun81 rfl rfl (fun w hS => at_c lb ab cb rb y w (by omega) hy (hE.rdb.now hS)) ?_
              refine WD.on (closed_of (by kernel_rfl)) (fun w hS => Sx.gone rfl (Sx.gone rfl (Sx.none))) ?_
              refine WD.one (i := 14) (by kernel_rfl) rfl ?_
              refine WL.storeN F.agg63 rfl rfl rfl (by simp [Value.oneCell']) (by repeat (first | exact Upd.here | apply Upd.there)) (by repeat constructor) ?_
              refine WD.on (closed_of (by kernel_rfl)) (fun w hS => Sx.gone rfl (Sx.gone rfl (Sx.none))) ?_
              refine WD.one (i := 15) (by kernel_rfl) rfl ?_
              refine WL.storeN F.agg63 rfl rfl rfl (by simp [Value.oneCell']) (by repeat (first | exact Upd.here | apply Upd.there)) (by repeat constructor) ?_
              refine WD.on (closed_of (by kernel_rfl)) (fun w hS => Sx.gone rfl (Sx.gone rfl (Sx.none))) ?_
              refine WD.done (by kernel_rfl) ?_
              refine WQ.chunks (C' := [pt (b14, b15).1 [Value.int .i64 ((atD la x).1 : Int), .int .i64 ((atD la x).2.1 : Int), .int .i64 ((atD la x).2.2 : Int)] 63, pt (b14, b15).2 [Value.int .i64 ((atD lb y).1 : Int), .int .i64 ((atD lb y).2.1 : Int), .int .i64 ((atD lb y).2.2 : Int)] 63, pt b11 [Value.int .i64 (x : Int), .int .i64 (y : Int)] 137, mkr F1 bm l, mpg enc2 bs (fun q => (f q).map encI)]) (fun w hS => ((St.pick (St.pick (St.pick (St.pick (St.pick hS (c := mpg enc2 bs (fun q => (f q).map encI)) (by repeat (first | exact Rem.here | apply Rem.there))) (c := mkr F1 bm l) (by repeat (first | exact Rem.here | apply Rem.there))) (c := pt b11 [Value.int .i64 (x : Int), .int .i64 (y : Int)] 137) (by repeat (first | exact Rem.here | apply Rem.there))) (c := pt (b14, b15).2 [Value.int .i64 ((atD lb y).1 : Int), .int .i64 ((atD lb y).2.1 : Int), .int .i64 ((atD lb y).2.2 : Int)] 63) (by repeat (first | exact Rem.here | apply Rem.there))) (c := pt (b14, b15).1 [Value.int .i64 ((atD la x).1 : Int), .int .i64 ((atD la x).2.1 : Int), .int .i64 ((atD la x).2.2 : Int)] 63) (by repeat (first | exact Rem.here | apply Rem.there)))).sublist (List.Sublist.cons_cons _ (List.Sublist.cons_cons _ (List.Sublist.cons_cons _ (List.Sublist.cons_cons _ (List.Sublist.cons_cons _ (List.nil_sublist _))))))) ?_
              exact WQ.byCut (hQ (b14, b15)) ⟨rfl, rfl, rfl, rfl, rfl, rfl, rfl, trivial⟩
          · skip
            refine WL.alloc F.zero63 rfl (fun b15 => ?_)
            refine WD.on (closed_of (by kernel_rfl)) (fun w hS => Sx.gone rfl (Sx.keep (fun j v hv => hS.oldc (hE.ce (3 + j) v (by rw [Nat.add_comm]; rcases j with _ | _ | j <;> first | exact hv | simp at hv)) hE.ce') (Sx.none))) ?_
            refine WD.two (i := 11) (j := 12) (by kernel_rfl) rfl rfl ?_ ?_
            · skip
              refine WL.callV F.fun81 rfl rfl (fun w hS => at_c lb ab cb rb y w (by omega) hy (hE.rdb.now hS)) ?_
              refine WD.on (closed_of (by kernel_rfl)) (fun w hS => Sx.gone rfl (Sx.gone rfl (Sx.none))) ?_
              refine WD.one (i := 12) (by kernel_rfl) rfl ?_
              refine WL.alloc F.zero63 rfl (fun b14 => ?_)
              refine WD.on (closed_of (by kernel_rfl)) (fun w hS => Sx.gone rfl (Sx.gone rfl (Sx.none))) ?_
              refine WD.one (i := 14) (by kernel_rfl) rfl ?_
              refine WL.storeN F.agg63 rfl rfl rfl (by simp [Value.oneCell']) (by repeat (first | exact Upd.here | apply Upd.there)) (by repeat constructor) ?_
              refine WD.on (closed_of (by kernel_rfl)) (fun w hS => Sx.gone rfl (Sx.gone rfl (Sx.none))) ?_
              refine WD.one (i := 15) (by kernel_rfl) rfl ?_
              refine WL.storeN F.agg63 rfl rfl rfl (by simp [Value.oneCell']) (by repeat (first | exact Upd.here | apply Upd.there)) (by repeat constructor) ?_
              refine WD.on (closed_of (by kernel_rfl)) (fun w hS => Sx.gone rfl (Sx.gone rfl (Sx.none))) ?_
              refine WD.done (by kernel_rfl) ?_
              refine WQ.chunks (C' := [pt (b14, b15).1 [Value.int .i64 ((atD la x).1 : Int), .int .i64 ((atD la x).2.1 : Int), .int .i64 ((atD la x).2.2 : Int)] 63, pt (b14, b15).2 [Value.int .i64 ((atD lb y).1 : Int), .int .i64 ((atD lb y).2.1 : Int), .int .i64 ((atD lb y).2.2 : Int)] 63, pt b11 [Value.int .i64 (x : Int), .int .i64 (y : Int)] 137, mkr F1 bm l, mpg enc2 bs (fun q => (f q).map encI)]) (fun w hS => ((St.pick (St.pick (St.pick (St.pick (St.pick hS (c := mpg enc2 bs (fun q => (f q).map encI)) (by repeat (first | exact Rem.here | apply Rem.there))) (c := mkr F1 bm l) (by repeat (first | exact Rem.here | apply Rem.there))) (c := pt b11 [Value.int .i64 (x : Int), .int .i64 (y : Int)] 137) (by repeat (first | exact Rem.here | apply Rem.there))) (c := pt (b14, b15).2 [Value.int .i64 ((atD lb y).1 : Int), .int .i64 ((atD lb y).2.1 : Int), .int .i64 ((atD lb y).2.2 : Int)] 63) (by repeat (first | exact Rem.here | apply Rem.there))) (c := pt (b14, b15).1 [Value.int .i64 ((atD la x).1 : Int), .int .i64 ((atD la x).2.1 : Int), .int .i64 ((atD la x).2.2 : Int)] 63) (by repeat (first | exact Rem.here | apply Rem.there)))).sublist (List.Sublist.cons_cons _ (List.Sublist.cons_cons _ (List.Sublist.cons_cons _ (List.Sublist.cons_cons _ (List.Sublist.cons_cons _ (List.nil_sublist _))))))) ?_
              exact WQ.byCut (hQ (b14, b15)) ⟨rfl, rfl, rfl, rfl, rfl, rfl, rfl, trivial⟩
            · skip
              refine WL.alloc F.zero63 rfl (fun b14 => ?_)
              refine WD.on (closed_of (by kernel_rfl)) (fun w hS => Sx.gone rfl (Sx.keep (fun j v hv => hS.oldc (hE.ce (3 + j) v (by rw [Nat.add_comm]; rcases j with _ | _ | j <;> first | exact hv | simp at hv)) hE.ce') (Sx.none))) ?_
              refine WD.one (i := 11) (by kernel_rfl) rfl ?_
              refine WL.callV F.fun81 rfl rfl (fun w hS => at_c lb ab cb rb y w (by omega) hy (hE.rdb.now hS)) ?_
              refine WD.on (closed_of (by kernel_rfl)) (fun w hS => Sx.gone rfl (Sx.gone rfl (Sx.none))) ?_
              refine WD.one (i := 14) (by kernel_rfl) rfl ?_
              refine WL.storeN F.agg63 rfl rfl rfl (by simp [Value.oneCell']) (by repeat (first | exact Upd.here | apply Upd.there)) (by repeat constructor) ?_
              refine WD.on (closed_of (by kernel_rfl)) (fun w hS => Sx.gone rfl (Sx.gone rfl (Sx.none))) ?_
              refine WD.one (i := 15) (by kernel_rfl) rfl ?_
              refine WL.storeN F.agg63 rfl rfl rfl (by simp [Value.oneCell']) (by repeat (first | exact Upd.here | apply Upd.there)) (by repeat constructor) ?_
              refine WD.on (closed_of (by kernel_rfl)) (fun w hS => Sx.gone rfl (Sx.gone rfl (Sx.none))) ?_
              refine WD.done (by kernel_rfl) ?_
              refine WQ.chunks (C' := [pt (b14, b15).1 [Value.int .i64 ((atD la x).1 : Int), .int .i64 ((atD la x).2.1 : Int), .int .i64 ((atD la x).2.2 : Int)] 63, pt (b14, b15).2 [Value.int .i64 ((atD lb y).1 : Int), .int .i64 ((atD lb y).2.1 : Int), .int .i64 ((atD lb y).2.2 : Int)] 63, pt b11 [Value.int .i64 (x : Int), .int .i64 (y : Int)] 137, mkr F1 bm l, mpg enc2 bs (fun q => (f q).map encI)]) (fun w hS => ((St.pick (St.pick (St.pick (St.pick (St.pick hS (c := mpg enc2 bs (fun q => (f q).map encI)) (by repeat (first | exact Rem.here | apply Rem.there))) (c := mkr F1 bm l) (by repeat (first | exact Rem.here | apply Rem.there))) (c := pt b11 [Value.int .i64 (x : Int), .int .i64 (y : Int)] 137) (by repeat (first | exact Rem.here | apply Rem.there))) (c := pt (b14, b15).2 [Value.int .i64 ((atD lb y).1 : Int), .int .i64 ((atD lb y).2.1 : Int), .int .i64 ((atD lb y).2.2 : Int)] 63) (by repeat (first | exact Rem.here | apply Rem.there))) (c := pt (b14, b15).1 [Value.int .i64 ((atD la x).1 : Int), .int .i64 ((atD la x).2.1 : Int), .int .i64 ((atD la x).2.2 : Int)] 63) (by repeat (first | exact Rem.here | apply Rem.there)))).sublist (List.Sublist.cons_cons _ (List.Sublist.cons_cons _ (List.Sublist.cons_cons _ (List.Sublist.cons_cons _ (List.Sublist.cons_cons _ (List.nil_sublist _))))))) ?_
              exact WQ.byCut (hQ (b14, b15)) ⟨rfl, rfl, rfl, rfl, rfl, rfl, rfl, trivial⟩
        · skip
          refine WL.alloc F.zero63 rfl (fun b14 => ?_)
          refine WD.on (closed_of (by kernel_rfl)) (fun w hS => Sx.keep (fun j v hv => hS.oldc (hE.ce (1 + j) v (by rw [Nat.add_comm]; rcases j with _ | _ | j <;> first | exact hv | simp at hv)) hE.ce') (Sx.keep (fun j v hv => hS.oldc (hE.ce (3 + j) v (by rw [Nat.add_comm]; rcases j with _ | _ | j <;> first | exact hv | simp at hv)) hE.ce') (Sx.none))) ?_
          refine WD.two (i := 5) (j := 13) (by kernel_rfl) rfl rfl ?_ ?_
          · skip
            refine WL.callV F.fun81 rfl rfl (fun w hS => at_c la aa ca ra x w (by omega) hx (hE.rda.now hS)) ?_
            refine WD.on (closed_of (by kernel_rfl)) (fun w hS => Sx.gone rfl (Sx.keep (fun j v hv => hS.oldc (hE.ce (3 + j) v (by rw [Nat.add_comm]; rcases j with _ | _ | j <;> first | exact hv | simp at hv)) hE.ce') (Sx.none))) ?_
            refine WD.two (i := 11) (j := 13) (by kernel_rfl) rfl rfl ?_ ?_
            · skip
              refine WL.callV F.fun81 rfl rfl (fun w hS => at_c lb ab cb rb y w (by omega) hy (hE.rdb.now hS)) ?_
              refine WD.on (closed_of (by kernel_rfl)) (fun w hS => Sx.gone rfl (Sx.gone rfl (Sx.none))) ?_
              refine WD.one (i := 13) (by kernel_rfl) rfl ?_
              refine WL.alloc F.zero63 rfl (fun b15 => ?_)
              refine WD.on (closed_of (by kernel_rfl)) (fun w hS => Sx.gone rfl (Sx.gone rfl (Sx.none))) ?_
              refine WD.one (i := 14) (by kernel_rfl) rfl ?_
              refine WL.storeN F.agg63 rfl rfl rfl (by simp [Value.oneCell']) (by repeat (first | exact Upd.here | apply Upd.there)) (by repeat constructor) ?_
              refine WD.on (closed_of (by kernel_rfl)) (fun w hS => Sx.gone rfl (Sx.gone rfl (Sx.none))) ?_
              refine WD.one (i := 15) (by kernel_rfl) rfl ?_
              refine WL.storeN F.agg63 rfl rfl rfl (by simp [Value.oneCell']) (by repeat (first | exact Upd.here | apply Upd.there)) (by repeat constructor) ?_
              refine WD.on (closed_of (by kernel_rfl)) (fun w hS => Sx.gone rfl (Sx.gone rfl (Sx.none))) ?_
              refine WD.done (by kernel_rfl) ?_
              refine WQ.chunks (C' := [pt (b14, b15).1 [Value.int .i64 ((atD la x).1 : Int), .int .i64 ((atD la x).2.1 : Int), .int .i64 ((atD la x).2.2 : Int)] 63, pt (b14, b15).2 [Value.int .i64 ((atD lb y).1 : Int), .int .i64 ((atD lb y).2.1 : Int), .int .i64 ((atD lb y).2.2 : Int)] 63, pt b11 [Value.int .i64 (x : Int), .int .i64 (y : Int)] 137, mkr F1 bm l, mpg enc2 bs (fun q => (f q).map encI)]) (fun w hS => ((St.pick (St.pick (St.pick (St.pick (St.pick hS (c := mpg enc2 bs (fun q => (f q).map encI)) (by repeat (first | exact Rem.here | apply Rem.there))) (c := mkr F1 bm l) (by repeat (first | exact Rem.here | apply Rem.there))) (c := pt b11 [Value.int .i64 (x : Int), .int .i64 (y : Int)] 137) (by repeat (first | exact Rem.here | apply Rem.there))) (c := pt (b14, b15).2 [Value.int .i64 ((atD lb y).1 : Int), .int .i64 ((atD lb y).2.1 : Int), .int .i64 ((atD lb y).2.2 : Int)] 63) (by repeat (first | exact Rem.here | apply Rem.there))) (c := pt (b14, b15).1 [Value.int .i64 ((atD la x).1 : Int), .int .i64 ((atD la x).2.1 : Int), .int .i64 ((atD la x).2.2 : Int)] 63) (by repeat (first | exact Rem.here | apply Rem.there)))).sublist (List.Sublist.cons_cons _ (List.Sublist.cons_cons _ (List.Sublist.cons_cons _ (List.Sublist.cons_cons _ (List.Sublist.cons_cons _ (List.nil_sublist _))))))) ?_
              exact WQ.byCut (hQ (b14, b15)) ⟨rfl, rfl, rfl, rfl, rfl, rfl, rfl, trivial⟩
            · skip
              refine WL.alloc F.zero63 rfl (fun b15 => ?_)
              refine WD.on (closed_of (by kernel_rfl)) (fun w hS => Sx.gone rfl (Sx.keep (fun j v hv => hS.oldc (hE.ce (3 + j) v (by rw [Nat.add_comm]; rcases j with _ | _ | j <;> first | exact hv | simp at hv)) hE.ce') (Sx.none))) ?_
              refine WD.one (i := 11) (by kernel_rfl) rfl ?_
              refine WL.callV F.fun81 rfl rfl (fun w hS => at_c lb ab cb rb y w (by omega) hy (hE.rdb.now hS)) ?_
              refine WD.on (closed_of (by kernel_rfl)) (fun w hS => Sx.gone rfl (Sx.gone rfl (Sx.none))) ?_
              refine WD.one (i := 14) (by kernel_rfl) rfl ?_
              refine WL.storeN F.agg63 rfl rfl rfl (by simp [Value.oneCell']) (by repeat (first | exact Upd.here | apply Upd.there)) (by repeat constructor) ?_
              refine WD.on (closed_of (by kernel_rfl)) (fun w hS => Sx.gone rfl (Sx.gone rfl (Sx.none))) ?_
              refine WD.one (i := 15) (by kernel_rfl) rfl ?_
              refine WL.storeN F.agg63 rfl rfl rfl (by simp [Value.oneCell']) (by repeat (first | exact Upd.here | apply Upd.there)) (by repeat constructor) ?_
              refine WD.on (closed_of (by kernel_rfl)) (fun w hS => Sx.gone rfl (Sx.gone rfl (Sx.none))) ?_
              refine WD.done (by kernel_rfl) ?_
              refine WQ.chunks (C' := [pt (b14, b15).1 [Value.int .i64 ((atD la x).1 : Int), .int .i64 ((atD la x).2.1 : Int), .int .i64 ((atD la x).2.2 : Int)] 63, pt (b14, b15).2 [Value.int .i64 ((atD lb y).1 : Int), .int .i64 ((atD lb y).2.1 : Int), .int .i64 ((atD lb y).2.2 : Int)] 63, pt b11 [Value.int .i64 (x : Int), .int .i64 (y : Int)] 137, mkr F1 bm l, mpg enc2 bs (fun q => (f q).map encI)]) (fun w hS => ((St.pick (St.pick (St.pick (St.pick (St.pick hS (c := mpg enc2 bs (fun q => (f q).map encI)) (by repeat (first | exact Rem.here | apply Rem.there))) (c := mkr F1 bm l) (by repeat (first | exact Rem.here | apply Rem.there))) (c := pt b11 [Value.int .i64 (x : Int), .int .i64 (y : Int)] 137) (by repeat (first | exact Rem.here | apply Rem.there))) (c := pt (b14, b15).2 [Value.int .i64 ((atD lb y).1 : Int), .int .i64 ((atD lb y).2.1 : Int), .int .i64 ((atD lb y).2.2 : Int)] 63) (by repeat (first | exact Rem.here | apply Rem.there))) (c := pt (b14, b15).1 [Value.int .i64 ((atD la x).1 : Int), .int .i64 ((atD la x).2.1 : Int), .int .i64 ((atD la x).2.2 : Int)] 63) (by repeat (first | exact Rem.here | apply Rem.there)))).sublist (List.Sublist.cons_cons _ (List.Sublist.cons_cons _ (List.Sublist.cons_cons _ (List.Sublist.cons_cons _ (List.Sublist.cons_cons _ (List.nil_sublist _))))))) ?_
              exact WQ.byCut (hQ (b14, b15)) ⟨rfl, rfl, rfl, rfl, rfl, rfl, rfl, trivial⟩
          · skip
            refine WL.alloc F.zero63 rfl (fun b15 => ?_)
            refine WD.on (closed_of (by kernel_rfl)) (fun w hS => Sx.keep (fun j v hv => hS.oldc (hE.ce (1 + j) v (by rw [Nat.add_comm]; rcases j with _ | _ | j <;> first | exact hv | simp at hv)) hE.ce') (Sx.keep (fun j v hv => hS.oldc (hE.ce (3 + j) v (by rw [Nat.add_comm]; rcases j with _ | _ | j <;> first | exact hv | simp at hv)) hE.ce') (Sx.none))) ?_
            refine WD.one (i := 5) (by kernel_rfl) rfl ?_
            refine WL.callV F.fun81 rfl rfl (fun w hS => at_c la aa ca ra x w (by omega) hx (hE.rda.now hS)) ?_
            refine WD.on (closed_of (by kernel_rfl)) (fun w hS => Sx.gone rfl (Sx.keep (fun j v hv => hS.oldc (hE.ce (3 + j) v (by rw [Nat.add_comm]; rcases j with _ | _ | j <;> first | exact hv | simp at hv)) hE.ce') (Sx.none))) ?_
            refine WD.one (i := 11) (by kernel_rfl) rfl ?_
            refine WL.callV F.fun81 rfl rfl (fun w hS => at_c lb ab cb rb y w (by omega) hy (hE.rdb.now hS)) ?_
            refine WD.on (closed_of (by kernel_rfl)) (fun w hS => Sx.gone rfl (Sx.gone rfl (Sx.none))) ?_
            refine WD.one (i := 14) (by kernel_rfl) rfl ?_
            refine WL.storeN F.agg63 rfl rfl rfl (by simp [Value.oneCell']) (by repeat (first | exact Upd.here | apply Upd.there)) (by repeat constructor) ?_
            refine WD.on (closed_of (by kernel_rfl)) (fun w hS => Sx.gone rfl (Sx.gone rfl (Sx.none))) ?_
            refine WD.one (i := 15) (by kernel_rfl) rfl ?_
            refine WL.storeN F.agg63 rfl rfl rfl (by simp [Value.oneCell']) (by repeat (first | exact Upd.here | apply Upd.there)) (by repeat constructor) ?_
            refine WD.on (closed_of (by kernel_rfl)) (fun w hS => Sx.gone rfl (Sx.gone rfl (Sx.none))) ?_
            refine WD.done (by kernel_rfl) ?_
            refine WQ.chunks (C' := [pt (b14, b15).1 [Value.int .i64 ((atD la x).1 : Int), .int .i64 ((atD la x).2.1 : Int), .int .i64 ((atD la x).2.2 : Int)] 63, pt (b14, b15).2 [Value.int .i64 ((atD lb y).1 : Int), .int .i64 ((atD lb y).2.1 : Int), .int .i64 ((atD lb y).2.2 : Int)] 63, pt b11 [Value.int .i64 (x : Int), .int .i64 (y : Int)] 137, mkr F1 bm l, mpg enc2 bs (fun q => (f q).map encI)]) (fun w hS => ((St.pick (St.pick (St.pick (St.pick (St.pick hS (c := mpg enc2 bs (fun q => (f q).map encI)) (by repeat (first | exact Rem.here | apply Rem.there))) (c := mkr F1 bm l) (by repeat (first | exact Rem.here | apply Rem.there))) (c := pt b11 [Value.int .i64 (x : Int), .int .i64 (y : Int)] 137) (by repeat (first | exact Rem.here | apply Rem.there))) (c := pt (b14, b15).2 [Value.int .i64 ((atD lb y).1 : Int), .int .i64 ((atD lb y).2.1 : Int), .int .i64 ((atD lb y).2.2 : Int)] 63) (by repeat (first | exact Rem.here | apply Rem.there))) (c := pt (b14, b15).1 [Value.int .i64 ((atD la x).1 : Int), .int .i64 ((atD la x).2.1 : Int), .int .i64 ((atD la x).2.2 : Int)] 63) (by repeat (first | exact Rem.here | apply Rem.there)))).sublist (List.Sublist.cons_cons _ (List.Sublist.cons_cons _ (List.Sublist.cons_cons _ (List.Sublist.cons_cons _ (List.Sublist.cons_cons _ (List.nil_sublist _))))))) ?_
            exact WQ.byCut (hQ (b14, b15)) ⟨rfl, rfl, rfl, rfl, rfl, rfl, rfl, trivial⟩
        · skip
          refine WL.alloc F.zero63 rfl (fun b15 => ?_)
          refine WD.on (closed_of (by kernel_rfl)) (fun w hS => Sx.keep (fun j v hv => hS.oldc (hE.ce (1 + j) v (by rw [Nat.add_comm]; rcases j with _ | _ | j <;> first | exact hv | simp at hv)) hE.ce') (Sx.keep (fun j v hv => hS.oldc (hE.ce (3 + j) v (by rw [Nat.add_comm]; rcases j with _ | _ | j <;> first | exact hv | simp at hv)) hE.ce') (Sx.none))) ?_
          refine WD.two (i := 5) (j := 12) (by kernel_rfl) rfl rfl ?_ ?_
          · skip
            refine WL.callV F.fun81 rfl rfl (fun w hS => at_c la aa ca ra x w (by omega) hx (hE.rda.now hS)) ?_
            refine WD.on (closed_of (by kernel_rfl)) (fun w hS => Sx.gone rfl (Sx.keep (fun j v hv => hS.oldc (hE.ce (3 + j) v (by rw [Nat.add_comm]; rcases j with _ | _ | j <;> first | exact hv | simp at hv)) hE.ce') (Sx.none))) ?_
            refine WD.two (i := 11) (j := 12) (by kernel_rfl) rfl rfl ?_ ?_
            · skip
              refine WL.callV F.fun81 rfl rfl (fun w hS => at_c lb ab cb rb y w (by omega) hy (hE.rdb.now hS)) ?_
              refine WD.on (closed_of (by kernel_rfl)) (fun w hS => Sx.gone rfl (Sx.gone rfl (Sx.none))) ?_
              refine WD.one (i := 12) (by kernel_rfl) rfl ?_
              refine WL.alloc F.zero63 rfl (fun b14 => ?_)
              refine WD.on (closed_of (by kernel_rfl)) (fun w hS => Sx.gone rfl (Sx.gone rfl (Sx.none))) ?_
              refine WD.one (i := 14) (by kernel_rfl) rfl ?_
              refine WL.storeN F.agg63 rfl rfl rfl (by simp [Value.oneCell']) (by repeat (first | exact Upd.here | apply Upd.there)) (by repeat constructor) ?_
              refine WD.on (closed_of (by kernel_rfl)) (fun w hS => Sx.gone rfl (Sx.gone rfl (Sx.none))) ?_
              refine WD.one (i := 15) (by kernel_rfl) rfl ?_
              refine WL.storeN F.agg63 rfl rfl rfl (by simp [Value.oneCell']) (by repeat (first | exact Upd.here | apply Upd.there)) (by repeat constructor) ?_
              refine WD.on (closed_of (by kernel_rfl)) (fun w hS => Sx.gone rfl (Sx.gone rfl (Sx.none))) ?_
              refine WD.done (by kernel_rfl) ?_
              refine WQ.chunks (C' := [pt (b14, b15).1 [Value.int .i64 ((atD la x).1 : Int), .int .i64 ((atD la x).2.1 : Int), .int .i64 ((atD la x).2.2 : Int)] 63, pt (b14, b15).2 [Value.int .i64 ((atD lb y).1 : Int), .int .i64 ((atD lb y).2.1 : Int), .int .i64 ((atD lb y).2.2 : Int)] 63, pt b11 [Value.int .i64 (x : Int), .int .i64 (y : Int)] 137, mkr F1 bm l, mpg enc2 bs (fun q => (f q).map encI)]) (fun w hS => ((St.pick (St.pick (St.pick (St.pick (St.pick hS (c := mpg enc2 bs (fun q => (f q).map encI)) (by repeat (first | exact Rem.here | apply Rem.there))) (c := mkr F1 bm l) (by repeat (first | exact Rem.here | apply Rem.there))) (c := pt b11 [Value.int .i64 (x : Int), .int .i64 (y : Int)] 137) (by repeat (first | exact Rem.here | apply Rem.there))) (c := pt (b14, b15).2 [Value.int .i64 ((atD lb y).1 : Int), .int .i64 ((atD lb y).2.1 : Int), .int .i64 ((atD lb y).2.2 : Int)] 63) (by repeat (first | exact Rem.here | apply Rem.there))) (c := pt (b14, b15).1 [Value.int .i64 ((atD la x).1 : Int), .int .i64 ((atD la x).2.1 : Int), .int .i64 ((atD la x).2.2 : Int)] 63) (by repeat (first | exact Rem.here | apply Rem.there)))).sublist (List.Sublist.cons_cons _ (List.Sublist.cons_cons _ (List.Sublist.cons_cons _ (List.Sublist.cons_cons _ (List.Sublist.cons_cons _ (List.nil_sublist _))))))) ?_
              exact WQ.byCut (hQ (b14, b15)) ⟨rfl, rfl, rfl, rfl, rfl, rfl, rfl, trivial⟩
            · skip
              refine WL.alloc F.zero63 rfl (fun b14 => ?_)
              refine WD.on (closed_of (by kernel_rfl)) (fun w hS => Sx.gone rfl (Sx.keep (fun j v hv => hS.oldc (hE.ce (3 + j) v (by rw [Nat.add_comm]; rcases j with _ | _ | j <;> first | exact hv | simp at hv)) hE.ce') (Sx.none))) ?_
              refine WD.one (i := 11) (by kernel_rfl) rfl ?_
              refine WL.callV F.fun81 rfl rfl (fun w hS => at_c lb ab cb rb y w (by omega) hy (hE.rdb.now hS)) ?_
              refine WD.on (closed_of (by kernel_rfl)) (fun w hS => Sx.gone rfl (Sx.gone rfl (Sx.none))) ?_
              refine WD.one (i := 14) (by kernel_rfl) rfl ?_
              refine WL.storeN F.agg63 rfl rfl rfl (by simp [Value.oneCell']) (by repeat (first | exact Upd.here | apply Upd.there)) (by repeat constructor) ?_
              refine WD.on (closed_of (by kernel_rfl)) (fun w hS => Sx.gone rfl (Sx.gone rfl (Sx.none))) ?_
              refine WD.one (i := 15) (by kernel_rfl) rfl ?_
              refine WL.storeN F.agg63 rfl rfl rfl (by simp [Value.oneCell']) (by repeat (first | exact Upd.here | apply Upd.there)) (by repeat constructor) ?_
              refine WD.on (closed_of (by kernel_rfl)) (fun w hS => Sx.gone rfl (Sx.gone rfl (Sx.none))) ?_
              refine WD.done (by kernel_rfl) ?_
              refine WQ.chunks (C' := [pt (b14, b15).1 [Value.int .i64 ((atD la x).1 : Int), .int .i64 ((atD la x).2.1 : Int), .int .i64 ((atD la x).2.2 : Int)] 63, pt (b14, b15).2 [Value.int .i64 ((atD lb y).1 : Int), .int .i64 ((atD lb y).2.1 : Int), .int .i64 ((atD lb y).2.2 : Int)] 63, pt b11 [Value.int .i64 (x : Int), .int .i64 (y : Int)] 137, mkr F1 bm l, mpg enc2 bs (fun q => (f q).map encI)]) (fun w hS => ((St.pick (St.pick (St.pick (St.pick (St.pick hS (c := mpg enc2 bs (fun q => (f q).map encI)) (by repeat (first | exact Rem.here | apply Rem.there))) (c := mkr F1 bm l) (by repeat (first | exact Rem.here | apply Rem.there))) (c := pt b11 [Value.int .i64 (x : Int), .int .i64 (y : Int)] 137) (by repeat (first | exact Rem.here | apply Rem.there))) (c := pt (b14, b15).2 [Value.int .i64 ((atD lb y).1 : Int), .int .i64 ((atD lb y).2.1 : Int), .int .i64 ((atD lb y).2.2 : Int)] 63) (by repeat (first | exact Rem.here | apply Rem.there))) (c := pt (b14, b15).1 [Value.int .i64 ((atD la x).1 : Int), .int .i64 ((atD la x).2.1 : Int), .int .i64 ((atD la x).2.2 : Int)] 63) (by repeat (first | exact Rem.here | apply Rem.there)))).sublist (List.Sublist.cons_cons _ (List.Sublist.cons_cons _ (List.Sublist.cons_cons _ (List.Sublist.cons_cons _ (List.Sublist.cons_cons _ (List.nil_sublist _))))))) ?_
              exact WQ.byCut (hQ (b14, b15)) ⟨rfl, rfl, rfl, rfl, rfl, rfl, rfl, trivial⟩
          · skip
            refine WL.alloc F.zero63 rfl (fun b14 => ?_)
            refine WD.on (closed_of (by kernel_rfl)) (fun w hS => Sx.keep (fun j v hv => hS.oldc (hE.ce (1 + j) v (by rw [Nat.add_comm]; rcases j with _ | _ | j <;> first | exact hv | simp at hv)) hE.ce') (Sx.keep (fun j v hv => hS.oldc (hE.ce (3 + j) v (by rw [Nat.add_comm]; rcases j with _ | _ | j <;> first | exact hv | simp at hv)) hE.ce') (Sx.none))) ?_
            refine WD.one (i := 5) (by kernel_rfl) rfl ?_
            refine WL.callV F.fun81 rfl rfl (fun w hS => at_c la aa ca ra x w (by omega) hx (hE.rda.now hS)) ?_
            refine WD.on (closed_of (by kernel_rfl)) (fun w hS => Sx.gone rfl (Sx.keep (fun j v hv => hS.oldc (hE.ce (3 + j) v (by rw [Nat.add_comm]; rcases j with _ | _ | j <;> first | exact hv | simp at hv)) hE.ce') (Sx.none))) ?_
            refine WD.one (i := 11) (by kernel_rfl) rfl ?_
            refine WL.callV F.fun81 rfl rfl (fun w hS => at_c lb ab cb rb y w (by omega) hy (hE.rdb.now hS)) ?_
            refine WD.on (closed_of (by kernel_rfl)) (fun w hS => Sx.gone rfl (Sx.gone rfl (Sx.none))) ?_
            refine WD.one (i := 14) (by kernel_rfl) rfl ?_
            refine WL.storeN F.agg63 rfl rfl rfl (by simp [Value.oneCell']) (by repeat (first | exact Upd.here | apply Upd.there)) (by repeat constructor) ?_
            refine WD.on (closed_of (by kernel_rfl)) (fun w hS => Sx.gone rfl (Sx.gone rfl (Sx.none))) ?_
            refine WD.one (i := 15) (by kernel_rfl) rfl ?_
            refine WL.storeN F.agg63 rfl rfl rfl (by simp [Value.oneCell']) (by repeat (first | exact Upd.here | apply Upd.there)) (by repeat constructor) ?_
            refine WD.on (closed_of (by kernel_rfl)) (fun w hS => Sx.gone rfl (Sx.gone rfl (Sx.none))) ?_
            refine WD.done (by kernel_rfl) ?_
            refine WQ.chunks (C' := [pt (b14, b15).1 [Value.int .i64 ((atD la x).1 : Int), .int .i64 ((atD la x).2.1 : Int), .int .i64 ((atD la x).2.2 : Int)] 63, pt (b14, b15).2 [Value.int .i64 ((atD lb y).1 : Int), .int .i64 ((atD lb y).2.1 : Int), .int .i64 ((atD lb y).2.2 : Int)] 63, pt b11 [Value.int .i64 (x : Int), .int .i64 (y : Int)] 137, mkr F1 bm l, mpg enc2 bs (fun q => (f q).map encI)]) (fun w hS => ((St.pick (St.pick (St.pick (St.pick (St.pick hS (c := mpg enc2 bs (fun q => (f q).map encI)) (by repeat (first | exact Rem.here | apply Rem.there))) (c := mkr F1 bm l) (by repeat (first | exact Rem.here | apply Rem.there))) (c := pt b11 [Value.int .i64 (x : Int), .int .i64 (y : Int)] 137) (by repeat (first | exact Rem.here | apply Rem.there))) (c := pt (b14, b15).2 [Value.int .i64 ((atD lb y).1 : Int), .int .i64 ((atD lb y).2.1 : Int), .int .i64 ((atD lb y).2.2 : Int)] 63) (by repeat (first | exact Rem.here | apply Rem.there))) (c := pt (b14, b15).1 [Value.int .i64 ((atD la x).1 : Int), .int .i64 ((atD la x).2.1 : Int), .int .i64 ((atD la x).2.2 : Int)] 63) (by repeat (first | exact Rem.here | apply Rem.there)))).sublist (List.Sublist.cons_cons _ (List.Sublist.cons_cons _ (List.Sublist.cons_cons _ (List.Sublist.cons_cons _ (List.Sublist.cons_cons _ (List.nil_sublist _))))))) ?_
            exact WQ.byCut (hQ (b14, b15)) ⟨rfl, rfl, rfl, rfl, rfl, rfl, rfl, trivial⟩
      obtain ⟨b14, b15⟩ := xE
      show WQ _ _ _ _ _ _ [(0, pp bp), (1, .int .i64 (x : Int)), (2, .int .i64 (y : Int)), (3, Value.func (.func g) [].toArray [].toArray), (11, pp b11), (14, pp b14), (15, pp b15)] [pt b14 [Value.int .i64 ((atD la x).1 : Int), .int .i64 ((atD la x).2.1 : Int), .int .i64 ((atD la x).2.2 : Int)] 63, pt b15 [Value.int .i64 ((atD lb y).1 : Int), .int .i64 ((atD lb y).2.1 : Int), .int .i64 ((atD lb y).2.2 : Int)] 63, pt b11 [Value.int .i64 (x : Int), .int .i64 (y : Int)] 137, mkr F1 bm l, mpg enc2 bs (fun q => (f q).map encI)]
      obtain ⟨i, hi⟩ : ∃ i, i = min (atD la x).1 (atD lb y).1 := ⟨_, rfl⟩
      have hgo := hop.spec.go x y h28
      have hi24 : i < 24 := by
        rcases hgo with h | h
        · have := atD_lt ha hx h; omega
        · have := atD_lt hb hy h; omega
      have hmi : m ≤ i := by have e1 := atD_ok ha hx hox hm24; have e2 := atD_ok hb hy hoy hm24; omega
      obtain ⟨a1, a2, a3, a4, _, _, a7⟩ := half_at ha hx hox (i := i) (by omega) hi24
      obtain ⟨c1, c2, c3, c4, _, _, c7⟩ := half_at hb hy hoy (i := i) (by omega) hi24
      have hp2 : 2 ^ (24 - (i + 1)) + 2 ^ (24 - (i + 1)) ≤ 2 ^ (24 - m) := by (have e1 : 2 ^ (24 - i) = 2 ^ (24 - (i + 1)) * 2 := by (rw [← Nat.pow_succ]; congr 1; omega)); (have e2 : 2 ^ (24 - i) ≤ 2 ^ (24 - m) := Nat.pow_le_pow_right (by decide) (by omega)); omega
      refine WQ.then_normal ?_
      refine WC.seq ?_
      refine WC.region ?_
      refine WL.step ?_
      refine WL.fieldAddr0 F.fld63_0 rfl rfl ?_
      refine WL.step ?_
      refine WL.loadP F.one3 rfl rfl (by repeat (first | exact List.Mem.head _ | apply List.Mem.tail)) rfl ?_
      refine WL.step ?_
      refine WL.fieldAddr0 F.fld63_0 rfl rfl ?_
      refine WL.step ?_
      refine WL.loadP F.one3 rfl rfl (by repeat (first | exact List.Mem.head _ | apply List.Mem.tail)) rfl ?_
      refine WL.step ?_
      refine WL.minI (r := (i : Int)) rfl rfl rfl (by (split) <;> omega) ?_
      refine WL.step ?_
      refine WL.assign rfl rfl ?_
      refine WL.nil ?_
      refine WQ.then_normal ?_
      refine WC.seq ?_
      refine WC.region ?_
      refine WL.step ?_
      refine WL.move rfl rfl ?_
      refine WL.step ?_
      refine WL.move rfl rfl ?_
      refine WL.step ?_
      refine WL.buildA F.arT137 rfl (by repeat (first | exact Built.nil | apply Built.one rfl rfl (by repeat constructor) | apply Built.agg rfl rfl (by repeat constructor))) rfl ?_
      refine WL.step ?_
      refine WL.move rfl rfl ?_
      refine WL.step ?_
      refine WL.move rfl rfl ?_
      refine WL.step ?_
      refine WL.buildA F.arT137 rfl (by repeat (first | exact Built.nil | apply Built.one rfl rfl (by repeat constructor) | apply Built.agg rfl rfl (by repeat constructor))) rfl ?_
      refine WL.step ?_
      refine WL.alloc F.zero137 rfl (fun b17 => ?_)
      refine WL.step ?_
      refine WL.alloc F.zero137 rfl (fun b18 => ?_)
      refine WL.step ?_
      refine WL.storeN F.agg137 rfl rfl rfl (by simp [Value.oneCell']) (by repeat (first | exact Upd.here | apply Upd.there)) (by repeat constructor) ?_
      refine WL.step ?_
      refine WL.storeN F.agg137 rfl rfl rfl (by simp [Value.oneCell']) (by repeat (first | exact Upd.here | apply Upd.there)) (by repeat constructor) ?_
      refine WL.nil ?_
      refine WQ.then_normal ?_
      refine WC.seq ?_
      refine WC.seq ?_
      refine WC.region ?_
      refine WL.step ?_
      refine WL.fieldAddr0 F.fld63_0 rfl rfl ?_
      refine WL.step ?_
      refine WL.loadP F.one3 rfl rfl (by repeat (first | exact List.Mem.head _ | apply List.Mem.tail)) rfl ?_
      refine WL.step ?_
      refine WL.move rfl rfl ?_
      refine WL.step ?_
      refine WL.eqI rfl rfl rfl ?_
      refine WL.nil ?_
      refine WQ.then_normal ?_
      refine WC.cutQ ([(0, pp bp), (1, .int .i64 (x : Int)), (2, .int .i64 (y : Int)), (3, Value.func (.func g) [].toArray [].toArray), (11, pp b11), (14, pp b14), (15, pp b15), (16, .int .i64 (i : Int)), (17, pp b17), (18, pp b18)]) ([pt b17 [.int .i64 (loP la x i : Int), .int .i64 (y : Int)] 137, pt b18 [.int .i64 (hiP la x i : Int), .int .i64 (y : Int)] 137, pt b15 [Value.int .i64 ((atD lb y).1 : Int), .int .i64 ((atD lb y).2.1 : Int), .int .i64 ((atD lb y).2.2 : Int)] 63, pt b11 [Value.int .i64 (x : Int), .int .i64 (y : Int)] 137, mkr F1 bm l, mpg enc2 bs (fun q => (f q).map encI)]) (fun c a d v w h => by cases d <;> exact h) (fun Q' hP hQ => ?_) ?_
      · skip
        refine WC.cond rfl (fun h70 => ?_) (fun h70 => ?_)
        · skip
          have h70n : (atD la x).1 = i := by simp at h70; omega
          have e70 : loP la x i = (atD la x).2.1 ∧ hiP la x i = (atD la x).2.2 := by unfold loP hiP; rw [if_pos h70n, if_pos h70n]; exact ⟨rfl, rfl⟩
          refine WC.drawsL (by kernel_rfl) (FactsOk.cons (ds := [5, 7]) (LoadOk.one (t := 14) (off := 1) rfl (by repeat (first | exact List.Mem.head _ | apply List.Mem.tail)) rfl) (FactsOk.cons (ds := [7]) (LoadOk.one (t := 14) (off := 2) rfl (by repeat (first | exact List.Mem.head _ | apply List.Mem.tail)) rfl) (FactsOk.nil))) ?_
          refine WD.take (i := 0) rfl rfl rfl rfl (by kernel_rfl) (by kernel_rfl) (by kernel_rfl) (fun _ _ _ h => hP _ _ _ _ _ h) (by kernel_rfl) need_none (Yl.fieldAddr0 F.fld63_1 rfl) ?_
          refine WD.take (i := 1) rfl rfl rfl rfl (by kernel_rfl) (by kernel_rfl) (by kernel_rfl) (fun _ _ _ h => hP _ _ _ _ _ h) (by kernel_rfl) (need_at 0 8 rfl (by kernel_rfl)) (Yl.load1 F.one3 rfl) ?_
          refine WD.take (i := 2) rfl rfl rfl rfl (by kernel_rfl) (by kernel_rfl) (by kernel_rfl) (fun _ _ _ h => hP _ _ _ _ _ h) (by kernel_rfl) need_none (Yl.fieldAddr0 F.fld63_2 rfl) ?_
          refine WD.take (i := 3) rfl rfl rfl rfl (by kernel_rfl) (by kernel_rfl) (by kernel_rfl) (fun _ _ _ h => hP _ _ _ _ _ h) (by kernel_rfl) (need_at 1 8 rfl (by kernel_rfl)) (Yl.load1 F.one3 rfl) ?_
          refine WD.take (i := 4) rfl rfl rfl rfl (by kernel_rfl) (by kernel_rfl) (by kernel_rfl) (fun _ _ _ h => hP _ _ _ _ _ h) (by kernel_rfl) need_none (Yl.indexAddrA (i := 0) F.arT137 rfl rfl (by decide)) ?_
          refine WD.one (i := 5) (by kernel_rfl) rfl ?_
          refine WL.store1 F.one3 rfl rfl rfl (by repeat (first | exact Upd.here | apply Upd.there)) (by repeat constructor) ?_
          refine WD.on (closed_of (by kernel_rfl)) (fun w hS => Sx.gone rfl (Sx.keep (hS.cell (by repeat (first | exact List.Mem.head _ | apply List.Mem.tail)) rfl) (Sx.none))) ?_
          refine WD.take (i := 6) rfl rfl rfl rfl (by kernel_rfl) (by kernel_rfl) (by kernel_rfl) (fun _ _ _ h => hP _ _ _ _ _ h) (by kernel_rfl) need_none (Yl.indexAddrA (i := 0) F.arT137 rfl rfl (by decide)) ?_
          refine WD.one (i := 7) (by kernel_rfl) rfl ?_
          refine WL.store1 F.one3 rfl rfl rfl (by repeat (first | exact Upd.here | apply Upd.there)) (by repeat constructor) ?_
          refine WD.on (closed_of (by kernel_rfl)) (fun w hS => Sx.gone rfl (Sx.gone rfl (Sx.none))) ?_
          refine WD.done (by kernel_rfl) ?_
          refine WQ.chunks (C' := [pt b17 [.int .i64 (loP la x i : Int), .int .i64 (y : Int)] 137, pt b18 [.int .i64 (hiP la x i : Int), .int .i64 (y : Int)] 137, pt b15 [Value.int .i64 ((atD lb y).1 : Int), .int .i64 ((atD lb y).2.1 : Int), .int .i64 ((atD lb y).2.2 : Int)] 63, pt b11 [Value.int .i64 (x : Int), .int .i64 (y : Int)] 137, mkr F1 bm l, mpg enc2 bs (fun q => (f q).map encI)]) (fun w hS => ?_) (WQ.byCut hQ ⟨rfl, rfl, rfl, rfl, rfl, rfl, rfl, rfl, rfl, rfl, trivial⟩)
          rw [e70.1, e70.2]
          first | exact ((St.pick (St.pick (St.pick (St.pick (St.pick (St.pick hS (c := mpg enc2 bs (fun q => (f q).map encI)) (by repeat (first | exact Rem.here | apply Rem.there))) (c := mkr F1 bm l) (by repeat (first | exact Rem.here | apply Rem.there))) (c := pt b11 [Value.int .i64 (x : Int), .int .i64 (y : Int)] 137) (by repeat (first | exact Rem.here | apply Rem.there))) (c := pt b15 [Value.int .i64 ((atD lb y).1 : Int), .int .i64 ((atD lb y).2.1 : Int), .int .i64 ((atD lb y).2.2 : Int)] 63) (by repeat (first | exact Rem.here | apply Rem.there))) (c := pt b18 [.int .i64 ((atD la x).2.2 : Int), .int .i64 (y : Int)] 137) (by repeat (first | exact Rem.here | apply Rem.there))) (c := pt b17 [.int .i64 ((atD la x).2.1 : Int), .int .i64 (y : Int)] 137) (by repeat (first | exact Rem.here | apply Rem.there)))).sublist (List.Sublist.cons_cons _ (List.Sublist.cons_cons _ (List.Sublist.cons_cons _ (List.Sublist.cons_cons _ (List.Sublist.cons_cons _ (List.Sublist.cons_cons _ (List.nil_sublist _))))))) | exact ((St.pick (St.pick (St.pick (St.pick (St.pick (St.pick hS (c := mpg enc2 bs (fun q => (f q).map encI)) (by repeat (first | exact Rem.here | apply Rem.there))) (c := mkr F1 bm l) (by repeat (first | exact Rem.here | apply Rem.there))) (c := pt b11 [Value.int .i64 (x : Int), .int .i64 (y : Int)] 137) (by repeat (first | exact Rem.here | apply Rem.there))) (c := pt b15 [Value.int .i64 ((atD lb y).1 : Int), .int .i64 ((atD lb y).2.1 : Int), .int .i64 ((atD lb y).2.2 : Int)] 63) (by repeat (first | exact Rem.here | apply Rem.there))) (c := pt b18 [.int .i64 (x : Int), .int .i64 (y : Int)] 137) (by repeat (first | exact Rem.here | apply Rem.there))) (c := pt b17 [.int .i64 (x : Int), .int .i64 (y : Int)] 137) (by repeat (first | exact Rem.here | apply Rem.there)))).sublist (List.Sublist.cons_cons _ (List.Sublist.cons_cons _ (List.Sublist.cons_cons _ (List.Sublist.cons_cons _ (List.Sublist.cons_cons _ (List.Sublist.cons_cons _ (List.nil_sublist _)))))))
        · skip
          have h70n : ¬ (atD la x).1 = i := by simp at h70; omega
          have e70 : loP la x i = x ∧ hiP la x i = x := by unfold loP hiP; rw [if_neg h70n, if_neg h70n]; exact ⟨rfl, rfl⟩
          refine WC.skip ?_
          refine WQ.chunks (C' := [pt b17 [.int .i64 (loP la x i : Int), .int .i64 (y : Int)] 137, pt b18 [.int .i64 (hiP la x i : Int), .int .i64 (y : Int)] 137, pt b15 [Value.int .i64 ((atD lb y).1 : Int), .int .i64 ((atD lb y).2.1 : Int), .int .i64 ((atD lb y).2.2 : Int)] 63, pt b11 [Value.int .i64 (x : Int), .int .i64 (y : Int)] 137, mkr F1 bm l, mpg enc2 bs (fun q => (f q).map encI)]) (fun w hS => ?_) (WQ.byCut hQ ⟨rfl, rfl, rfl, rfl, rfl, rfl, rfl, rfl, rfl, rfl, trivial⟩)
          rw [e70.1, e70.2]
          first | exact ((St.pick (St.pick (St.pick (St.pick (St.pick (St.pick hS (c := mpg enc2 bs (fun q => (f q).map encI)) (by repeat (first | exact Rem.here | apply Rem.there))) (c := mkr F1 bm l) (by repeat (first | exact Rem.here | apply Rem.there))) (c := pt b11 [Value.int .i64 (x : Int), .int .i64 (y : Int)] 137) (by repeat (first | exact Rem.here | apply Rem.there))) (c := pt b15 [Value.int .i64 ((atD lb y).1 : Int), .int .i64 ((atD lb y).2.1 : Int), .int .i64 ((atD lb y).2.2 : Int)] 63) (by repeat (first | exact Rem.here | apply Rem.there))) (c := pt b18 [.int .i64 ((atD la x).2.2 : Int), .int .i64 (y : Int)] 137) (by repeat (first | exact Rem.here | apply Rem.there))) (c := pt b17 [.int .i64 ((atD la x).2.1 : Int), .int .i64 (y : Int)] 137) (by repeat (first | exact Rem.here | apply Rem.there)))).sublist (List.Sublist.cons_cons _ (List.Sublist.cons_cons _ (List.Sublist.cons_cons _ (List.Sublist.cons_cons _ (List.Sublist.cons_cons _ (List.Sublist.cons_cons _ (List.nil_sublist _))))))) | exact ((St.pick (St.pick (St.pick (St.pick (St.pick (St.pick hS (c := mpg enc2 bs (fun q => (f q).map encI)) (by repeat (first | exact Rem.here | apply Rem.there))) (c := mkr F1 bm l) (by repeat (first | exact Rem.here | apply Rem.there))) (c := pt b11 [Value.int .i64 (x : Int), .int .i64 (y : Int)] 137) (by repeat (first | exact Rem.here | apply Rem.there))) (c := pt b15 [Value.int .i64 ((atD lb y).1 : Int), .int .i64 ((atD lb y).2.1 : Int), .int .i64 ((atD lb y).2.2 : Int)] 63) (by repeat (first | exact Rem.here | apply Rem.there))) (c := pt b18 [.int .i64 (x : Int), .int .i64 (y : Int)] 137) (by repeat (first | exact Rem.here | apply Rem.there))) (c := pt b17 [.int .i64 (x : Int), .int .i64 (y : Int)] 137) (by repeat (first | exact Rem.here | apply Rem.there)))).sublist (List.Sublist.cons_cons _ (List.Sublist.cons_cons _ (List.Sublist.cons_cons _ (List.Sublist.cons_cons _ (List.Sublist.cons_cons _ (List.Sublist.cons_cons _ (List.nil_sublist _)))))))
      refine WQ.then_normal ?_
      refine WC.seq ?_
      refine WC.seq ?_
      refine WC.region ?_
      refine WL.step ?_
      refine WL.fieldAddr0 F.fld63_0 rfl rfl ?_
      refine WL.step ?_
      refine WL.loadP F.one3 rfl rfl (by repeat (first | exact List.Mem.head _ | apply List.Mem.tail)) rfl ?_
      refine WL.step ?_
      refine WL.move rfl rfl ?_
      refine WL.step ?_
      refine WL.eqI rfl rfl rfl ?_
      refine WL.nil ?_
      refine WQ.then_normal ?_
      refine WC.cutQ ([(0, pp bp), (3, Value.func (.func g) [].toArray [].toArray), (11, pp b11), (14, pp b14), (15, pp b15), (16, .int .i64 (i : Int)), (17, pp b17), (18, pp b18)]) ([pt b17 [.int .i64 (loP la x i : Int), .int .i64 (loP lb y i : Int)] 137, pt b18 [.int .i64 (hiP la x i : Int), .int .i64 (hiP lb y i : Int)] 137, pt b11 [Value.int .i64 (x : Int), .int .i64 (y : Int)] 137, mkr F1 bm l, mpg enc2 bs (fun q => (f q).map encI)]) (fun c a d v w h => by cases d <;> exact h) (fun Q' hP hQ => ?_) ?_
      · skip
        refine WC.cond rfl (fun h80 => ?_) (fun h80 => ?_)
        · skip
          have h80n : (atD lb y).1 = i := by simp at h80; omega
          have e80 : loP lb y i = (atD lb y).2.1 ∧ hiP lb y i = (atD lb y).2.2 := by unfold loP hiP; rw [if_pos h80n, if_pos h80n]; exact ⟨rfl, rfl⟩
          refine WC.drawsL (by kernel_rfl) (FactsOk.cons (ds := [5, 7]) (LoadOk.one (t := 15) (off := 1) rfl (by repeat (first | exact List.Mem.head _ | apply List.Mem.tail)) rfl) (FactsOk.cons (ds := [7]) (LoadOk.one (t := 15) (off := 2) rfl (by repeat (first | exact List.Mem.head _ | apply List.Mem.tail)) rfl) (FactsOk.nil))) ?_
          refine WD.take (i := 0) rfl rfl rfl rfl (by kernel_rfl) (by kernel_rfl) (by kernel_rfl) (fun _ _ _ h => hP _ _ _ _ _ h) (by kernel_rfl) need_none (Yl.fieldAddr0 F.fld63_1 rfl) ?_
          refine WD.take (i := 1) rfl rfl rfl rfl (by kernel_rfl) (by kernel_rfl) (by kernel_rfl) (fun _ _ _ h => hP _ _ _ _ _ h) (by kernel_rfl) (need_at 0 8 rfl (by kernel_rfl)) (Yl.load1 F.one3 rfl) ?_
          refine WD.take (i := 2) rfl rfl rfl rfl (by kernel_rfl) (by kernel_rfl) (by kernel_rfl) (fun _ _ _ h => hP _ _ _ _ _ h) (by kernel_rfl) need_none (Yl.fieldAddr0 F.fld63_2 rfl) ?_
          refine WD.take (i := 3) rfl rfl rfl rfl (by kernel_rfl) (by kernel_rfl) (by kernel_rfl) (fun _ _ _ h => hP _ _ _ _ _ h) (by kernel_rfl) (need_at 1 8 rfl (by kernel_rfl)) (Yl.load1 F.one3 rfl) ?_
          refine WD.take (i := 4) rfl rfl rfl rfl (by kernel_rfl) (by kernel_rfl) (by kernel_rfl) (fun _ _ _ h => hP _ _ _ _ _ h) (by kernel_rfl) need_none (Yl.indexAddrA (i := 1) F.arT137 rfl rfl (by decide)) ?_
          refine WD.one (i := 5) (by kernel_rfl) rfl ?_
          refine WL.store1 F.one3 rfl rfl rfl (by repeat (first | exact Upd.here | apply Upd.there)) (by repeat constructor) ?_
          refine WD.on (closed_of (by kernel_rfl)) (fun w hS => Sx.gone rfl (Sx.keep (hS.cell (by repeat (first | exact List.Mem.head _ | apply List.Mem.tail)) rfl) (Sx.none))) ?_
          refine WD.take (i := 6) rfl rfl rfl rfl (by kernel_rfl) (by kernel_rfl) (by kernel_rfl) (fun _ _ _ h => hP _ _ _ _ _ h) (by kernel_rfl) need_none (Yl.indexAddrA (i := 1) F.arT137 rfl rfl (by decide)) ?_
          refine WD.one (i := 7) (by kernel_rfl) rfl ?_
          refine WL.store1 F.one3 rfl rfl rfl (by repeat (first | exact Upd.here | apply Upd.there)) (by repeat constructor) ?_
          refine WD.on (closed_of (by kernel_rfl)) (fun w hS => Sx.gone rfl (Sx.gone rfl (Sx.none))) ?_
          refine WD.done (by kernel_rfl) ?_
          refine WQ.chunks (C' := [pt b17 [.int .i64 (loP la x i : Int), .int .i64 (loP lb y i : Int)] 137, pt b18 [.int .i64 (hiP la x i : Int), .int .i64 (hiP lb y i : Int)] 137, pt b11 [Value.int .i64 (x : Int), .int .i64 (y : Int)] 137, mkr F1 bm l, mpg enc2 bs (fun q => (f q).map encI)]) (fun w hS => ?_) (WQ.byCut hQ ⟨rfl, rfl, rfl, rfl, rfl, rfl, rfl, rfl, trivial⟩)
          rw [e80.1, e80.2]
          first | exact ((St.pick (St.pick (St.pick (St.pick (St.pick hS (c := mpg enc2 bs (fun q => (f q).map encI)) (by repeat (first | exact Rem.here | apply Rem.there))) (c := mkr F1 bm l) (by repeat (first | exact Rem.here | apply Rem.there))) (c := pt b11 [Value.int .i64 (x : Int), .int .i64 (y : Int)] 137) (by repeat (first | exact Rem.here | apply Rem.there))) (c := pt b18 [.int .i64 (hiP la x i : Int), .int .i64 ((atD lb y).2.2 : Int)] 137) (by repeat (first | exact Rem.here | apply Rem.there))) (c := pt b17 [.int .i64 (loP la x i : Int), .int .i64 ((atD lb y).2.1 : Int)] 137) (by repeat (first | exact Rem.here | apply Rem.there)))).sublist (List.Sublist.cons_cons _ (List.Sublist.cons_cons _ (List.Sublist.cons_cons _ (List.Sublist.cons_cons _ (List.Sublist.cons_cons _ (List.nil_sublist _)))))) | exact ((St.pick (St.pick (St.pick (St.pick (St.pick hS (c := mpg enc2 bs (fun q => (f q).map encI)) (by repeat (first | exact Rem.here | apply Rem.there))) (c := mkr F1 bm l) (by repeat (first | exact Rem.here | apply Rem.there))) (c := pt b11 [Value.int .i64 (x : Int), .int .i64 (y : Int)] 137) (by repeat (first | exact Rem.here | apply Rem.there))) (c := pt b18 [.int .i64 (hiP la x i : Int), .int .i64 (y : Int)] 137) (by repeat (first | exact Rem.here | apply Rem.there))) (c := pt b17 [.int .i64 (loP la x i : Int), .int .i64 (y : Int)] 137) (by repeat (first | exact Rem.here | apply Rem.there)))).sublist (List.Sublist.cons_cons _ (List.Sublist.cons_cons _ (List.Sublist.cons_cons _ (List.Sublist.cons_cons _ (List.Sublist.cons_cons _ (List.nil_sublist _))))))
        · skip
          have h80n : ¬ (atD lb y).1 = i := by simp at h80; omega
          have e80 : loP lb y i = y ∧ hiP lb y i = y := by unfold loP hiP; rw [if_neg h80n, if_neg h80n]; exact ⟨rfl, rfl⟩
          refine WC.skip ?_
          refine WQ.chunks (C' := [pt b17 [.int .i64 (loP la x i : Int), .int .i64 (loP lb y i : Int)] 137, pt b18 [.int .i64 (hiP la x i : Int), .int .i64 (hiP lb y i : Int)] 137, pt b11 [Value.int .i64 (x : Int), .int .i64 (y : Int)] 137, mkr F1 bm l, mpg enc2 bs (fun q => (f q).map encI)]) (fun w hS => ?_) (WQ.byCut hQ ⟨rfl, rfl, rfl, rfl, rfl, rfl, rfl, rfl, trivial⟩)
          rw [e80.1, e80.2]
          first | exact ((St.pick (St.pick (St.pick (St.pick (St.pick hS (c := mpg enc2 bs (fun q => (f q).map encI)) (by repeat (first | exact Rem.here | apply Rem.there))) (c := mkr F1 bm l) (by repeat (first | exact Rem.here | apply Rem.there))) (c := pt b11 [Value.int .i64 (x : Int), .int .i64 (y : Int)] 137) (by repeat (first | exact Rem.here | apply Rem.there))) (c := pt b18 [.int .i64 (hiP la x i : Int), .int .i64 ((atD lb y).2.2 : Int)] 137) (by repeat (first | exact Rem.here | apply Rem.there))) (c := pt b17 [.int .i64 (loP la x i : Int), .int .i64 ((atD lb y).2.1 : Int)] 137) (by repeat (first | exact Rem.here | apply Rem.there)))).sublist (List.Sublist.cons_cons _ (List.Sublist.cons_cons _ (List.Sublist.cons_cons _ (List.Sublist.cons_cons _ (List.Sublist.cons_cons _ (List.nil_sublist _)))))) | exact ((St.pick (St.pick (St.pick (St.pick (St.pick hS (c := mpg enc2 bs (fun q => (f q).map encI)) (by repeat (first | exact Rem.here | apply Rem.there))) (c := mkr F1 bm l) (by repeat (first | exact Rem.here | apply Rem.there))) (c := pt b11 [Value.int .i64 (x : Int), .int .i64 (y : Int)] 137) (by repeat (first | exact Rem.here | apply Rem.there))) (c := pt b18 [.int .i64 (hiP la x i : Int), .int .i64 (y : Int)] 137) (by repeat (first | exact Rem.here | apply Rem.there))) (c := pt b17 [.int .i64 (loP la x i : Int), .int .i64 (y : Int)] 137) (by repeat (first | exact Rem.here | apply Rem.there)))).sublist (List.Sublist.cons_cons _ (List.Sublist.cons_cons _ (List.Sublist.cons_cons _ (List.Sublist.cons_cons _ (List.Sublist.cons_cons _ (List.nil_sublist _))))))
      refine WQ.then_normal ?_
      refine WC.seq ?_
      refine WC.region ?_
      refine WL.step ?_
      refine WL.move rfl rfl ?_
      refine WL.step ?_
      refine WL.indexAddrA (i := 0) F.arT137 rfl rfl rfl (by decide) ?_
      refine WL.step ?_
      refine WL.loadP F.one3 rfl rfl (by repeat (first | exact List.Mem.head _ | apply List.Mem.tail)) rfl ?_
      refine WL.step ?_
      refine WL.indexAddrA (i := 1) F.arT137 rfl rfl rfl (by decide) ?_
      refine WL.step ?_
      refine WL.loadP F.one3 rfl rfl (by repeat (first | exact List.Mem.head _ | apply List.Mem.tail)) rfl ?_
      refine WL.step ?_
      refine WL.move rfl rfl ?_
      refine WA.chunks (C' := [jns (F1 ++ ([bs] ++ [])) bm bs l f, pt b17 [.int .i64 (loP la x i : Int), .int .i64 (loP lb y i : Int)] 137, pt b18 [.int .i64 (hiP la x i : Int), .int .i64 (hiP lb y i : Int)] 137, pt b11 [Value.int .i64 (x : Int), .int .i64 (y : Int)] 137]) (fun w hS => St.jnsClose (((St.pick (St.pick (St.pick (St.pick (St.pick hS (c := pt b11 [Value.int .i64 (x : Int), .int .i64 (y : Int)] 137) (by repeat (first | exact Rem.here | apply Rem.there))) (c := pt b18 [.int .i64 (hiP la x i : Int), .int .i64 (hiP lb y i : Int)] 137) (by repeat (first | exact Rem.here | apply Rem.there))) (c := pt b17 [.int .i64 (loP la x i : Int), .int .i64 (loP lb y i : Int)] 137) (by repeat (first | exact Rem.here | apply Rem.there))) (c := mpg enc2 bs (fun q => (f q).map encI)) (by repeat (first | exact Rem.here | apply Rem.there))) (c := mkr F1 bm l) (by repeat (first | exact Rem.here | apply Rem.there)))).sublist (List.Sublist.cons_cons _ (List.Sublist.cons_cons _ (List.Sublist.cons_cons _ (List.Sublist.cons_cons _ (List.Sublist.cons_cons _ (List.nil_sublist _)))))))) ?_
      refine WL.step ?_
      refine WL.callC (β := { z : JT // JPost bop la lb l (i + 1) (loP la x i) (loP lb y i) z }) (res := fun z => .int .i64 (z.1.2.2.2 : Int)) (cs := fun z => [jns z.1.1 bm bs z.1.2.1 z.1.2.2.1]) (Cs := [jns (F1 ++ ([bs] ++ [])) bm bs l f]) (C1 := [pt b17 [.int .i64 (loP la x i : Int), .int .i64 (loP lb y i : Int)] 137, pt b18 [.int .i64 (hiP la x i : Int), .int .i64 (hiP lb y i : Int)] 137, pt b11 [Value.int .i64 (x : Int), .int .i64 (y : Int)] 137]) (O' := (F1 ++ ([bs] ++ []))) F.fun56 (fun d h => by cases h; rfl) rfl (List.Perm.refl _) bun_O1 bun_O2 (fun w hS hS2 => hrec (i + 1) (by omega) (by omega) (F1 ++ ([bs] ++ [])) l f (loP la x i) (loP lb y i) w a1 c1 a3 c3 hm hsn (by omega) (hE.next hS) hS2) (fun ⟨z1, hz1⟩ => ?_)
      obtain ⟨G1, l1, f1, p1⟩ := z1
      obtain ⟨j1, j2, j3, j4, j5⟩ := hz1
      dsimp only at j1 j2 j3 j4 j5 ⊢
      refine WL.step ?_
      refine WL.assign rfl rfl ?_
      refine WL.nil ?_
      refine WQ.then_normal ?_
      refine WC.seq ?_
      refine WC.drawsL (by kernel_rfl) (FactsOk.cons (ds := [13]) (LoadOk.by (Y := fun w => w.cell? ⟨bp, 0, none⟩ = some (pp bm)) (fun w hS => hS.oldc (hE.ce 0 _ rfl) hE.ce')) (FactsOk.cons (ds := [12, 13]) (LoadOk.by (Y := fun w => w.cell? ⟨b18, 0 + 0 * 1, none⟩ = some (.int .i64 (hiP la x i : Int))) (fun w hS => hS.cell (cs := [.int .i64 (hiP la x i : Int), .int .i64 (hiP lb y i : Int)]) (by repeat (first | exact List.Mem.head _ | apply List.Mem.tail)) rfl)) (FactsOk.cons (ds := [12, 13]) (LoadOk.by (Y := fun w => w.cell? ⟨b18, 0 + 1 * 1, none⟩ = some (.int .i64 (hiP lb y i : Int))) (fun w hS => hS.cell (cs := [.int .i64 (hiP la x i : Int), .int .i64 (hiP lb y i : Int)]) (by repeat (first | exact List.Mem.head _ | apply List.Mem.tail)) rfl)) (FactsOk.nil)))) ?_
      refine WD.take (i := 0) rfl rfl rfl rfl (by kernel_rfl) (by kernel_rfl) (by kernel_rfl) (fun _ _ _ h => h) (by kernel_rfl) need_none (Yl.move rfl) ?_
      refine WD.take (i := 1) rfl rfl rfl rfl (by kernel_rfl) (by kernel_rfl) (by kernel_rfl) (fun _ _ _ h => h) (by kernel_rfl) need_none (Yl.nilCheck rfl) ?_
      refine WD.take (i := 2) rfl rfl rfl rfl (by kernel_rfl) (by kernel_rfl) (by kernel_rfl) (fun _ _ _ h => h) (by kernel_rfl) need_none (Yl.fieldAddr0 F.fld100_0 rfl) ?_
      refine WD.take (i := 3) rfl rfl rfl rfl (by kernel_rfl) (by kernel_rfl) (by kernel_rfl) (fun _ _ _ h => h) (by kernel_rfl) (need_at 0 15 rfl (by kernel_rfl)) (Yl.load1 F.one96 rfl) ?_
      refine WD.take (i := 4) rfl rfl rfl rfl (by kernel_rfl) (by kernel_rfl) (by kernel_rfl) (fun _ _ _ h => h) (by kernel_rfl) need_none (Yl.move rfl) ?_
      refine WD.take (i := 5) rfl rfl rfl rfl (by kernel_rfl) (by kernel_rfl) (by kernel_rfl) (fun _ _ _ h => h) (by kernel_rfl) need_none (Yl.move rfl) ?_
      refine WD.take (i := 6) rfl rfl rfl rfl (by kernel_rfl) (by kernel_rfl) (by kernel_rfl) (fun _ _ _ h => h) (by kernel_rfl) need_none (Yl.move rfl) ?_
      refine WD.take (i := 7) rfl rfl rfl rfl (by kernel_rfl) (by kernel_rfl) (by kernel_rfl) (fun _ _ _ h => h) (by kernel_rfl) need_none (Yl.indexAddrA (i := 0) F.arT137 rfl rfl (by decide)) ?_
      refine WD.take (i := 8) rfl rfl rfl rfl (by kernel_rfl) (by kernel_rfl) (by kernel_rfl) (fun _ _ _ h => h) (by kernel_rfl) (need_at 1 15 rfl (by kernel_rfl)) (Yl.load1 F.one3 rfl) ?_
      refine WD.take (i := 9) rfl rfl rfl rfl (by kernel_rfl) (by kernel_rfl) (by kernel_rfl) (fun _ _ _ h => h) (by kernel_rfl) need_none (Yl.indexAddrA (i := 1) F.arT137 rfl rfl (by decide)) ?_
      refine WD.take (i := 10) rfl rfl rfl rfl (by kernel_rfl) (by kernel_rfl) (by kernel_rfl) (fun _ _ _ h => h) (by kernel_rfl) (need_at 2 15 rfl (by kernel_rfl)) (Yl.load1 F.one3 rfl) ?_
      refine WD.take (i := 11) rfl rfl rfl rfl (by kernel_rfl) (by kernel_rfl) (by kernel_rfl) (fun _ _ _ h => h) (by kernel_rfl) need_none (Yl.move rfl) ?_
      refine WD.one (i := 12) (by kernel_rfl) rfl ?_
      refine WL.callC (β := { z : JT // JPost bop la lb l1 (i + 1) (hiP la x i) (hiP lb y i) z }) (res := fun z => .int .i64 (z.1.2.2.2 : Int)) (cs := fun z => [jns z.1.1 bm bs z.1.2.1 z.1.2.2.1]) (Cs := [jns G1 bm bs l1 f1]) (C1 := [pt b17 [.int .i64 (loP la x i : Int), .int .i64 (loP lb y i : Int)] 137, pt b18 [.int .i64 (hiP la x i : Int), .int .i64 (hiP lb y i : Int)] 137, pt b11 [Value.int .i64 (x : Int), .int .i64 (y : Int)] 137]) (O' := G1) F.fun56 (fun d h => by cases h; rfl) rfl (List.Perm.refl _) bun_O1 bun_O2 (fun w hS hS2 => hrec (i + 1) (by omega) (by omega) G1 l1 f1 (hiP la x i) (hiP lb y i) w a2 c2 a4 c4 j1 j5 (by omega) (hE.next hS) hS2) (fun ⟨z2, hz2⟩ => ?_)
      refine WD.on (closed_of (by kernel_rfl)) (fun w hS => Sx.keep (hS.oldc (hE.ce 0 _ rfl) hE.ce') (Sx.gone rfl (Sx.gone rfl (Sx.none)))) ?_
      obtain ⟨G2, l2, f2, p2⟩ := z2
      obtain ⟨k1, k2, k3, k4, k5⟩ := hz2
      dsimp only at k1 k2 k3 k4 k5 ⊢
      refine WD.one (i := 13) (by kernel_rfl) rfl ?_
      refine WA.openB (fun G3 _ _ _ => ?_)
      simp only [jnCs, List.cons_append, List.nil_append]
      refine WL.callC (β := { z : List Nat × List Dec × Nat // MadeN l2 z.2.1 z.2.2 (mkN i (trs l2 p1) (trs l2 p2)) ∧ z.2.1.length ≤ l2.length + 1 }) (res := fun z => .int .i64 (z.1.2.2 : Int)) (cs := fun z => [mkr z.1.1 bm z.1.2.1]) (Cs := [mkr G3 bm l2]) (C1 := [mpg enc2 bs (fun q => (f2 q).map encI), pt b17 [.int .i64 (loP la x i : Int), .int .i64 (loP lb y i : Int)] 137, pt b18 [.int .i64 (hiP la x i : Int), .int .i64 (hiP lb y i : Int)] 137, pt b11 [Value.int .i64 (x : Int), .int .i64 (y : Int)] 137]) (O' := G3) F.fun82 (fun d h => by cases h; rfl) rfl (List.Perm.refl _) bun_O1 bun_O2 (fun w hS hS2 => mnode_c G3 bm l2 i p1 p2 w hi24 k1 (j4.ext k2).lt k4.lt (by omega) hS2) (fun ⟨z3, hz3, hz3l⟩ => ?_)
      refine WD.on (closed_of (by kernel_rfl)) (fun w hS => Sx.gone rfl (Sx.gone rfl (Sx.gone rfl (Sx.none)))) ?_
      obtain ⟨G4, l3, r3⟩ := z3
      dsimp only at hz3 hz3l ⊢
      refine WD.take (i := 14) rfl rfl rfl rfl (by kernel_rfl) (by kernel_rfl) (by kernel_rfl) (fun _ _ _ h => h) (by kernel_rfl) need_none (Yl.assign rfl) ?_
      refine WD.done (by kernel_rfl) ?_
      refine WQ.then_normal ?_
      refine WC.seq ?_
      refine WC.drawsL (by kernel_rfl) (FactsOk.cons (ds := [6]) (LoadOk.by (Y := fun w => w.cell? ⟨bp, 5, none⟩ = some (.map (some bs))) (fun w hS => hS.oldc (hE.ce 5 _ rfl) hE.ce')) (FactsOk.cons (ds := [6]) (LoadOk.whole (t := 11) rfl (by repeat (first | exact List.Mem.head _ | apply List.Mem.tail))) (FactsOk.nil))) ?_
      refine WD.take (i := 0) rfl rfl rfl rfl (by kernel_rfl) (by kernel_rfl) (by kernel_rfl) (fun _ _ _ h => h) (by kernel_rfl) need_none (Yl.move rfl) ?_
      refine WD.take (i := 1) rfl rfl rfl rfl (by kernel_rfl) (by kernel_rfl) (by kernel_rfl) (fun _ _ _ h => h) (by kernel_rfl) need_none (Yl.nilCheck rfl) ?_
      refine WD.take (i := 2) rfl rfl rfl rfl (by kernel_rfl) (by kernel_rfl) (by kernel_rfl) (fun _ _ _ h => h) (by kernel_rfl) need_none (Yl.fieldAddr0 F.fld100_3 rfl) ?_
      refine WD.take (i := 3) rfl rfl rfl rfl (by kernel_rfl) (by kernel_rfl) (by kernel_rfl) (fun _ _ _ h => h) (by kernel_rfl) (need_at 0 7 rfl (by kernel_rfl)) (Yl.load1 F.one98 rfl) ?_
      refine WD.take (i := 4) rfl rfl rfl rfl (by kernel_rfl) (by kernel_rfl) (by kernel_rfl) (fun _ _ _ h => h) (by kernel_rfl) (need_at 1 7 rfl (by kernel_rfl)) (Yl.loadN F.agg137 rfl rfl) ?_
      refine WD.take (i := 5) rfl rfl rfl rfl (by kernel_rfl) (by kernel_rfl) (by kernel_rfl) (fun _ _ _ h => h) (by kernel_rfl) need_none (Yl.move rfl) ?_
      refine WD.one (i := 6) (by kernel_rfl) rfl ?_
      refine WL.mapPutG (f := fun q => (f2 q).map encI) (x, y) undMP keyPair rfl rfl rfl rfl (by repeat (first | exact Upd.here | apply Upd.there)) ?_
      refine WD.on (closed_of (by kernel_rfl)) (fun w hS => Sx.gone rfl (Sx.gone rfl (Sx.none))) ?_
      refine WD.done (by kernel_rfl) ?_
      refine WQ.then_normal ?_
      refine WC.seq ?_
      refine WC.region ?_
      refine WL.step ?_
      refine WL.move rfl rfl ?_
      refine WL.step ?_
      refine WL.assign rfl rfl ?_
      refine WL.nil ?_
      refine WQ.then_normal ?_
      refine WC.ret ?_
      have hjr := JR.node ha hb hx hy hox hoy hi hi24 j4 k4 k2 hz3
      have hpre : ∃ t, l3 = l ++ t := by (obtain ⟨t1, e1⟩ := j2; obtain ⟨t2, e2⟩ := k2; obtain ⟨t3, e3⟩ := hz3.pre; exact ⟨t1 ++ t2 ++ t3, by rw [e3, e2, e1]; simp⟩)
      refine WQ.ret (rs := [.tmp 8]) rfl (.tmp rfl .nil) (fun w hS => ⟨⟨(G4 ++ ([bs] ++ []), l3, fun q => if q = (x, y) then some r3 else f2 q, r3), ⟨hz3.ismk, hpre, by dsimp only; omega, hjr, (k5.ext hz3.pre).put hjr⟩⟩, rfl, ?_⟩)
      refine St.jnsClose (F1 := G4) ?_
      rw [← pair_map (z := (r3 : Int)) rfl]
      exact ((St.pick (St.pick hS (c := mpg enc2 bs (fun q => if q = (x, y) then some (.int .i64 (r3 : Int)) else (f2 q).map encI)) (by repeat (first | exact Rem.here | apply Rem.there))) (c := mkr G4 bm l3) (by repeat (first | exact Rem.here | apply Rem.there)))).sublist (List.Sublist.cons_cons _ (List.Sublist.cons_cons _ (List.nil_sublist _)))
    · skip
      refine WC.drawsL (by kernel_rfl) (FactsOk.cons (ds := []) (LoadOk.by (Y := fun w => w.cell? ⟨bp, 5, none⟩ = some (.map (some bs))) (fun w hS => hS.oldc (hE.ce 5 _ rfl) hE.ce')) (FactsOk.cons (ds := []) (LoadOk.whole (t := 11) rfl (by repeat (first | exact List.Mem.head _ | apply List.Mem.tail))) (FactsOk.cons (ds := []) (LoadOk.by (Y := fun w => (mpg enc2 bs (fun q => (f q).map encI)).ok w) (fun w hS => hS.ok _ (by repeat (first | exact List.Mem.head _ | apply List.Mem.tail)))) (FactsOk.nil)))) ?_
      refine WD.take (i := 0) rfl rfl rfl rfl (by kernel_rfl) (by kernel_rfl) (by kernel_rfl) (fun _ _ _ h => h) (by kernel_rfl) need_none (Yl.move rfl) ?_
      refine WD.take (i := 1) rfl rfl rfl rfl (by kernel_rfl) (by kernel_rfl) (by kernel_rfl) (fun _ _ _ h => h) (by kernel_rfl) need_none (Yl.nilCheck rfl) ?_
      refine WD.take (i := 2) rfl rfl rfl rfl (by kernel_rfl) (by kernel_rfl) (by kernel_rfl) (fun _ _ _ h => h) (by kernel_rfl) need_none (Yl.fieldAddr0 F.fld100_3 rfl) ?_
      refine WD.take (i := 3) rfl rfl rfl rfl (by kernel_rfl) (by kernel_rfl) (by kernel_rfl) (fun _ _ _ h => h) (by kernel_rfl) (need_at 0 11 rfl (by kernel_rfl)) (Yl.load1 F.one98 rfl) ?_
      refine WD.take (i := 4) rfl rfl rfl rfl (by kernel_rfl) (by kernel_rfl) (by kernel_rfl) (fun _ _ _ h => h) (by kernel_rfl) (need_at 1 11 rfl (by kernel_rfl)) (Yl.loadN F.agg137 rfl rfl) ?_
      refine WD.take (i := 5) rfl rfl rfl rfl (by kernel_rfl) (by kernel_rfl) (by kernel_rfl) (fun _ _ _ h => h) (by kernel_rfl) (need_at 2 11 rfl (by kernel_rfl)) (Yl.lookupHit (f := fun q => (f q).map encI) (v := encI r) (x, y) undMP keyPair zeroInt rfl rfl rfl (by rw [hf]; rfl)) ?_
      refine WD.take (i := 6) rfl rfl rfl rfl (by kernel_rfl) (by kernel_rfl) (by kernel_rfl) (fun _ _ _ h => h) (by kernel_rfl) need_none (Yl.move rfl) ?_
      refine WD.take (i := 7) rfl rfl rfl rfl (by kernel_rfl) (by kernel_rfl) (by kernel_rfl) (fun _ _ _ h => h) (by kernel_rfl) need_none (Yl.extract rfl rfl) ?_
      refine WD.take (i := 8) rfl rfl rfl rfl (by kernel_rfl) (by kernel_rfl) (by kernel_rfl) (fun _ _ _ h => h) (by kernel_rfl) need_none (Yl.extract rfl rfl) ?_
      refine WD.take (i := 9) rfl rfl rfl rfl (by kernel_rfl) (by kernel_rfl) (by kernel_rfl) (fun _ _ _ h => h) (by kernel_rfl) need_none (Yl.assign rfl) ?_
      refine WD.take (i := 10) rfl rfl rfl rfl (by kernel_rfl) (by kernel_rfl) (by kernel_rfl) (fun _ _ _ h => h) (by kernel_rfl) need_none (Yl.assign rfl) ?_
      refine WD.done (by kernel_rfl) ?_
      refine WQ.then_normal ?_
      refine WC.seq ?_
      refine WC.region ?_
      refine WL.step ?_
      refine WL.move rfl rfl ?_
      refine WL.nil ?_
      refine WQ.then_normal ?_
      refine WC.condT rfl ?_
      refine WC.seq ?_
      refine WC.region ?_
      refine WL.step ?_
      refine WL.move rfl rfl ?_
      refine WL.step ?_
      refine WL.assign rfl rfl ?_
      refine WL.nil ?_
      refine WQ.then_normal ?_
      refine WC.ret ?_
      refine WQ.then_ret ?_
      refine WQ.ret (rs := [.tmp 8]) rfl (.tmp rfl .nil) (fun w hS => ⟨⟨(_, l, f, r), ⟨hm, ⟨[], by simp⟩, hpow, hsn x y r hf, hsn⟩⟩, rfl, St.jnsClose (((St.pick (St.pick hS (c := mpg enc2 bs (fun q => (f q).map encI)) (by repeat (first | exact Rem.here | apply Rem.there))) (c := mkr F1 bm l) (by repeat (first | exact Rem.here | apply Rem.there)))).sublist (List.Sublist.cons_cons _ (List.Sublist.cons_cons _ (List.nil_sublist _))))⟩)

end Go.Proofs.Ytkgllhkhdjodeaa

/-
  What an operation on diagrams yields.
-/
namespace Go.Proofs.Ytkgllhkhdjodeaa
open Go Go.Eng Go.Proofs Dg
/-- A diagram of the function f, made anew. -/
abbrev DRes (f : Cf → Bool) : Type := { z : BT × Option Addr × Nat // z.1.ok 0 ∧ ∀ c, z.1.ev c = f c }
abbrev DRes.v {f : Cf → Bool} (z : DRes f) : Value := dval z.1.1 z.1.2.1 z.1.2.2
abbrev DRes.ch {f : Cf → Bool} (z : DRes f) : Chunk := dC z.1.2.1 z.1.2.2 z.1.1
def DPost (f : Cf → Bool) (w : World) (e : Ending) (w' : World) : Prop := ∃ z : DRes f, e = .returned z.v ∧ St w [] [z.ch] w'
theorem DRes.rd {f : Cf → Bool} (z : DRes f) {w0 w : World} {O : List Nat} {C : List Chunk} (hS : St w0 O C w) (hm : z.ch ∈ C) : RdD w z.1.1 z.1.2.1 := RdD.of_row z.2.1 (hS.ok _ hm)
theorem jenv_of {w0 w : World} {C : List Chunk} {F : List Nat} {bp bm bs ca cb ra rb : Nat} {la lb l : List Dec} {aa ab : Option Addr} {f : Nat × Nat → Option Nat} {e : TypeId}
    (hS : St w0 [] (jns F bm bs l f :: pt bp [pp bm, .slice aa la.length ca, .int .i64 (ra : Int), .slice ab lb.length cb, .int .i64 (rb : Int), .map (some bs)] e :: C) w) (hra : RdDec w0 la aa) (hrb : RdDec w0 lb ab) : JEnv w F bp bm bs la lb aa ab ca cb ra rb := by
  have hd := (List.pairwise_cons.1 hS.disj).1
  have hnew : ∀ b, b < w0.heap.size → b ∉ F := fun b hb hF => by
    have := (hS.bnd _ (List.mem_cons_self ..) b hF).2 hb
    simp at this
  refine ⟨fun j v hv => hS.cell (List.mem_cons_of_mem _ (List.mem_cons_self ..)) hv, fun hF => hd _ (List.mem_cons_self ..) bp hF rfl, fun j u hu => ?_, fun j u hu => ?_⟩
  · obtain ⟨b, off, e1, e2⟩ := hra j u hu
    exact ⟨b, off, e1, hS.oldc e2 (by simp), hnew b (World.block_lt_of_cell? w0 _ e2)⟩
  · obtain ⟨b, off, e1, e2⟩ := hrb j u hu
    exact ⟨b, off, e1, hS.oldc e2 (by simp), hnew b (World.block_lt_of_cell? w0 _ e2)⟩
end Go.Proofs.Ytkgllhkhdjodeaa

namespace Go.Proofs.Ytkgllhkhdjodeaa
open Go Go.Eng Go.Proofs Dg
theorem dwith_c (g : Nat) (bop : Bool → Bool → Bool) (opf : Nat → Nat → Nat × Bool) (hop : OpOk g bop opf) (s t : BT) (aa ab : Option Addr) (ca cb : Nat) (w : World) (hs : RdD w s aa) (ht : RdD w t ab) :
    Calls Try.prog 30 [dval s aa ca, dval t ab cb, Value.func (.func g) [].toArray [].toArray].toArray w (DPost (fun c => bop (s.ev c) (t.ev c)) w) := by
  refine enter Try.func30 rfl Try.ntmps30 rfl (St.init _) ?_
  refine WC.seq ?_
  refine WC.region ?_
  refine WL.step ?_
  refine WL.boxN rfl rfl (fun b3 => ?_)
  refine WL.step ?_
  refine WL.boxN rfl rfl (fun b4 => ?_)
  refine WL.step ?_
  refine WL.alloc F.zero27 rfl (fun b6 => ?_)
  refine WL.nil ?_
  refine WQ.then_normal ?_
  refine WC.seq ?_
  refine WC.cutPE (α := Nat × Nat × Nat × List Nat) (fun x => [(7, pp x.1), (2, Value.func (.func g) [].toArray [].toArray), (3, pp b3), (4, pp b4), (6, pp b6)]) (fun x => [pt x.1 [pp x.2.1, .slice aa (canon s).1.length ca, .int .i64 ((canon s).2 : Int), .slice ab (canon t).1.length cb, .int .i64 ((canon t).2 : Int), .map (some x.2.2.1)] 100, mkr x.2.2.2 x.2.1 [], mpg enc2 x.2.2.1 (fun _ => none), pt b3 [.slice aa (canon s).1.length ca, .int .i64 ((canon s).2 : Int)] 27, pt b4 [.slice ab (canon t).1.length cb, .int .i64 ((canon t).2 : Int)] 27, pt b6 [.slice none 0 0, .int .i64 0] 27]) (fun c a d v w h => by cases d <;> exact h) (fun Q' hP hQ => ?_) (fun xE => ?_)
  · skip
    refine WC.drawsL (by kernel_rfl) (FactsOk.cons (ds := [5]) (LoadOk.whole (t := 3) rfl (by repeat (first | exact List.Mem.head _ | apply List.Mem.tail))) (FactsOk.cons (ds := [5]) (LoadOk.whole (t := 4) rfl (by repeat (first | exact List.Mem.head _ | apply List.Mem.tail))) (FactsOk.nil))) ?_
    refine WD.take (i := 1) rfl rfl rfl rfl (by kernel_rfl) (by kernel_rfl) (by kernel_rfl) (fun _ _ _ h => hP _ _ _ _ _ h) (by kernel_rfl) (need_at 0 7 rfl (by kernel_rfl)) (Yl.loadN F.agg27 rfl rfl) ?_
    refine WD.take (i := 2) rfl rfl rfl rfl (by kernel_rfl) (by kernel_rfl) (by kernel_rfl) (fun _ _ _ h => hP _ _ _ _ _ h) (by kernel_rfl) (need_at 1 7 rfl (by kernel_rfl)) (Yl.loadN F.agg27 rfl rfl) ?_
    refine WD.two (i := 0) (j := 3) (by kernel_rfl) rfl rfl ?_ ?_
    · skip
      refine WL.call0 (β := List Nat × Nat) (res := fun x => .returned (pp x.2)) (cs := fun x => [mkr x.1 x.2 []]) (ψ := fun _ => True) F.fun54 (fun d h => by cases h; rfl) rfl (fun w hS => (newMaker_c w).mono (fun e w2 ⟨x, h1, h2⟩ => ⟨x, trivial, h1, h2⟩)) (fun x8 _ => ?_)
      refine WD.on (closed_of (by kernel_rfl)) (fun w hS => Sx.keep ((fun j v hv => by rw [Nat.zero_add]; exact hS.cell (by repeat (first | exact List.Mem.head _ | apply List.Mem.tail)) hv)) (Sx.keep ((fun j v hv => by rw [Nat.zero_add]; exact hS.cell (by repeat (first | exact List.Mem.head _ | apply List.Mem.tail)) hv)) (Sx.none))) ?_
      refine WD.one (i := 3) (by kernel_rfl) rfl ?_
      refine WL.makeMapG enc2 rfl (fun b11 => ?_)
      refine WD.on (closed_of (by kernel_rfl)) (fun w hS => Sx.keep ((fun j v hv => by rw [Nat.zero_add]; exact hS.cell (by repeat (first | exact List.Mem.head _ | apply List.Mem.tail)) hv)) (Sx.keep ((fun j v hv => by rw [Nat.zero_add]; exact hS.cell (by repeat (first | exact List.Mem.head _ | apply List.Mem.tail)) hv)) (Sx.none))) ?_
      refine WD.take (i := 4) rfl rfl rfl rfl (by kernel_rfl) (by kernel_rfl) (by kernel_rfl) (fun _ _ _ h => hP _ _ _ _ _ h) (by kernel_rfl) need_none (Yl.build F.stT100 rfl (by repeat (first | exact Built.nil | apply Built.one rfl rfl (by repeat constructor) | apply Built.agg rfl rfl (by repeat constructor)))) ?_
      refine WD.one (i := 5) (by kernel_rfl) rfl ?_
      refine WL.boxN rfl rfl (fun b13 => ?_)
      refine WD.on (closed_of (by kernel_rfl)) (fun w hS => Sx.gone rfl (Sx.gone rfl (Sx.none))) ?_
      refine WD.take (i := 6) rfl rfl rfl rfl (by kernel_rfl) (by kernel_rfl) (by kernel_rfl) (fun _ _ _ h => hP _ _ _ _ _ h) (by kernel_rfl) need_none (Yl.assign rfl) ?_
      refine WD.done (by kernel_rfl) ?_
      refine WQ.chunks (C' := [pt b13 [pp x8.2, .slice aa (canon s).1.length ca, .int .i64 ((canon s).2 : Int), .slice ab (canon t).1.length cb, .int .i64 ((canon t).2 : Int), .map (some b11)] 100, mkr x8.1 x8.2 [], mpg enc2 b11 (fun _ => none), pt b3 [.slice aa (canon s).1.length ca, .int .i64 ((canon s).2 : Int)] 27, pt b4 [.slice ab (canon t).1.length cb, .int .i64 ((canon t).2 : Int)] 27, pt b6 [.slice none 0 0, .int .i64 0] 27]) (fun w hS => ((St.pick (St.pick (St.pick (St.pick (St.pick (St.pick hS (c := pt b6 [.slice none 0 0, .int .i64 0] 27) (by repeat (first | exact Rem.here | apply Rem.there))) (c := pt b4 [.slice ab (canon t).1.length cb, .int .i64 ((canon t).2 : Int)] 27) (by repeat (first | exact Rem.here | apply Rem.there))) (c := pt b3 [.slice aa (canon s).1.length ca, .int .i64 ((canon s).2 : Int)] 27) (by repeat (first | exact Rem.here | apply Rem.there))) (c := mpg enc2 b11 (fun _ => none)) (by repeat (first | exact Rem.here | apply Rem.there))) (c := mkr x8.1 x8.2 []) (by repeat (first | exact Rem.here | apply Rem.there))) (c := pt b13 [pp x8.2, .slice aa (canon s).1.length ca, .int .i64 ((canon s).2 : Int), .slice ab (canon t).1.length cb, .int .i64 ((canon t).2 : Int), .map (some b11)] 100) (by repeat (first | exact Rem.here | apply Rem.there)))).sublist (List.Sublist.cons_cons _ (List.Sublist.cons_cons _ (List.Sublist.cons_cons _ (List.Sublist.cons_cons _ (List.Sublist.cons_cons _ (List.Sublist.cons_cons _ (List.nil_sublist _)))))))) ?_
      exact WQ.byCut (hQ (b13, x8.2, b11, x8.1)) ⟨rfl, rfl, rfl, rfl, rfl, trivial⟩
    · skip
      refine WL.makeMapG enc2 rfl (fun b11 => ?_)
      refine WD.on (closed_of (by kernel_rfl)) (fun w hS => Sx.keep ((fun j v hv => by rw [Nat.zero_add]; exact hS.cell (by repeat (first | exact List.Mem.head _ | apply List.Mem.tail)) hv)) (Sx.keep ((fun j v hv => by rw [Nat.zero_add]; exact hS.cell (by repeat (first | exact List.Mem.head _ | apply List.Mem.tail)) hv)) (Sx.none))) ?_
      refine WD.one (i := 0) (by kernel_rfl) rfl ?_
      refine WL.call0 (β := List Nat × Nat) (res := fun x => .returned (pp x.2)) (cs := fun x => [mkr x.1 x.2 []]) (ψ := fun _ => True) F.fun54 (fun d h => by cases h; rfl) rfl (fun w hS => (newMaker_c w).mono (fun e w2 ⟨x, h1, h2⟩ => ⟨x, trivial, h1, h2⟩)) (fun x8 _ => ?_)
      refine WD.on (closed_of (by kernel_rfl)) (fun w hS => Sx.keep ((fun j v hv => by rw [Nat.zero_add]; exact hS.cell (by repeat (first | exact List.Mem.head _ | apply List.Mem.tail)) hv)) (Sx.keep ((fun j v hv => by rw [Nat.zero_add]; exact hS.cell (by repeat (first | exact List.Mem.head _ | apply List.Mem.tail)) hv)) (Sx.none))) ?_
      refine WD.take (i := 4) rfl rfl rfl rfl (by kernel_rfl) (by kernel_rfl) (by kernel_rfl) (fun _ _ _ h => hP _ _ _ _ _ h) (by kernel_rfl) need_none (Yl.build F.stT100 rfl (by repeat (first | exact Built.nil | apply Built.one rfl rfl (by repeat constructor) | apply Built.agg rfl rfl (by repeat constructor)))) ?_
      refine WD.one (i := 5) (by kernel_rfl) rfl ?_
      refine WL.boxN rfl rfl (fun b13 => ?_)
      refine WD.on (closed_of (by kernel_rfl)) (fun w hS => Sx.gone rfl (Sx.gone rfl (Sx.none))) ?_
      refine WD.take (i := 6) rfl rfl rfl rfl (by kernel_rfl) (by kernel_rfl) (by kernel_rfl) (fun _ _ _ h => hP _ _ _ _ _ h) (by kernel_rfl) need_none (Yl.assign rfl) ?_
      refine WD.done (by kernel_rfl) ?_
      refine WQ.chunks (C' := [pt b13 [pp x8.2, .slice aa (canon s).1.length ca, .int .i64 ((canon s).2 : Int), .slice ab (canon t).1.length cb, .int .i64 ((canon t).2 : Int), .map (some b11)] 100, mkr x8.1 x8.2 [], mpg enc2 b11 (fun _ => none), pt b3 [.slice aa (canon s).1.length ca, .int .i64 ((canon s).2 : Int)] 27, pt b4 [.slice ab (canon t).1.length cb, .int .i64 ((canon t).2 : Int)] 27, pt b6 [.slice none 0 0, .int .i64 0] 27]) (fun w hS => ((St.pick (St.pick (St.pick (St.pick (St.pick (St.pick hS (c := pt b6 [.slice none 0 0, .int .i64 0] 27) (by repeat (first | exact Rem.here | apply Rem.there))) (c := pt b4 [.slice ab (canon t).1.length cb, .int .i64 ((canon t).2 : Int)] 27) (by repeat (first | exact Rem.here | apply Rem.there))) (c := pt b3 [.slice aa (canon s).1.length ca, .int .i64 ((canon s).2 : Int)] 27) (by repeat (first | exact Rem.here | apply Rem.there))) (c := mpg enc2 b11 (fun _ => none)) (by repeat (first | exact Rem.here | apply Rem.there))) (c := mkr x8.1 x8.2 []) (by repeat (first | exact Rem.here | apply Rem.there))) (c := pt b13 [pp x8.2, .slice aa (canon s).1.length ca, .int .i64 ((canon s).2 : Int), .slice ab (canon t).1.length cb, .int .i64 ((canon t).2 : Int), .map (some b11)] 100) (by repeat (first | exact Rem.here | apply Rem.there)))).sublist (List.Sublist.cons_cons _ (List.Sublist.cons_cons _ (List.Sublist.cons_cons _ (List.Sublist.cons_cons _ (List.Sublist.cons_cons _ (List.Sublist.cons_cons _ (List.nil_sublist _)))))))) ?_
      exact WQ.byCut (hQ (b13, x8.2, b11, x8.1)) ⟨rfl, rfl, rfl, rfl, rfl, trivial⟩
  obtain ⟨bp, bm, bs, F1⟩ := xE
  show WQ _ _ _ _ _ _ [(7, pp bp), (2, Value.func (.func g) [].toArray [].toArray), (3, pp b3), (4, pp b4), (6, pp b6)] [pt bp [pp bm, .slice aa (canon s).1.length ca, .int .i64 ((canon s).2 : Int), .slice ab (canon t).1.length cb, .int .i64 ((canon t).2 : Int), .map (some bs)] 100, mkr F1 bm [], mpg enc2 bs (fun _ => none), pt b3 [.slice aa (canon s).1.length ca, .int .i64 ((canon s).2 : Int)] 27, pt b4 [.slice ab (canon t).1.length cb, .int .i64 ((canon t).2 : Int)] 27, pt b6 [.slice none 0 0, .int .i64 0] 27]
  refine WQ.then_normal ?_
  refine WC.seq ?_
  refine WC.chunks (C' := [jns (F1 ++ ([bs] ++ [])) bm bs [] (fun _ => none), pt bp [pp bm, .slice aa (canon s).1.length ca, .int .i64 ((canon s).2 : Int), .slice ab (canon t).1.length cb, .int .i64 ((canon t).2 : Int), .map (some bs)] 100, pt b3 [.slice aa (canon s).1.length ca, .int .i64 ((canon s).2 : Int)] 27, pt b4 [.slice ab (canon t).1.length cb, .int .i64 ((canon t).2 : Int)] 27, pt b6 [.slice none 0 0, .int .i64 0] 27]) (fun w hS => St.jnsClose (f := fun _ => none) (((St.pick (St.pick (St.pick (St.pick (St.pick (St.pick hS (c := pt b6 [.slice none 0 0, .int .i64 0] 27) (by repeat (first | exact Rem.here | apply Rem.there))) (c := pt b4 [.slice ab (canon t).1.length cb, .int .i64 ((canon t).2 : Int)] 27) (by repeat (first | exact Rem.here | apply Rem.there))) (c := pt b3 [.slice aa (canon s).1.length ca, .int .i64 ((canon s).2 : Int)] 27) (by repeat (first | exact Rem.here | apply Rem.there))) (c := pt bp [pp bm, .slice aa (canon s).1.length ca, .int .i64 ((canon s).2 : Int), .slice ab (canon t).1.length cb, .int .i64 ((canon t).2 : Int), .map (some bs)] 100) (by repeat (first | exact Rem.here | apply Rem.there))) (c := mpg enc2 bs (fun _ => none)) (by repeat (first | exact Rem.here | apply Rem.there))) (c := mkr F1 bm []) (by repeat (first | exact Rem.here | apply Rem.there)))).sublist (List.Sublist.cons_cons _ (List.Sublist.cons_cons _ (List.Sublist.cons_cons _ (List.Sublist.cons_cons _ (List.Sublist.cons_cons _ (List.Sublist.cons_cons _ (List.nil_sublist _))))))))) ?_
  · skip
    refine WC.drawsL (by kernel_rfl) (FactsOk.cons (ds := [11, 12]) (LoadOk.one (t := 7) (off := 0) rfl (by repeat (first | exact List.Mem.head _ | apply List.Mem.tail)) rfl) (FactsOk.cons (ds := [10, 11, 12]) (LoadOk.one (t := 3) (off := 1) rfl (by repeat (first | exact List.Mem.head _ | apply List.Mem.tail)) rfl) (FactsOk.cons (ds := [10, 11, 12]) (LoadOk.one (t := 4) (off := 1) rfl (by repeat (first | exact List.Mem.head _ | apply List.Mem.tail)) rfl) (FactsOk.nil)))) ?_
    refine WD.take (i := 0) rfl rfl rfl rfl (by kernel_rfl) (by kernel_rfl) (by kernel_rfl) (fun _ _ _ h => h) (by kernel_rfl) need_none (Yl.move rfl) ?_
    refine WD.take (i := 1) rfl rfl rfl rfl (by kernel_rfl) (by kernel_rfl) (by kernel_rfl) (fun _ _ _ h => h) (by kernel_rfl) need_none (Yl.nilCheck rfl) ?_
    refine WD.take (i := 2) rfl rfl rfl rfl (by kernel_rfl) (by kernel_rfl) (by kernel_rfl) (fun _ _ _ h => h) (by kernel_rfl) need_none (Yl.fieldAddr0 F.fld100_0 rfl) ?_
    refine WD.take (i := 3) rfl rfl rfl rfl (by kernel_rfl) (by kernel_rfl) (by kernel_rfl) (fun _ _ _ h => h) (by kernel_rfl) (need_at 0 13 rfl (by kernel_rfl)) (Yl.load1 F.one96 rfl) ?_
    refine WD.take (i := 4) rfl rfl rfl rfl (by kernel_rfl) (by kernel_rfl) (by kernel_rfl) (fun _ _ _ h => h) (by kernel_rfl) need_none (Yl.move rfl) ?_
    refine WD.take (i := 5) rfl rfl rfl rfl (by kernel_rfl) (by kernel_rfl) (by kernel_rfl) (fun _ _ _ h => h) (by kernel_rfl) need_none (Yl.fieldAddr0 F.fld27_1 rfl) ?_
    refine WD.take (i := 6) rfl rfl rfl rfl (by kernel_rfl) (by kernel_rfl) (by kernel_rfl) (fun _ _ _ h => h) (by kernel_rfl) (need_at 1 13 rfl (by kernel_rfl)) (Yl.load1 F.one3 rfl) ?_
    refine WD.take (i := 7) rfl rfl rfl rfl (by kernel_rfl) (by kernel_rfl) (by kernel_rfl) (fun _ _ _ h => h) (by kernel_rfl) need_none (Yl.fieldAddr0 F.fld27_1 rfl) ?_
    refine WD.take (i := 8) rfl rfl rfl rfl (by kernel_rfl) (by kernel_rfl) (by kernel_rfl) (fun _ _ _ h => h) (by kernel_rfl) (need_at 2 13 rfl (by kernel_rfl)) (Yl.load1 F.one3 rfl) ?_
    refine WD.take (i := 9) rfl rfl rfl rfl (by kernel_rfl) (by kernel_rfl) (by kernel_rfl) (fun _ _ _ h => h) (by kernel_rfl) need_none (Yl.move rfl) ?_
    refine WD.one (i := 10) (by kernel_rfl) rfl ?_
    refine WL.callC (β := { z : JT // JPost bop (canon s).1 (canon t).1 [] 0 (canon s).2 (canon t).2 z }) (res := fun z => .int .i64 (z.1.2.2.2 : Int)) (cs := fun z => [jns z.1.1 bm bs z.1.2.1 z.1.2.2.1]) (Cs := [jns (F1 ++ ([bs] ++ [])) bm bs [] (fun _ => none)]) (C1 := [pt bp [pp bm, .slice aa (canon s).1.length ca, .int .i64 ((canon s).2 : Int), .slice ab (canon t).1.length cb, .int .i64 ((canon t).2 : Int), .map (some bs)] 100, pt b3 [.slice aa (canon s).1.length ca, .int .i64 ((canon s).2 : Int)] 27, pt b4 [.slice ab (canon t).1.length cb, .int .i64 ((canon t).2 : Int)] 27, pt b6 [.slice none 0 0, .int .i64 0] 27]) (O' := (F1 ++ ([bs] ++ []))) F.fun56 (fun d h => by cases h; rfl) rfl (List.Perm.refl _) bun_O1 bun_O2 (fun w hS hS2 => join_c g bop opf hop bp bm bs (canon s).1 (canon t).1 aa ab ca cb (canon s).2 (canon t).2 (canon_mk hs.1) (canon_mk ht.1) (Nat.le_of_lt (canon_len hs.1)) (Nat.le_of_lt (canon_len ht.1)) 25 0 (by omega) (by omega) (F1 ++ ([bs] ++ [])) [] (fun _ => none) (canon s).2 (canon t).2 w (canon_at s).1 (canon_at t).1 (by rw [(canon_at s).2]; exact hs.1) (by rw [(canon_at t).2]; exact ht.1) Mk.nil (fun _ _ _ h => by cases h) (by decide) (jenv_of hS hs.2 ht.2) hS2) (fun ⟨z1, hz1⟩ => ?_)
    refine WD.on (closed_of (by kernel_rfl)) (fun w hS => Sx.keep (hS.cell (by repeat (first | exact List.Mem.head _ | apply List.Mem.tail)) rfl) (Sx.gone rfl (Sx.gone rfl (Sx.none)))) ?_
    refine WD.one (i := 11) (by kernel_rfl) rfl ?_
    obtain ⟨G1, l1, f1, r1⟩ := z1
    obtain ⟨j1, j2, j3, j4, j5⟩ := hz1
    dsimp only at j1 j2 j3 j4 j5 ⊢
    rw [(canon_at s).2, (canon_at t).2] at j4
    have hl1 : l1.length ≤ 16777216 := by
      have e : 2 ^ (24 - 0) = 16777216 := by decide
      simp only [List.length_nil] at j3
      omega
    refine WA.openB (fun G3 _ _ _ => ?_)
    simp only [jnCs, List.cons_append, List.nil_append]
    refine WL.callC (β := Option Addr × Nat) (res := fun z => dval (trs l1 r1) z.1 z.2) (cs := fun z => [dC z.1 z.2 (trs l1 r1)]) (Cs := [mkr G3 bm l1]) (C1 := [mpg enc2 bs (fun q => (f1 q).map encI), pt bp [pp bm, .slice aa (canon s).1.length ca, .int .i64 ((canon s).2 : Int), .slice ab (canon t).1.length cb, .int .i64 ((canon t).2 : Int), .map (some bs)] 100, pt b3 [.slice aa (canon s).1.length ca, .int .i64 ((canon s).2 : Int)] 27, pt b4 [.slice ab (canon t).1.length cb, .int .i64 ((canon t).2 : Int)] 27, pt b6 [.slice none 0 0, .int .i64 0] 27]) (O' := G3) F.fun55 (fun d h => by cases h; rfl) rfl (List.Perm.refl _) bun_O1 bun_O2 (fun w hS hS2 => done_c G3 bm l1 r1 w j1 j4.lt (j4.ok 0 hs.1 ht.1) hl1 hS2) (fun z3 => ?_)
    refine WD.on (closed_of (by kernel_rfl)) (fun w hS => Sx.gone rfl (Sx.gone rfl (Sx.gone rfl (Sx.none)))) ?_
    refine WD.one (i := 12) (by kernel_rfl) rfl ?_
    refine WL.storeN F.agg27 rfl rfl rfl (by simp [Value.oneCell']) (by repeat (first | exact Upd.here | apply Upd.there)) (by repeat constructor) ?_
    refine WD.on (closed_of (by kernel_rfl)) (fun w hS => Sx.gone rfl (Sx.gone rfl (Sx.gone rfl (Sx.none)))) ?_
    refine WD.done (by kernel_rfl) ?_
    refine WQ.then_normal ?_
    refine WC.ret ?_
    refine WQ.ret (rs := [.cell 6 27]) rfl (.cellN F.agg27 rfl (by repeat (first | exact List.Mem.head _ | apply List.Mem.tail)) rfl .nil) (fun w hS => ⟨⟨(trs l1 r1, z3), j4.ok 0 hs.1 ht.1, j4.ev⟩, rfl, ((St.pick hS (c := dC z3.1 z3.2 (trs l1 r1)) (by repeat (first | exact Rem.here | apply Rem.there)))).sublist (List.Sublist.cons_cons _ (List.nil_sublist _))⟩)

theorem Xor_c (s t : BT) (aa ab : Option Addr) (ca cb : Nat) (w : World) (hs : RdD w s aa) (ht : RdD w t ab) :
    Calls Try.prog 11 [dval s aa ca, dval t ab cb].toArray w (DPost (fun c => (fun p q : Bool => p != q) (s.ev c) (t.ev c)) w) := by
  refine enter Try.func11 rfl Try.ntmps11 rfl (St.init _) ?_
  refine WC.seq ?_
  refine WC.region ?_
  refine WL.step ?_
  refine WL.boxN rfl rfl (fun b2 => ?_)
  refine WL.step ?_
  refine WL.boxN rfl rfl (fun b3 => ?_)
  refine WL.step ?_
  refine WL.alloc F.zero27 rfl (fun b4 => ?_)
  refine WL.nil ?_
  refine WQ.then_normal ?_
  refine WC.seq ?_
  refine WC.region ?_
  refine WL.step ?_
  refine WL.loadW F.agg27 rfl rfl (by repeat (first | exact List.Mem.head _ | apply List.Mem.tail)) rfl ?_
  refine WL.step ?_
  refine WL.loadW F.agg27 rfl rfl (by repeat (first | exact List.Mem.head _ | apply List.Mem.tail)) rfl ?_
  refine WL.step ?_
  refine WL.call0 (β := DRes (fun c => (fun p q : Bool => p != q) (s.ev c) (t.ev c))) (res := fun z => .returned z.v) (cs := fun z => [z.ch]) (ψ := fun _ => True) F.fun30 (fun d h => by cases h; rfl) rfl (fun w hS => (dwith_c _ _ _ odd_ok s t aa ab ca cb w (hs.next0 hS) (ht.next0 hS)).mono (fun e w2 ⟨x, h1, h2⟩ => ⟨x, trivial, h1, h2⟩)) (fun z7 _ => ?_)
  refine WL.step ?_
  refine WL.storeN F.agg27 rfl rfl rfl (by simp [Value.oneCell']) (by repeat (first | exact Upd.here | apply Upd.there)) (by repeat constructor) ?_
  refine WL.nil ?_
  refine WQ.then_normal ?_
  refine WC.ret ?_
  refine WQ.ret (rs := [.cell 4 27]) rfl (.cellN F.agg27 rfl (by repeat (first | exact List.Mem.head _ | apply List.Mem.tail)) rfl .nil) (fun w hS => ⟨z7, rfl, ((St.pick hS (c := z7.ch) (by repeat (first | exact Rem.here | apply Rem.there)))).sublist (List.Sublist.cons_cons _ (List.nil_sublist _))⟩)

end Go.Proofs.Ytkgllhkhdjodeaa

/-! What goes through the nodes of one diagram. -/
namespace Dg
def notT : BT → BT
  | .lf b => .lf (!b)
  | .nd v lo hi => mkN v (notT lo) (notT hi)
/-- A tree with a feature fixed (a number that is no feature: as it was). -/
def fixT (i : Int) (on : Bool) : BT → BT
  | .lf b => .lf b
  | .nd v lo hi => if (v : Int) = i then (if on then fixT i on hi else fixT i on lo) else mkN v (fixT i on lo) (fixT i on hi)
def updI (c : Cf) (i : Int) (b : Bool) : Cf := fun j => if (j : Int) = i then b else c j
/-- What a pass over the nodes has made of the first of them. -/
structure FI (φ : BT → BT) (la : List Dec) (out : List Int) (l : List Dec) : Prop where
  ismk : Mk l
  len : l.length + 2 ≤ out.length
  at' : ∀ k z, out[k]? = some z → ∃ p : Nat, z = (p : Int) ∧ p < l.length + 2 ∧ trs l p = φ (trs la k)
theorem FI.nil {φ : BT → BT} {la : List Dec} {b0 b1 : Bool} (h0 : φ (.lf false) = .lf b0) (h1 : φ (.lf true) = .lf b1) : FI φ la [bif b0 then 1 else 0, bif b1 then 1 else 0] [] := by
  refine ⟨Mk.nil, by simp, fun k z hz => ?_⟩
  have e : ∀ b : Bool, trs [] (bif b then 1 else 0) = .lf b := fun b => by cases b <;> rfl
  rcases k with _ | _ | k
  · simp only [List.getElem?_cons_zero, Option.some.injEq] at hz
    refine ⟨bif b0 then 1 else 0, by rw [← hz]; cases b0 <;> rfl, by cases b0 <;> simp, ?_⟩
    rw [e, (trs_zero la).1, h0]
  · simp only [List.getElem?_cons_succ, List.getElem?_cons_zero, Option.some.injEq] at hz
    refine ⟨bif b1 then 1 else 0, by rw [← hz]; cases b1 <;> rfl, by cases b1 <;> simp, ?_⟩
    rw [e, (trs_zero la).2, h1]
  · simp at hz
theorem FI.step {φ : BT → BT} {la : List Dec} (hla : Mk la) {out : List Int} {l l' : List Dec} (h : FI φ la out l) {x : Dec} (hx : la[out.length - 2]? = some x) {p : Nat} (hm : Mk l') (hpre : ∃ r, l' = l ++ r) (hlen : l'.length ≤ l.length + 1) (hp : p < l'.length + 2) (ht : trs l' p = φ (.nd x.1 (trs la x.2.1) (trs la x.2.2))) : FI φ la (out ++ [(p : Int)]) l' := by
  have h2 : 2 ≤ out.length := by have := h.len; omega
  refine ⟨hm, by rw [List.length_append, List.length_singleton]; have := h.len; omega, fun k z hz => ?_⟩
  by_cases hk : k < out.length
  · rw [List.getElem?_append_left hk] at hz
    obtain ⟨q, e1, e2, e3⟩ := h.at' k z hz
    obtain ⟨r, rfl⟩ := hpre
    exact ⟨q, e1, by rw [List.length_append]; omega, by rw [trs_append e2]; exact e3⟩
  · have hlt := (List.getElem?_eq_some_iff.1 hz).1
    rw [List.length_append, List.length_singleton] at hlt
    have e : k = out.length := by omega
    subst e
    simp at hz
    refine ⟨p, hz.symm, hp, ?_⟩
    rw [ht]
    have := hla.at hx
    rw [show out.length - 2 + 2 = out.length by omega] at this
    rw [this]
/-- The configuration of a number. -/
def cfg (n : Nat) : Cf := fun i => n.testBit i
/-- Features on which a tree depends. -/
def supT (l : List Dec) : Nat := l.foldl (fun s x => s ||| 2 ^ x.1) 0
end Dg
namespace Dg
/-- A cube, of the features from m on. -/
def cubeB (on off m : Nat) (c : Cf) : Bool := (List.range 24).all fun j => decide (j < m) || ((!on.testBit j || c j) && (!off.testBit j || !c j))
end Dg

namespace Go.Proofs.Ytkgllhkhdjodeaa
open Go Go.Eng Go.Proofs Dg
abbrev fcf (f : Cf → Bool) : Cf → Bool := f
theorem False_c (w : World) : Calls Try.prog 9 [].toArray w (DPost (fun _ => false) w) := by
  refine enter Try.func9 rfl Try.ntmps9 rfl (St.init _) ?_
  refine WC.seq ?_
  refine WC.region ?_
  refine WL.step ?_
  refine WL.alloc F.zero27 rfl (fun b0 => ?_)
  refine WL.nil ?_
  refine WQ.then_normal ?_
  refine WC.seq ?_
  refine WC.region ?_
  refine WL.step ?_
  refine WL.build F.stT27 rfl (by repeat (first | exact Built.nil | apply Built.one rfl rfl (by repeat constructor) | apply Built.agg rfl rfl (by repeat constructor))) rfl ?_
  refine WL.step ?_
  refine WL.storeN F.agg27 rfl rfl rfl (by simp [Value.oneCell']) (by repeat (first | exact Upd.here | apply Upd.there)) (by repeat constructor) ?_
  refine WL.nil ?_
  refine WQ.then_normal ?_
  refine WC.ret ?_
  refine WQ.ret (rs := [.cell 0 27]) rfl (.cellN F.agg27 rfl (by repeat (first | exact List.Mem.head _ | apply List.Mem.tail)) rfl .nil) (fun w hS => ⟨⟨(.lf false, none, 0), trivial, fun _ => rfl⟩, rfl, ?_⟩)
  exact (hS.drop).rowNil _ _

theorem canon_var (i : Nat) : canon (.nd i (.lf false) (.lf true)) = ([(i, 0, 1)], 2) := by
  have h : Dg.look [] (.nd i (.lf false) (.lf true)) = none := by
    cases hl : Dg.look [] (.nd i (.lf false) (.lf true)) with
    | none => rfl
    | some p =>
      obtain ⟨h1, h2⟩ := look_some hl
      rcases p with _ | _ | p
      · rw [(trs_zero _).1] at h2; cases h2
      · rw [(trs_zero _).2] at h2; cases h2
      · simp at h1; omega
  unfold canon
  conv => lhs; unfold visitT
  rw [h]
  simp [visitT]

theorem Var_in (n : Nat) (hn : n < 24) (w : World) : Calls Try.prog 10 [.int .i64 (n : Int)].toArray w fun e w' => ∃ z : DRes (fun c => c n), e = .returned (.tuple #[z.v, .int .i64 0]) ∧ St w [] [z.ch] w' := by
  refine enter Try.func10 rfl Try.ntmps10 rfl (St.init _) ?_
  refine WC.seq ?_
  refine WC.region ?_
  refine WL.step ?_
  refine WL.alloc F.zero27 rfl (fun b2 => ?_)
  refine WL.step ?_
  refine WL.assign rfl rfl ?_
  refine WL.nil ?_
  refine WQ.then_normal ?_
  refine WC.seq ?_
  refine WC.seq ?_
  refine WC.region ?_
  refine WL.step ?_
  refine WL.move rfl rfl ?_
  refine WL.step ?_
  refine WL.ltI rfl rfl rfl ?_
  refine WL.step ?_
  refine WL.move rfl rfl ?_
  refine WA.splitB (i := 6) rfl (fun g6 => ?_) (fun g6 => ?_)
  · skip
    exfalso; simp at g6; omega
  · skip
    refine WL.step (WL.guardT rfl rfl rfl ?_)
    refine WL.move rfl rfl ?_
    refine WL.step (WL.guardT rfl rfl rfl ?_)
    refine WL.geI rfl rfl rfl ?_
    refine WL.step ?_
    refine WL.pickF rfl rfl rfl ?_
    refine WL.nil ?_
    refine WQ.then_normal ?_
    refine WC.cond rfl (fun h9 => ?_) (fun h9 => ?_)
    · skip
      exfalso; simp at h9; omega
    · skip
      refine WC.skip ?_
      refine WQ.then_normal ?_
      refine WC.seq ?_
      refine WC.region ?_
      refine WL.step ?_
      refine WL.move rfl rfl ?_
      refine WL.step ?_
      refine WL.build F.stT63 rfl (by repeat (first | exact Built.nil | apply Built.one rfl rfl (by repeat constructor) | apply Built.agg rfl rfl (by repeat constructor))) rfl ?_
      refine WL.step ?_
      refine WL.buildSlice F.sl25 F.ez25 rfl rfl rfl rfl (by repeat (first | exact Built.nil | apply Built.one rfl rfl (by repeat constructor) | apply Built.agg rfl rfl (by repeat constructor))) rfl (fun b13 => ?_)
      refine WL.step ?_
      refine WL.build F.stT27 rfl (by repeat (first | exact Built.nil | apply Built.one rfl rfl (by repeat constructor) | apply Built.agg rfl rfl (by repeat constructor))) rfl ?_
      refine WL.step ?_
      refine WL.storeN F.agg27 rfl rfl rfl (by simp [Value.oneCell']) (by repeat (first | exact Upd.here | apply Upd.there)) (by repeat constructor) ?_
      refine WL.step ?_
      refine WL.assign rfl rfl ?_
      refine WL.nil ?_
      refine WQ.then_normal ?_
      refine WC.ret ?_
      refine WQ.ret (rs := [.cell 2 27, .tmp 3]) rfl (.cellN F.agg27 rfl (by repeat (first | exact List.Mem.head _ | apply List.Mem.tail)) rfl (.tmp rfl .nil)) (fun w hS => ?_)
      refine ⟨⟨(.nd n (.lf false) (.lf true), some ⟨b13, 0, none⟩, 1), ⟨Nat.zero_le _, hn, fun e => (by simp at e), trivial, trivial⟩, fun c => ?_⟩, ?_, ?_⟩
      · simp only [BT.ev]; cases c n <;> rfl
      · show _ = Ending.returned (.tuple #[dval _ _ _, _])
        rw [dval, canon_var]; rfl
      · show St _ [] [dC (some ⟨b13, 0, none⟩) 1 (.nd n (.lf false) (.lf true))] w
        rw [dC, canon_var]
        exact ((St.pick (St.rowOf (n := 1) (sz := 3) (hS.pick (c := pt b13 [.int .i64 (n : Int), .int .i64 0, .int .i64 1] 63) (by repeat (first | exact Rem.here | apply Rem.there))) rfl (by decide)) (c := rowc (.slice (some ⟨b13, 0, none⟩) 1 1) 1 63 3 [.int .i64 (n : Int), .int .i64 0, .int .i64 1]) (by repeat (first | exact Rem.here | apply Rem.there)))).sublist (List.Sublist.cons_cons _ (List.nil_sublist _))

end Go.Proofs.Ytkgllhkhdjodeaa

/-
  Passes over the nodes of a diagram that make another one.
-/
namespace Go.Proofs.Ytkgllhkhdjodeaa
open Go Go.Eng Go.Proofs Dg
/-- The memory of With's pass. -/
abbrev wcCs (bi bmv bon bm : Nat) (i : Int) (on : Bool) (l : List Dec) (F1 : List Nat) : List Chunk := [pt bi [.int .i64 i] 3, pt bmv [pp bm] 96, pt bon [.bool on] 4, mkr F1 bm l]
def wch (F : List Nat) (bi bmv bon bm : Nat) (i : Int) (on : Bool) (l : List Dec) : Chunk := bun F (wcCs bi bmv bon bm i on l) (fun _ => True)
end Go.Proofs.Ytkgllhkhdjodeaa

namespace Go.Proofs.Ytkgllhkhdjodeaa
open Go Go.Eng Go.Proofs Dg
end Go.Proofs.Ytkgllhkhdjodeaa

/-! The paths of a set to the empty one. -/
namespace Dg
def pathsT : BT → List Int → List (List Int)
  | .lf b, pre => bif b then [] else [pre]
  | .nd v lo hi, pre => pathsT lo (pre ++ [(v : Int) + 1]) ++ pathsT hi (pre ++ [-((v : Int) + 1)])
def pathsN : BT → Nat
  | .lf b => bif b then 0 else 1
  | .nd _ lo hi => pathsN lo + pathsN hi
theorem pathsT_len : ∀ (t : BT) (pre : List Int), (pathsT t pre).length = pathsN t
  | .lf b, pre => by cases b <;> rfl
  | .nd v lo hi, pre => by simp [pathsT, pathsN, pathsT_len lo, pathsT_len hi]
/-- What Fold makes of the nodes: the number of paths, or 4097 if there are more than 4096. -/
structure FP (la : List Dec) (out : List Int) : Prop where
  at' : ∀ k z, out[k]? = some z → z = ((min (pathsN (trs la k)) 4097 : Nat) : Int)
theorem FP.nil (la : List Dec) : FP la [1, 0] := ⟨fun k z hz => by
  rcases k with _ | _ | k
  · simp at hz; rw [(trs_zero la).1, ← hz]; rfl
  · simp at hz; rw [(trs_zero la).2, ← hz]; rfl
  · simp at hz⟩
theorem FP.step {la : List Dec} (hla : Mk la) {out : List Int} (h2 : 2 ≤ out.length) (h : FP la out) {x : Dec} (hx : la[out.length - 2]? = some x) {z1 z2 r : Int} (h1 : out[x.2.1]? = some z1) (h2' : out[x.2.2]? = some z2) (hr : r = if z1 + z2 > 4097 then 4097 else z1 + z2) : FP la (out ++ [r]) := ⟨fun k z hz => by
  by_cases hk : k < out.length
  · rw [List.getElem?_append_left hk] at hz; exact h.at' k z hz
  · have hlt := (List.getElem?_eq_some_iff.1 hz).1
    rw [List.length_append, List.length_singleton] at hlt
    have e : k = out.length := by omega
    subst e
    simp at hz
    have e1 := h.at' _ _ h1
    have e2 := h.at' _ _ h2'
    have ht := hla.at hx
    rw [show out.length - 2 + 2 = out.length by omega] at ht
    rw [ht, ← hz, hr, e1, e2]
    simp only [pathsN]
    split <;> omega⟩
end Dg

/-
  Trees of the holder's own whose rows may be written.
-/
namespace Go.Eng
open Go Go.RowKit
mutual
def rdW (w : World) : Tree → List Nat → Value → Prop
  | .mk op name kids, F, v => ∃ s, v = .agg #[.int .u8 op, .string (str name), s] ∧
    ((kids = [] ∧ F = [] ∧ ∃ a cap, s = .slice a 0 cap) ∨
     (kids ≠ [] ∧ ∃ g cap G vs, s = .slice (some ⟨g, 0, none⟩) kids.length cap ∧ F = g :: G ∧ w.ownsRow 0 74 3 (.slice (some ⟨g, 0, none⟩) kids.length cap) kids.length (flat vs) ∧ rdWL w kids G vs))
def rdWL (w : World) : List Tree → List Nat → List Value → Prop
  | [], F, vs => F = [] ∧ vs = []
  | t :: ts, F, vs => ∃ F1 F2 v vs', F = F1 ++ F2 ∧ vs = v :: vs' ∧ rdW w t F1 v ∧ rdWL w ts F2 vs'
end
mutual
theorem rdW_loc {w w' : World} : ∀ {t : Tree} {F : List Nat} {v : Value}, (∀ k ∈ F, w'.heap[k]? = w.heap[k]?) → rdW w t F v → rdW w' t F v
  | .mk op name kids, F, v, hk, h => by
    simp only [rdW] at h ⊢
    obtain ⟨s, hv, h⟩ := h
    refine ⟨s, hv, ?_⟩
    rcases h with h | ⟨hne, g, cap, G, vs, hs, hF, hc, hl⟩
    · exact .inl h
    · subst hF
      refine .inr ⟨hne, g, cap, G, vs, hs, rfl, ownsRow_loc (fun k hk' => ?_) hc, rdWL_loc (fun k hkG => hk k (by simp [hkG])) hl⟩
      have : g = k := Option.some.inj hk'
      subst this
      exact hk g (by simp)
theorem rdWL_loc {w w' : World} : ∀ {ts : List Tree} {F : List Nat} {vs : List Value}, (∀ k ∈ F, w'.heap[k]? = w.heap[k]?) → rdWL w ts F vs → rdWL w' ts F vs
  | [], F, vs, hk, h => by simp only [rdWL] at h ⊢; exact h
  | t :: ts, F, vs, hk, h => by
    simp only [rdWL] at h ⊢
    obtain ⟨F1, F2, v, vs', hF, hvs, h1, h2⟩ := h
    subst hF
    exact ⟨F1, F2, v, vs', rfl, hvs, rdW_loc (fun k hkF => hk k (by simp [hkF])) h1, rdWL_loc (fun k hkF => hk k (by simp [hkF])) h2⟩
end
def ownW (F : List Nat) (t : Tree) (v : Value) : Chunk where
  fp k := k ∈ F
  ok w := F.Nodup ∧ rdW w t F v
  loc w w' h hw := ⟨hw.1, rdW_loc h hw.2⟩
def ownWL (F : List Nat) (ts : List Tree) (vs : List Value) : Chunk where
  fp k := k ∈ F
  ok w := F.Nodup ∧ rdWL w ts F vs
  loc w w' h hw := ⟨hw.1, rdWL_loc h hw.2⟩
section
variable {w0 : World} {O : List Nat} {C : List Chunk}
theorem St.split {w : World} {x c d : Chunk} (h : St w0 O (x :: C) w) (hc : x.ok w → c.ok w) (hd : x.ok w → d.ok w) (hfc : ∀ k, c.fp k → x.fp k) (hfd : ∀ k, d.fp k → x.fp k) (hdis : x.ok w → ∀ k, c.fp k → ¬ d.fp k) : St w0 O (c :: d :: C) w := by
  have hx := h.ok x (List.mem_cons_self ..)
  have hD := List.pairwise_cons.1 h.disj
  refine ⟨h.os, h.tape, h.output, h.size, h.old, fun y hy => ?_, fun y hy k hk => ?_, ?_⟩
  · rcases List.mem_cons.1 hy with rfl | hy
    · exact hc hx
    · rcases List.mem_cons.1 hy with rfl | hy
      · exact hd hx
      · exact h.ok y (List.mem_cons_of_mem _ hy)
  · rcases List.mem_cons.1 hy with rfl | hy
    · exact h.bnd x (List.mem_cons_self ..) k (hfc k hk)
    · rcases List.mem_cons.1 hy with rfl | hy
      · exact h.bnd x (List.mem_cons_self ..) k (hfd k hk)
      · exact h.bnd y (List.mem_cons_of_mem _ hy) k hk
  · refine List.Pairwise.cons (fun y hy k hk hk' => ?_) (List.Pairwise.cons (fun y hy k hk hk' => hD.1 y hy k (hfd k hk) hk') hD.2)
    rcases List.mem_cons.1 hy with rfl | hy
    · exact hdis hx k hk hk'
    · exact hD.1 y hy k (hfc k hk) hk'
end
end Go.Eng

namespace Go.Eng
open Go Go.RowKit
section
variable {P : Program} {w0 : World} {O : List Nat} {ops : Array Oper} {Q : Exit → Act → World → Prop} {N : Nat} {D : List Deferred} {L : FL} {C : List Chunk} {K : Act → World → Prop}
variable {ty : TypeId} {pos : String} {af : Array Edge}
theorem WL.storeRow1 {t : TypeId} {n sz cap : Nat} {x y : Operand} {g off : Nat} {xs xs' : List Value} {v : Value} {e : TypeId} {C' : List Chunk} (ht : One P t) (hx : ev L x = some (.pointer (some ⟨g, off, none⟩))) (hy : ev L y = some v) (hv : v.oneCell' = true)
    (hu : Upd (rowc (.slice (some ⟨g, 0, none⟩) n cap) n e sz xs) (rowc (.slice (some ⟨g, 0, none⟩) n cap) n e sz xs') C C') (hn : SetN xs off [v] xs') (h : WA w0 O K N D L C') :
    WK P w0 O ops Q ⟨none, .store t x y, ty, pos, af, none⟩ K N D L C := fun a w hF hS => by
  obtain ⟨hlen, hr⟩ := (show w.ownsRow 0 e sz (.slice (some ⟨g, 0, none⟩) n cap) n xs from hS.ok _ hu.mem)
  rcases hr with ⟨h1, _⟩ | ⟨g', cap', cur, h1, _, hh, hnc, hcm, hcs, htk⟩
  · cases h1
  · injection h1 with h1 h2 h3
    injection h1 with h1
    injection h1 with h1
    subst h1; subst h3
    have hsplit : cur.toList = xs ++ cur.toList.drop (n * sz) := by rw [← htk, List.take_append_drop]
    have hn' : SetN cur.toList off [v] (xs' ++ cur.toList.drop (n * sz)) := by
      have := hn.append (cur.toList.drop (n * sz))
      rw [← hsplit] at this
      exact this
    have hh' : w.heap[g]? = some (.cells cur.toList.toArray e (0, 0)) := by rw [Array.toArray_toList]; exact hh
    have hr := run_storeN (P := P) (t := t) (vs := [v]) ht.size (cells_one hv) (by simpa using hv) hh' hn'
    have hxl : xs'.length = xs.length := hn.len
    have hSt : St w0 O C' (w.setRow g (xs' ++ cur.toList.drop (n * sz)).toArray) := by
      refine hS.rowUpd (b := g) hu (fun k => ?_) (fun k => ?_) ?_
      · constructor
        · intro hk; exact (Option.some.inj hk).symm
        · intro hk; rw [hk]; rfl
      · constructor
        · intro hk; exact (Option.some.inj hk).symm
        · intro hk; rw [hk]; rfl
      · refine ⟨by rw [hxl, hlen], .inr ⟨g, cap, (xs' ++ cur.toList.drop (n * sz)).toArray, rfl, Nat.zero_le _, setRow_heap w g _ _ e _ hh', hnc, hcm, ?_, ?_⟩⟩
        · have := congrArg List.length hsplit
          simp at this ⊢
          omega
        · have e2 : xs'.length = n * sz := by rw [hxl, hlen]
          show (xs' ++ cur.toList.drop (n * sz)).take (n * sz) = xs'
          rw [List.take_left' e2]
    exact wpo_skip rfl (by simp [execOp, hF.ev hx, hF.ev hy, hr]) (h _ _ hF hSt)
end
end Go.Eng

/-
  Clauses of a set: the memory of the walk through its paths.
-/
namespace Go.Proofs.Ytkgllhkhdjodeaa
open Go Go.Eng Go.Proofs Dg
theorem FpIs.steps {F : List Nat} {vs : List Value} {ss : List (List Int)} : FpIs (stepsC F vs ss) F := fun k => Iff.rfl
abbrev ints (c : List Int) : List Value := c.map (Value.int .i64)
structure TG where
  oa : Option Addr
  oc : Nat
  vs : List Value
  Fs : List Nat
  pa : Option Addr
  pc : Nat
abbrev thCs (bo bp : Nat) (out : List (List Int)) (path : List Int) (x : TG) : List Chunk :=
  [pt bo [.slice x.oa out.length x.oc] 33, rowc (.slice x.oa out.length x.oc) out.length 23 1 x.vs, stepsC x.Fs x.vs out, pt bp [.slice x.pa path.length x.pc] 23, rowc (.slice x.pa path.length x.pc) path.length 3 1 (ints path)]
def thr (F : List Nat) (bo bp : Nat) (out : List (List Int)) (path : List Int) : Chunk := bun F (thCs bo bp out path) (fun _ => True)
theorem St.thrClose {w0 w : World} {O : List Nat} {C : List Chunk} {bo bp n m oc pc : Nat} {out : List (List Int)} {path : List Int} {oa pa : Option Addr} {vs xs : List Value} {Fs : List Nat} (hn : n = out.length) (hm : m = path.length) (hx : xs = ints path)
    (h : St w0 O (pt bo [.slice oa n oc] 33 :: rowc (.slice oa n oc) n 23 1 vs :: stepsC Fs vs out :: pt bp [.slice pa m pc] 23 :: rowc (.slice pa m pc) m 3 1 xs :: C) w) : ∃ F, St w0 O (thr F bo bp out path :: C) w := by
  subst hn; subst hm; subst hx
  exact ⟨_, St.bunClose' (Cs := thCs bo bp out path) ⟨oa, oc, vs, Fs, pa, pc⟩ trivial (.cons FpIs.pt (.cons FpIs.rowc (.cons FpIs.steps (.cons FpIs.pt (.cons FpIs.rowc .nil))))) h⟩
abbrev thF (bo bp bn bt : Nat) : Value := .func (.func 35) [].toArray [pp bo, pp bp, pp bn, pp bt].toArray
structure TEnv (w : World) (F : List Nat) (bo bp bn bt : Nat) (l : List Dec) (a : Option Addr) (c : Nat) : Prop where
  no : w.cell? ⟨bn, 0, none⟩ = some (.slice a l.length c)
  no' : bn ∉ F
  th : w.cell? ⟨bt, 0, none⟩ = some (thF bo bp bn bt)
  th' : bt ∉ F
  rd : RdDecO w l a F
theorem TEnv.next {w0 w : World} {F F' : List Nat} {C1 : List Chunk} {bo bp bn bt c : Nat} {l : List Dec} {a : Option Addr} {out : List (List Int)} {path : List Int} (h : TEnv w0 F bo bp bn bt l a c) (hS : St w0 F ([thr F' bo bp out path] ++ C1) w) : TEnv w F' bo bp bn bt l a c := by
  have hap := fun {z : Nat} (h1 : z < w0.heap.size) (h2 : z ∉ F) => hS.apart (F := F') bun_O2 h1 h2
  refine ⟨hS.oldc h.no h.no', hap (World.block_lt_of_cell? w0 _ h.no) h.no', hS.oldc h.th h.th', hap (World.block_lt_of_cell? w0 _ h.th) h.th', fun j u hu => ?_⟩
  obtain ⟨b, off, e1, e2, e3⟩ := h.rd j u hu
  exact ⟨b, off, e1, hS.oldc e2 e3, hap (World.block_lt_of_cell? w0 _ e2) e3⟩
end Go.Proofs.Ytkgllhkhdjodeaa

namespace Go.Proofs.Ytkgllhkhdjodeaa
open Go Go.Eng Go.Proofs Dg
theorem CloneI_c (k : List Int) (a : Option Addr) (cap : Nat) (hlen : k.length ≤ 1099511627776) (w : World) (hr : RdC w k a) :
    Calls Try.prog 36 [.slice a k.length cap].toArray w fun e w' => ∃ x : Option Addr × Nat, e = .returned (.slice x.1 k.length x.2) ∧ St w [] [rowc (.slice x.1 k.length x.2) k.length 3 1 (ints k)] w' := by
  refine enter Try.func36 rfl Try.ntmps36 rfl (St.init _) ?_
  refine WC.seq ?_
  refine WC.region ?_
  refine WL.step ?_
  refine WL.assign rfl rfl ?_
  refine WL.nil ?_
  refine WQ.then_normal ?_
  refine WC.seq ?_
  refine WC.seq ?_
  rcases a with _ | ⟨b, off, st⟩
  · skip
    have hc0 : k = [] := by
      cases k with
      | nil => rfl
      | cons y ys =>
        obtain ⟨_, _, h1, _⟩ := hr 0 y rfl
        cases h1
    subst hc0
    refine WC.region ?_
    refine WL.step ?_
    refine WL.move rfl rfl ?_
    refine WL.step ?_
    refine WL.bin rfl rfl rfl (v := .bool true) (fun w => by kernel_rfl) ?_
    refine WL.nil ?_
    refine WQ.then_normal ?_
    refine WC.condT rfl ?_
    refine WC.seq ?_
    refine WC.region ?_
    refine WL.step ?_
    refine WL.assign rfl rfl ?_
    refine WL.nil ?_
    refine WQ.then_normal ?_
    refine WC.ret ?_
    refine WQ.then_ret ?_
    exact WQ.ret (rs := [.tmp 2]) rfl (.tmp rfl .nil) (fun w hS => ⟨(none, 0), rfl, hS.rowNil 3 1⟩)
  · skip
    refine WC.region ?_
    refine WL.step ?_
    refine WL.move rfl rfl ?_
    refine WL.step ?_
    refine WL.bin rfl rfl rfl (v := .bool false) (fun w => by kernel_rfl) ?_
    refine WL.nil ?_
    refine WQ.then_normal ?_
    refine WC.condF rfl ?_
    refine WC.skip ?_
    refine WQ.then_normal ?_
    refine WC.seq ?_
    refine WC.region ?_
    refine WL.step ?_
    refine WL.buildSlice0 F.sl23 rfl (fun b5 => ?_)
    refine WA.chunks (fun w hS => hS.rowOf (n := 0) (sz := 1) rfl (by decide)) ?_
    refine WL.step ?_
    refine WL.move rfl rfl ?_
    refine WL.step ?_
    refine WL.appendC (n := 0) (xs := []) (news := ints k) F.el23 rfl rfl rfl (by repeat (first | exact Rem.here | apply Rem.there)) (fun w hS hm => (by obtain ⟨bx, ox, e1, e2⟩ := hr.news (by omega); exact ⟨bx, ox, e1, fun j u hu => hS.oldc (e2 j u hu) (by simp)⟩)) (by simp [ints]) (ints_one k) (Nat.le_trans (m := 1099511627776) (by omega) (by decide)) (by omega) (fun a2 c2 => ?_)
    refine WL.step ?_
    refine WL.assign rfl rfl ?_
    refine WL.nil ?_
    refine WQ.then_normal ?_
    refine WC.ret ?_
    refine WQ.ret (rs := [.tmp 2]) rfl (.tmp rfl .nil) (fun w hS => ⟨(a2, c2), ?_, ?_⟩)
    · simp [tup]
    · simpa using hS

set_option maxRecDepth 100000 in
theorem through_c (bo bp bn bt : Nat) (l : List Dec) (a : Option Addr) (c : Nat) (hl : Mk l) (hll : l.length ≤ 16777216) : ∀ (n r : Nat), r < n → ∀ (Fp : List Nat) (out : List (List Int)) (path : List Int) (w : World) (m : Nat), r < l.length + 2 → (trs l r).ok m → path.length ≤ m → m ≤ 24 → out.length + pathsN (trs l r) ≤ 4096 → TEnv w Fp bo bp bn bt l a c → St w Fp [thr Fp bo bp out path] w →
    Calls Try.prog 35 [.int .i64 (r : Int), pp bo, pp bp, pp bn, pp bt].toArray w fun e w' => ∃ x : List Nat, e = .returned (.tuple #[]) ∧ St w Fp [thr x bo bp (out ++ pathsT (trs l r) path) path] w' := by
  intro n
  induction n with
  | zero => intro r hr; omega
  | succ n hrec =>
  intro r hrn Fp out path w m hr hok hpm hm24 hb hE hS0
  obtain ⟨⟨oa, oc, vs, Fs, pa, pc⟩, _, h1, h2, hS0⟩ := hS0.bunOpen
  simp only [thCs, List.cons_append, List.nil_append] at hS0
  refine enter Try.func35 rfl Try.ntmps35 rfl (C := [pt bo [.slice oa out.length oc] 33, rowc (.slice oa out.length oc) out.length 23 1 vs, stepsC Fs vs out, pt bp [.slice pa path.length pc] 23, rowc (.slice pa path.length pc) path.length 3 1 (ints path)]) hS0 ?_
  refine WC.seq ?_
  refine WC.seq ?_
  refine WC.region ?_
  refine WL.step ?_
  refine WL.move rfl rfl ?_
  refine WL.step ?_
  refine WL.eqI rfl rfl rfl ?_
  refine WL.nil ?_
  refine WQ.then_normal ?_
  refine WC.cond rfl (fun h8 => ?_) (fun h8 => ?_)
  · skip
    have hr0 : r = 0 := by simp at h8; omega
    subst hr0
    refine WC.drawsL (by kernel_rfl) (FactsOk.cons (ds := [4, 5]) (LoadOk.one (t := 1) (off := 0) rfl (by repeat (first | exact List.Mem.head _ | apply List.Mem.tail)) rfl) (FactsOk.cons (ds := [2, 3, 4, 5]) (LoadOk.one (t := 2) (off := 0) rfl (by repeat (first | exact List.Mem.head _ | apply List.Mem.tail)) rfl) (FactsOk.nil))) ?_
    refine WD.take (i := 0) rfl rfl rfl rfl (by kernel_rfl) (by kernel_rfl) (by kernel_rfl) (fun _ _ _ h => h) (by kernel_rfl) (need_at 0 6 rfl (by kernel_rfl)) (Yl.load1 F.one33 rfl) ?_
    refine WD.take (i := 1) rfl rfl rfl rfl (by kernel_rfl) (by kernel_rfl) (by kernel_rfl) (fun _ _ _ h => h) (by kernel_rfl) (need_at 1 6 rfl (by kernel_rfl)) (Yl.load1 F.one23 rfl) ?_
    refine WD.one (i := 2) (by kernel_rfl) rfl ?_
    refine WL.callC (β := Option Addr × Nat) (res := fun y => .slice y.1 path.length y.2) (cs := fun y => [rowc (.slice y.1 path.length y.2) path.length 3 1 (ints path)]) (Cs := []) (O' := []) F.fun36 (fun d h => by cases h; rfl) rfl (List.Perm.refl _) (by simp) (by simp) (fun w hS _ => CloneI_c path pa pc (by omega) w (RdC.of_row rfl (hS.ok (rowc (.slice pa path.length pc) path.length 3 1 (ints path)) (by repeat (first | exact List.Mem.head _ | apply List.Mem.tail))))) (fun ⟨ca, cc⟩ => ?_)
    refine WD.on (closed_of (by kernel_rfl)) (fun w hS => Sx.keep (hS.cell (by repeat (first | exact List.Mem.head _ | apply List.Mem.tail)) rfl) (Sx.gone rfl (Sx.none))) ?_
    refine WD.one (i := 3) (by kernel_rfl) rfl ?_
    refine WL.buildSlice F.sl33 F.ez33 rfl rfl rfl rfl (by repeat (first | exact Built.nil | apply Built.one rfl rfl (by repeat constructor) | apply Built.agg rfl rfl (by repeat constructor))) rfl (fun b12 => ?_)
    refine WD.on (closed_of (by kernel_rfl)) (fun w hS => Sx.keep (hS.cell (by repeat (first | exact List.Mem.head _ | apply List.Mem.tail)) rfl) (Sx.gone rfl (Sx.none))) ?_
    refine WD.one (i := 4) (by kernel_rfl) rfl ?_
    refine WL.appendE (news := [.slice ca path.length cc]) F.el33 rfl rfl rfl (by repeat (first | exact Rem.here | apply Rem.there)) (fun w hS jj u hu => by rw [Nat.zero_add]; exact hS.cell (cs := [.slice ca path.length cc]) (by repeat (first | exact List.Mem.head _ | apply List.Mem.tail)) hu) rfl (by simp [Value.oneCell']) (Nat.le_trans (m := 4097) (by omega) (by decide)) (by omega) (fun oa2 oc2 => ?_)
    refine WD.on (closed_of (by kernel_rfl)) (fun w hS => Sx.gone rfl (Sx.gone rfl (Sx.none))) ?_
    refine WD.one (i := 5) (by kernel_rfl) rfl ?_
    refine WL.store1 F.one33 rfl rfl rfl (by repeat (first | exact Upd.here | apply Upd.there)) (by repeat constructor) ?_
    refine WD.on (closed_of (by kernel_rfl)) (fun w hS => Sx.gone rfl (Sx.gone rfl (Sx.none))) ?_
    refine WD.done (by kernel_rfl) ?_
    refine WQ.then_normal ?_
    refine WC.seq ?_
    refine WC.seq ?_
    refine WC.region ?_
    refine WL.step ?_
    refine WL.move rfl rfl ?_
    refine WL.step ?_
    refine WL.ltI rfl rfl rfl ?_
    refine WL.nil ?_
    refine WQ.then_normal ?_
    refine WC.condT rfl ?_
    refine WC.ret ?_
    refine WQ.then_ret ?_
    refine WQ.ret (rs := []) rfl .nil (fun w hS => ?_)
    obtain ⟨F8, hF8⟩ := St.stepsSnocR (vs := vs) (ss := out) (a := ca) (cap := cc) (c := path) rfl ((St.pick (St.pick hS (c := rowc (.slice ca path.length cc) path.length 3 1 (ints path)) (by repeat (first | exact Rem.here | apply Rem.there))) (c := stepsC Fs vs out) (by repeat (first | exact Rem.here | apply Rem.there))))
    obtain ⟨F9, hF9⟩ := St.thrClose (bo := bo) (bp := bp) (out := out ++ [path]) (path := path) (oa := oa2) (oc := oc2) (pa := pa) (pc := pc) (n := out.length + 1) (m := path.length) (vs := vs ++ [.slice ca path.length cc]) (Fs := F8) (xs := ints path) (by simp) rfl rfl (((St.pick (St.pick (St.pick (St.pick (St.pick hF8 (c := rowc (.slice pa path.length pc) path.length 3 1 (ints path)) (by repeat (first | exact Rem.here | apply Rem.there))) (c := pt bp [.slice pa path.length pc] 23) (by repeat (first | exact Rem.here | apply Rem.there))) (c := stepsC F8 (vs ++ [.slice ca path.length cc]) (out ++ [path])) (by repeat (first | exact Rem.here | apply Rem.there))) (c := rowc (.slice oa2 (out.length + 1) oc2) (out.length + 1) 23 1 (vs ++ [.slice ca path.length cc])) (by repeat (first | exact Rem.here | apply Rem.there))) (c := pt bo [.slice oa2 (out.length + 1) oc2] 33) (by repeat (first | exact Rem.here | apply Rem.there)))).sublist (List.Sublist.cons_cons _ (List.Sublist.cons_cons _ (List.Sublist.cons_cons _ (List.Sublist.cons_cons _ (List.Sublist.cons_cons _ (List.nil_sublist _)))))))
    refine ⟨F9, rfl, ?_⟩
    rw [(trs_zero l).1]
    exact hF9
  · skip
    have hr0 : r ≠ 0 := by simp at h8; omega
    refine WC.skip ?_
    refine WQ.then_normal ?_
    refine WC.seq ?_
    refine WC.seq ?_
    refine WC.region ?_
    refine WL.step ?_
    refine WL.move rfl rfl ?_
    refine WL.step ?_
    refine WL.ltI rfl rfl rfl ?_
    refine WL.nil ?_
    refine WQ.then_normal ?_
    refine WC.cond rfl (fun h15 => ?_) (fun h15 => ?_)
    · skip
      have hr1 : r = 1 := by simp at h15; omega
      subst hr1
      refine WC.ret ?_
      refine WQ.then_ret ?_
      refine WQ.ret (rs := []) rfl .nil (fun w hS => ⟨Fp, rfl, ?_⟩)
      rw [(trs_zero l).2]
      have e8 : out ++ pathsT (.lf true) path = out := by (simp [pathsT])
      rw [e8]
      exact hS.bunClose (Cs := thCs bo bp out path) ⟨oa, oc, vs, Fs, pa, pc⟩ trivial h1 h2
    · skip
      have hr2 : 2 ≤ r := by simp at h15; omega
      obtain ⟨x, hx⟩ : ∃ x, l[r - 2]? = some x := ⟨_, List.getElem?_eq_getElem (by omega)⟩
      have hkd := hl.kid _ _ hx
      have htr : trs l r = .nd x.1 (trs l x.2.1) (trs l x.2.2) := by (have := hl.at hx; rwa [show r - 2 + 2 = r by omega] at this)
      rw [htr] at hok hb
      simp only [pathsN] at hb
      have hmx := hok.1
      obtain ⟨bl, off, rfl, hbl, hcx⟩ := hE.rd.at hx
      have hri : ((r - 2 : Nat) : Int) = (r : Int) - 2 := by omega
      refine WC.skip ?_
      refine WQ.then_normal ?_
      refine WC.seq ?_
      refine WC.region ?_
      refine WL.step ?_
      refine WL.load1 F.one25 rfl rfl (v := .slice (some ⟨bl, off, none⟩) l.length c) (fun w hS => hS.oldc hE.no hE.no') ?_
      refine WL.step ?_
      refine WL.move rfl rfl ?_
      refine WL.step ?_
      refine WL.sub rfl rfl rfl ⟨by omega, by omega⟩ ?_
      refine WA.say 18 (.int .i64 ((r - 2 : Nat) : Int)) (by rw [hri]; rfl) ?_
      refine WL.step ?_
      refine WL.indexAddr F.sl25 rfl rfl rfl (List.getElem?_eq_some_iff.1 hx).1 ?_
      refine WL.step ?_
      refine WL.loadN F.agg63 rfl rfl (vs := [Value.int .i64 (x.1 : Int), .int .i64 (x.2.1 : Int), .int .i64 (x.2.2 : Int)]) rfl (fun w hS j v hv => hS.oldc (hcx j v hv) hbl) ?_
      refine WL.step ?_
      refine WL.alloc F.zero63 rfl (fun b6 => ?_)
      refine WL.step ?_
      refine WL.storeN F.agg63 rfl rfl rfl (by simp [Value.oneCell']) (by repeat (first | exact Upd.here | apply Upd.there)) (by repeat constructor) ?_
      refine WL.nil ?_
      refine WQ.then_normal ?_
      refine WC.seq ?_
      refine WC.region ?_
      refine WL.step ?_
      refine WL.loadP F.one23 rfl rfl (by repeat (first | exact List.Mem.head _ | apply List.Mem.tail)) rfl ?_
      refine WL.step ?_
      refine WL.fieldAddr0 F.fld63_0 rfl rfl ?_
      refine WL.step ?_
      refine WL.loadP F.one3 rfl rfl (by repeat (first | exact List.Mem.head _ | apply List.Mem.tail)) rfl ?_
      refine WL.step ?_
      refine WL.add rfl rfl rfl ⟨by omega, by omega⟩ ?_
      refine WL.step ?_
      refine WL.buildSlice F.sl23 F.ez23 rfl rfl rfl rfl (by repeat (first | exact Built.nil | apply Built.one rfl rfl (by repeat constructor) | apply Built.agg rfl rfl (by repeat constructor))) rfl (fun b25 => ?_)
      refine WL.step ?_
      refine WL.appendE (news := [.int .i64 ((x.1 : Int) + 1)]) F.el23 rfl rfl rfl (by repeat (first | exact Rem.here | apply Rem.there)) (fun w hS jj u hu => by rw [Nat.zero_add]; exact hS.cell (cs := [.int .i64 ((x.1 : Int) + 1)]) (by repeat (first | exact List.Mem.head _ | apply List.Mem.tail)) hu) rfl (by simp [Value.oneCell']) (Nat.le_trans (m := 4097) (by omega) (by decide)) (by omega) (fun pa2 pc2 => ?_)
      refine WL.step ?_
      refine WL.store1 F.one23 rfl rfl rfl (by repeat (first | exact Upd.here | apply Upd.there)) (by repeat constructor) ?_
      refine WL.nil ?_
      refine WQ.then_normal ?_
      refine WC.seq ?_
      refine WC.region ?_
      refine WL.step ?_
      refine WL.load1 F.one70 rfl rfl (v := thF bo bp bn bt) (fun w hS => hS.oldc hE.th hE.th') ?_
      refine WL.step ?_
      refine WL.fieldAddr0 F.fld63_1 rfl rfl ?_
      refine WL.step ?_
      refine WL.loadP F.one3 rfl rfl (by repeat (first | exact List.Mem.head _ | apply List.Mem.tail)) rfl ?_
      refine WA.chunksE (C' := fun F1 => [thr F1 bo bp out (path ++ [((x.1 : Int) + 1)]), pt b6 [Value.int .i64 (x.1 : Int), .int .i64 (x.2.1 : Int), .int .i64 (x.2.2 : Int)] 63]) (fun w hS => ?_) (fun F1 => ?_)
      · exact St.thrClose (bo := bo) (bp := bp) (out := out) (path := (path ++ [((x.1 : Int) + 1)])) (oa := oa) (oc := oc) (pa := pa2) (pc := pc2) (n := out.length) (m := path.length + 1) (vs := vs) (Fs := Fs) (xs := ints path ++ [.int .i64 ((x.1 : Int) + 1)]) rfl (by simp) (by simp [ints]) (((St.pick (St.pick (St.pick (St.pick (St.pick (St.pick hS (c := pt b6 [Value.int .i64 (x.1 : Int), .int .i64 (x.2.1 : Int), .int .i64 (x.2.2 : Int)] 63) (by repeat (first | exact Rem.here | apply Rem.there))) (c := rowc (.slice pa2 (path.length + 1) pc2) (path.length + 1) 3 1 (ints path ++ [.int .i64 ((x.1 : Int) + 1)])) (by repeat (first | exact Rem.here | apply Rem.there))) (c := pt bp [.slice pa2 (path.length + 1) pc2] 23) (by repeat (first | exact Rem.here | apply Rem.there))) (c := stepsC Fs vs out) (by repeat (first | exact Rem.here | apply Rem.there))) (c := rowc (.slice oa out.length oc) out.length 23 1 vs) (by repeat (first | exact Rem.here | apply Rem.there))) (c := pt bo [.slice oa out.length oc] 33) (by repeat (first | exact Rem.here | apply Rem.there)))).sublist (List.Sublist.cons_cons _ (List.Sublist.cons_cons _ (List.Sublist.cons_cons _ (List.Sublist.cons_cons _ (List.Sublist.cons_cons _ (List.Sublist.cons_cons _ (List.nil_sublist _))))))))
      refine WL.step ?_
      refine WL.callFC (β := List Nat) (us := []) (cap := [pp bo, pp bp, pp bn, pp bt]) (res := fun y => .tuple #[]) (cs := fun y => [thr y bo bp (out ++ pathsT (trs l x.2.1) (path ++ [((x.1 : Int) + 1)])) (path ++ [((x.1 : Int) + 1)])]) (Cs := [thr F1 bo bp out (path ++ [((x.1 : Int) + 1)])]) (C1 := [pt b6 [Value.int .i64 (x.1 : Int), .int .i64 (x.2.1 : Int), .int .i64 (x.2.2 : Int)] 63]) (O' := F1) F.fun35 (fun d h => by cases h; rfl) rfl rfl (List.Perm.refl _) bun_O1 bun_O2 (fun w hS hS2 => hrec x.2.1 (by omega) F1 out (path ++ [((x.1 : Int) + 1)]) w (x.1 + 1) (by omega) hok.2.2.2.1 (by simp; omega) (by omega) (by (try simp only [List.length_append, pathsT_len]); omega) (hE.next hS) hS2) (fun F2 => ?_)
      refine WL.nil ?_
      refine WQ.then_normal ?_
      refine WC.seq ?_
      refine WC.region ?_
      refine WA.openB (fun y3 _ _ _ => ?_)
      obtain ⟨oa3, oc3, vs3, Fs3, pa3, pc3⟩ := y3
      simp only [thCs, List.cons_append, List.nil_append]
      refine WA.know (φ := ∃ g, pa3 = some ⟨g, 0, none⟩ ∧ (path ++ [((x.1 : Int) + 1)]).length = (path ++ [((x.1 : Int) + 1)]).length ∧ (path ++ [((x.1 : Int) + 1)]).length ≤ pc3) (fun w hS => rowc_addr (hS.ok (rowc (.slice pa3 (path ++ [((x.1 : Int) + 1)]).length pc3) (path ++ [((x.1 : Int) + 1)]).length 3 1 (ints (path ++ [((x.1 : Int) + 1)]))) (by repeat (first | exact List.Mem.head _ | apply List.Mem.tail))) (by simp)) (fun ⟨g3, hg3, _, _⟩ => ?_)
      subst hg3
      have hpl : (path ++ [((x.1 : Int) + 1)]).length = path.length + 1 := by simp
      refine WL.step ?_
      refine WL.loadP F.one23 rfl rfl (by repeat (first | exact List.Mem.head _ | apply List.Mem.tail)) rfl ?_
      refine WL.step ?_
      refine WL.loadP F.one23 rfl rfl (by repeat (first | exact List.Mem.head _ | apply List.Mem.tail)) rfl ?_
      refine WL.step ?_
      refine WL.lenSl F.und23 rfl rfl ?_
      refine WL.step ?_
      refine WL.sub rfl rfl rfl ⟨by omega, by omega⟩ ?_
      refine WA.say 34 (.int .i64 (path.length : Int)) (by rw [show ((path.length : Nat) : Int) = ((path ++ [((x.1 : Int) + 1)]).length : Int) - 1 by (rw [hpl]; omega)]; rfl) ?_
      refine WL.step ?_
      refine WL.fieldAddr0 F.fld63_0 rfl rfl ?_
      refine WL.step ?_
      refine WL.loadP F.one3 rfl rfl (by repeat (first | exact List.Mem.head _ | apply List.Mem.tail)) rfl ?_
      refine WL.step ?_
      refine WL.add rfl rfl rfl ⟨by omega, by omega⟩ ?_
      refine WL.step ?_
      refine WL.negI rfl rfl (by omega) ?_
      refine WL.step ?_
      refine WL.indexAddr F.sl23 rfl rfl rfl (by rw [hpl]; omega) ?_
      have setp : SetN (ints (path ++ [((x.1 : Int) + 1)])) path.length [.int .i64 (-((x.1 : Int) + 1))] (ints (path ++ [-((x.1 : Int) + 1)])) := by
        have h9 := setN_set (ints (path ++ [((x.1 : Int) + 1)])) path.length (.int .i64 (-((x.1 : Int) + 1))) (by simp [ints])
        have e9 : (ints (path ++ [((x.1 : Int) + 1)])).set path.length (.int .i64 (-((x.1 : Int) + 1))) = ints (path ++ [-((x.1 : Int) + 1)]) := by (simp [ints])
        rwa [e9] at h9
      refine WL.step ?_
      refine WL.storeRow1 (xs := ints (path ++ [((x.1 : Int) + 1)])) (xs' := ints (path ++ [-((x.1 : Int) + 1)])) F.one3 rfl rfl rfl (by repeat (first | exact Upd.here | apply Upd.there)) (by rw [Nat.zero_add, Nat.mul_one]; exact setp) ?_
      refine WL.nil ?_
      refine WQ.then_normal ?_
      refine WC.seq ?_
      refine WC.region ?_
      refine WL.step ?_
      refine WL.load1 F.one70 rfl rfl (v := thF bo bp bn bt) (fun w hS => hS.oldc hE.th hE.th') ?_
      refine WL.step ?_
      refine WL.fieldAddr0 F.fld63_2 rfl rfl ?_
      refine WL.step ?_
      refine WL.loadP F.one3 rfl rfl (by repeat (first | exact List.Mem.head _ | apply List.Mem.tail)) rfl ?_
      refine WA.chunksE (C' := fun F4 => [thr F4 bo bp (out ++ pathsT (trs l x.2.1) (path ++ [((x.1 : Int) + 1)])) (path ++ [-((x.1 : Int) + 1)]), pt b6 [Value.int .i64 (x.1 : Int), .int .i64 (x.2.1 : Int), .int .i64 (x.2.2 : Int)] 63]) (fun w hS => ?_) (fun F4 => ?_)
      · exact St.thrClose (bo := bo) (bp := bp) (out := (out ++ pathsT (trs l x.2.1) (path ++ [((x.1 : Int) + 1)]))) (path := (path ++ [-((x.1 : Int) + 1)])) (oa := oa3) (oc := oc3) (pa := some ⟨g3, 0, none⟩) (pc := pc3) (n := (out ++ pathsT (trs l x.2.1) (path ++ [((x.1 : Int) + 1)])).length) (m := (path ++ [((x.1 : Int) + 1)]).length) (vs := vs3) (Fs := Fs3) (xs := ints (path ++ [-((x.1 : Int) + 1)])) rfl (by simp) rfl (((St.pick (St.pick (St.pick (St.pick (St.pick (St.pick hS (c := pt b6 [Value.int .i64 (x.1 : Int), .int .i64 (x.2.1 : Int), .int .i64 (x.2.2 : Int)] 63) (by repeat (first | exact Rem.here | apply Rem.there))) (c := rowc (.slice (some ⟨g3, 0, none⟩) (path ++ [((x.1 : Int) + 1)]).length pc3) (path ++ [((x.1 : Int) + 1)]).length 3 1 (ints (path ++ [-((x.1 : Int) + 1)]))) (by repeat (first | exact Rem.here | apply Rem.there))) (c := pt bp [.slice (some ⟨g3, 0, none⟩) (path ++ [((x.1 : Int) + 1)]).length pc3] 23) (by repeat (first | exact Rem.here | apply Rem.there))) (c := stepsC Fs3 vs3 (out ++ pathsT (trs l x.2.1) (path ++ [((x.1 : Int) + 1)]))) (by repeat (first | exact Rem.here | apply Rem.there))) (c := rowc (.slice oa3 (out ++ pathsT (trs l x.2.1) (path ++ [((x.1 : Int) + 1)])).length oc3) (out ++ pathsT (trs l x.2.1) (path ++ [((x.1 : Int) + 1)])).length 23 1 vs3) (by repeat (first | exact Rem.here | apply Rem.there))) (c := pt bo [.slice oa3 (out ++ pathsT (trs l x.2.1) (path ++ [((x.1 : Int) + 1)])).length oc3] 33) (by repeat (first | exact Rem.here | apply Rem.there)))).sublist (List.Sublist.cons_cons _ (List.Sublist.cons_cons _ (List.Sublist.cons_cons _ (List.Sublist.cons_cons _ (List.Sublist.cons_cons _ (List.Sublist.cons_cons _ (List.nil_sublist _))))))))
      refine WL.step ?_
      refine WL.callFC (β := List Nat) (us := []) (cap := [pp bo, pp bp, pp bn, pp bt]) (res := fun y => .tuple #[]) (cs := fun y => [thr y bo bp ((out ++ pathsT (trs l x.2.1) (path ++ [((x.1 : Int) + 1)])) ++ pathsT (trs l x.2.2) (path ++ [-((x.1 : Int) + 1)])) (path ++ [-((x.1 : Int) + 1)])]) (Cs := [thr F4 bo bp (out ++ pathsT (trs l x.2.1) (path ++ [((x.1 : Int) + 1)])) (path ++ [-((x.1 : Int) + 1)])]) (C1 := [pt b6 [Value.int .i64 (x.1 : Int), .int .i64 (x.2.1 : Int), .int .i64 (x.2.2 : Int)] 63]) (O' := F4) F.fun35 (fun d h => by cases h; rfl) rfl rfl (List.Perm.refl _) bun_O1 bun_O2 (fun w hS hS2 => hrec x.2.2 (by omega) F4 (out ++ pathsT (trs l x.2.1) (path ++ [((x.1 : Int) + 1)])) (path ++ [-((x.1 : Int) + 1)]) w (x.1 + 1) (by omega) hok.2.2.2.2 (by simp; omega) (by omega) (by (try simp only [List.length_append, pathsT_len]); omega) (hE.next hS) hS2) (fun F5 => ?_)
      refine WL.nil ?_
      refine WQ.then_normal ?_
      refine WC.region ?_
      refine WA.openB (fun y6 _ _ _ => ?_)
      obtain ⟨oa6, oc6, vs6, Fs6, pa6, pc6⟩ := y6
      simp only [thCs, List.cons_append, List.nil_append]
      have hpl2 : (path ++ [-((x.1 : Int) + 1)]).length = path.length + 1 := by simp
      refine WL.step ?_
      refine WL.loadP F.one23 rfl rfl (by repeat (first | exact List.Mem.head _ | apply List.Mem.tail)) rfl ?_
      refine WL.step ?_
      refine WL.loadP F.one23 rfl rfl (by repeat (first | exact List.Mem.head _ | apply List.Mem.tail)) rfl ?_
      refine WL.step ?_
      refine WL.lenSl F.und23 rfl rfl ?_
      refine WL.step ?_
      refine WL.sub rfl rfl rfl ⟨by omega, by omega⟩ ?_
      refine WA.say 47 (.int .i64 (path.length : Int)) (by rw [show ((path.length : Nat) : Int) = ((path ++ [-((x.1 : Int) + 1)]).length : Int) - 1 by (rw [hpl2]; omega)]; rfl) ?_
      refine WA.know (φ := path.length ≤ pc6) (fun w hS => (by obtain ⟨_, _, _, hle⟩ := rowc_addr (hS.ok (rowc (.slice pa6 (path ++ [-((x.1 : Int) + 1)]).length pc6) (path ++ [-((x.1 : Int) + 1)]).length 3 1 (ints (path ++ [-((x.1 : Int) + 1)]))) (by repeat (first | exact List.Mem.head _ | apply List.Mem.tail))) (by rw [hpl2]; omega); omega)) (fun hpc => ?_)
      refine WL.step ?_
      refine WL.y (F := fun _ => True) (Yl.sliceSlTo (n := path.length) F.sl23 rfl rfl hpc) rfl (fun _ _ => trivial) ?_
      refine WL.step ?_
      refine WL.store1 F.one23 rfl rfl rfl (by repeat (first | exact Upd.here | apply Upd.there)) (by repeat constructor) ?_
      refine WL.nil ?_
      refine WQ.fin (rs := []) rfl .nil (fun w hS => ?_)
      have hS8 := St.rowTake ((St.pick hS (c := rowc (.slice pa6 (path ++ [-((x.1 : Int) + 1)]).length pc6) (path ++ [-((x.1 : Int) + 1)]).length 3 1 (ints (path ++ [-((x.1 : Int) + 1)]))) (by repeat (first | exact Rem.here | apply Rem.there)))) (by rw [hpl2]; omega) (k := path.length) (by rw [hpl2]; omega)
      have e9 : (ints (path ++ [-((x.1 : Int) + 1)])).take path.length = ints path := by (simp [ints])
      rw [e9] at hS8
      obtain ⟨F9, hF9⟩ := St.thrClose (bo := bo) (bp := bp) (out := ((out ++ pathsT (trs l x.2.1) (path ++ [((x.1 : Int) + 1)])) ++ pathsT (trs l x.2.2) (path ++ [-((x.1 : Int) + 1)]))) (path := path) (oa := oa6) (oc := oc6) (pa := pa6) (pc := pc6) (n := ((out ++ pathsT (trs l x.2.1) (path ++ [((x.1 : Int) + 1)])) ++ pathsT (trs l x.2.2) (path ++ [-((x.1 : Int) + 1)])).length) (m := path.length) (vs := vs6) (Fs := Fs6) (xs := ints path) rfl rfl rfl (((St.pick (St.pick (St.pick (St.pick (St.pick hS8 (c := rowc (.slice pa6 path.length pc6) path.length 3 1 (ints path)) (by repeat (first | exact Rem.here | apply Rem.there))) (c := pt bp [.slice pa6 path.length pc6] 23) (by repeat (first | exact Rem.here | apply Rem.there))) (c := stepsC Fs6 vs6 ((out ++ pathsT (trs l x.2.1) (path ++ [((x.1 : Int) + 1)])) ++ pathsT (trs l x.2.2) (path ++ [-((x.1 : Int) + 1)]))) (by repeat (first | exact Rem.here | apply Rem.there))) (c := rowc (.slice oa6 ((out ++ pathsT (trs l x.2.1) (path ++ [((x.1 : Int) + 1)])) ++ pathsT (trs l x.2.2) (path ++ [-((x.1 : Int) + 1)])).length oc6) ((out ++ pathsT (trs l x.2.1) (path ++ [((x.1 : Int) + 1)])) ++ pathsT (trs l x.2.2) (path ++ [-((x.1 : Int) + 1)])).length 23 1 vs6) (by repeat (first | exact Rem.here | apply Rem.there))) (c := pt bo [.slice oa6 ((out ++ pathsT (trs l x.2.1) (path ++ [((x.1 : Int) + 1)])) ++ pathsT (trs l x.2.2) (path ++ [-((x.1 : Int) + 1)])).length oc6] 33) (by repeat (first | exact Rem.here | apply Rem.there)))).sublist (List.Sublist.cons_cons _ (List.Sublist.cons_cons _ (List.Sublist.cons_cons _ (List.Sublist.cons_cons _ (List.Sublist.cons_cons _ (List.nil_sublist _)))))))
      refine ⟨F9, rfl, ?_⟩
      rw [htr]
      have e8 : out ++ pathsT (.nd x.1 (trs l x.2.1) (trs l x.2.2)) path = ((out ++ pathsT (trs l x.2.1) (path ++ [((x.1 : Int) + 1)])) ++ pathsT (trs l x.2.2) (path ++ [-((x.1 : Int) + 1)])) := by (simp [pathsT])
      rw [e8]
      exact hF9

end Go.Proofs.Ytkgllhkhdjodeaa

namespace Go.Proofs.Ytkgllhkhdjodeaa
open Go Go.Eng Go.Proofs Dg
theorem CloneD_c (l : List Dec) (a : Option Addr) (cap : Nat) (hlen : l.length ≤ 16777216) (w : World) (hr : RdDec w l a) :
    Calls Try.prog 57 [.slice a l.length cap].toArray w fun e w' => ∃ x : Option Addr × Nat, e = .returned (.slice x.1 l.length x.2) ∧ St w [] [rowc (.slice x.1 l.length x.2) l.length 63 3 (decs l)] w' := by
  refine enter Try.func57 rfl Try.ntmps57 rfl (St.init _) ?_
  refine WC.seq ?_
  refine WC.region ?_
  refine WL.step ?_
  refine WL.assign rfl rfl ?_
  refine WL.nil ?_
  refine WQ.then_normal ?_
  refine WC.seq ?_
  refine WC.seq ?_
  rcases a with _ | ⟨b, off, st⟩
  · skip
    have hc0 : l = [] := by
      cases l with
      | nil => rfl
      | cons y ys =>
        obtain ⟨_, _, h1, _⟩ := hr 0 (.int .i64 (y.1 : Int)) (by simp [decs])
        cases h1
    subst hc0
    refine WC.region ?_
    refine WL.step ?_
    refine WL.move rfl rfl ?_
    refine WL.step ?_
    refine WL.bin rfl rfl rfl (v := .bool true) (fun w => by kernel_rfl) ?_
    refine WL.nil ?_
    refine WQ.then_normal ?_
    refine WC.condT rfl ?_
    refine WC.seq ?_
    refine WC.region ?_
    refine WL.step ?_
    refine WL.assign rfl rfl ?_
    refine WL.nil ?_
    refine WQ.then_normal ?_
    refine WC.ret ?_
    refine WQ.then_ret ?_
    exact WQ.ret (rs := [.tmp 2]) rfl (.tmp rfl .nil) (fun w hS => ⟨(none, 0), rfl, hS.rowNil 63 3⟩)
  · skip
    refine WC.region ?_
    refine WL.step ?_
    refine WL.move rfl rfl ?_
    refine WL.step ?_
    refine WL.bin rfl rfl rfl (v := .bool false) (fun w => by kernel_rfl) ?_
    refine WL.nil ?_
    refine WQ.then_normal ?_
    refine WC.condF rfl ?_
    refine WC.skip ?_
    refine WQ.then_normal ?_
    refine WC.seq ?_
    refine WC.region ?_
    refine WL.step ?_
    refine WL.buildSlice0 F.sl25 rfl (fun b5 => ?_)
    refine WA.chunks (fun w hS => hS.rowOf (n := 0) (sz := 3) rfl (by decide)) ?_
    refine WL.step ?_
    refine WL.move rfl rfl ?_
    refine WL.step ?_
    refine WL.appendC (n := 0) (xs := []) (news := decs l) F.el25 rfl rfl rfl (by repeat (first | exact Rem.here | apply Rem.there)) (fun w hS hm => (by obtain ⟨x, hx⟩ : ∃ x, l[0]? = some x := ⟨_, List.getElem?_eq_getElem (by omega)⟩; obtain ⟨bx, ox, e1, _⟩ := hr.at hx; exact ⟨bx, ox, e1, fun j u hu => by (obtain ⟨b2, o2, e3, e4⟩ := hr j u hu; rw [e1] at e3; injection e3 with e3; injection e3 with e5 e6; subst e5; subst e6; exact hS.oldc e4 (by simp))⟩)) (decs_len l) (decs_one l) (Nat.le_trans (m := 16777216) (by omega) (by decide)) (by omega) (fun a2 c2 => ?_)
    refine WL.step ?_
    refine WL.assign rfl rfl ?_
    refine WL.nil ?_
    refine WQ.then_normal ?_
    refine WC.ret ?_
    refine WQ.ret (rs := [.tmp 2]) rfl (.tmp rfl .nil) (fun w hS => ⟨(a2, c2), ?_, ?_⟩)
    · simp [tup]
    · simpa using hS

theorem Nodes_c (t : BT) (a : Option Addr) (c : Nat) (w : World) (ht : RdD w t a) :
    Calls Try.prog 34 [dval t a c].toArray w fun e w' => ∃ x : Option Addr × Nat, e = .returned (.tuple #[.slice x.1 (canon t).1.length x.2, .int .i64 ((canon t).2 : Int)]) ∧ St w [] [rowc (.slice x.1 (canon t).1.length x.2) (canon t).1.length 63 3 (decs (canon t).1)] w' := by
  refine enter Try.func34 rfl Try.ntmps34 rfl (St.init _) ?_
  refine WC.seq ?_
  refine WC.region ?_
  refine WL.step ?_
  refine WL.boxN rfl rfl (fun b1 => ?_)
  refine WL.step ?_
  refine WL.assign rfl rfl ?_
  refine WL.step ?_
  refine WL.assign rfl rfl ?_
  refine WL.nil ?_
  refine WQ.then_normal ?_
  refine WC.seq ?_
  refine WC.drawsL (by kernel_rfl) (FactsOk.cons (ds := [2]) (LoadOk.one (t := 1) (off := 0) rfl (by repeat (first | exact List.Mem.head _ | apply List.Mem.tail)) rfl) (FactsOk.cons (ds := []) (LoadOk.one (t := 1) (off := 1) rfl (by repeat (first | exact List.Mem.head _ | apply List.Mem.tail)) rfl) (FactsOk.nil))) ?_
  refine WD.take (i := 0) rfl rfl rfl rfl (by kernel_rfl) (by kernel_rfl) (by kernel_rfl) (fun _ _ _ h => h) (by kernel_rfl) need_none (Yl.fieldAddr0 F.fld27_0 rfl) ?_
  refine WD.take (i := 1) rfl rfl rfl rfl (by kernel_rfl) (by kernel_rfl) (by kernel_rfl) (fun _ _ _ h => h) (by kernel_rfl) (need_at 0 7 rfl (by kernel_rfl)) (Yl.load1 F.one25 rfl) ?_
  refine WD.take (i := 3) rfl rfl rfl rfl (by kernel_rfl) (by kernel_rfl) (by kernel_rfl) (fun _ _ _ h => h) (by kernel_rfl) need_none (Yl.fieldAddr0 F.fld27_1 rfl) ?_
  refine WD.take (i := 4) rfl rfl rfl rfl (by kernel_rfl) (by kernel_rfl) (by kernel_rfl) (fun _ _ _ h => h) (by kernel_rfl) (need_at 1 7 rfl (by kernel_rfl)) (Yl.load1 F.one3 rfl) ?_
  refine WD.one (i := 2) (by kernel_rfl) rfl ?_
  refine WL.callC (β := Option Addr × Nat) (res := fun y => .slice y.1 (canon t).1.length y.2) (cs := fun y => [rowc (.slice y.1 (canon t).1.length y.2) (canon t).1.length 63 3 (decs (canon t).1)]) (Cs := []) (O' := []) F.fun57 (fun d h => by cases h; rfl) rfl (List.Perm.refl _) (by simp) (by simp) (fun w hS _ => CloneD_c (canon t).1 a c (Nat.le_of_lt (canon_len ht.1)) w (ht.2.next0 hS)) (fun x6 => ?_)
  refine WD.on (closed_of (by kernel_rfl)) (fun w hS => Sx.gone rfl (Sx.keep (hS.cell (by repeat (first | exact List.Mem.head _ | apply List.Mem.tail)) rfl) (Sx.none))) ?_
  refine WD.take (i := 5) rfl rfl rfl rfl (by kernel_rfl) (by kernel_rfl) (by kernel_rfl) (fun _ _ _ h => h) (by kernel_rfl) need_none (Yl.assign rfl) ?_
  refine WD.take (i := 6) rfl rfl rfl rfl (by kernel_rfl) (by kernel_rfl) (by kernel_rfl) (fun _ _ _ h => h) (by kernel_rfl) need_none (Yl.assign rfl) ?_
  refine WD.done (by kernel_rfl) ?_
  refine WQ.then_normal ?_
  refine WC.ret ?_
  exact WQ.ret (rs := [.tmp 2, .tmp 3]) rfl (.tmp rfl (.tmp rfl .nil)) (fun w hS => ⟨x6, rfl, ((St.pick hS (c := rowc (.slice x6.1 (canon t).1.length x6.2) (canon t).1.length 63 3 (decs (canon t).1)) (by repeat (first | exact Rem.here | apply Rem.there)))).sublist (List.Sublist.cons_cons _ (List.nil_sublist _))⟩)

theorem pathsum_c (v z1 z2 : Int) (h1 : 0 ≤ z1 ∧ z1 ≤ 4097) (h2 : 0 ≤ z2 ∧ z2 ≤ 4097) (w : World) : Pure Try.prog 33 [.int .i64 v, .int .i64 z1, .int .i64 z2] w (.int .i64 (if z1 + z2 > 4097 then 4097 else z1 + z2)) := by
  refine enter Try.func33 rfl Try.ntmps33 rfl (St.init _) ?_
  refine WC.seq ?_
  refine WC.region ?_
  refine WL.step ?_
  refine WL.assign rfl rfl ?_
  refine WL.nil ?_
  refine WQ.then_normal ?_
  refine WC.seq ?_
  refine WC.region ?_
  refine WL.step ?_
  refine WL.move rfl rfl ?_
  refine WL.step ?_
  refine WL.move rfl rfl ?_
  refine WL.step ?_
  refine WL.add rfl rfl rfl ⟨by omega, by omega⟩ ?_
  refine WL.step ?_
  refine WL.minI (r := if z1 + z2 > 4097 then 4097 else z1 + z2) rfl rfl rfl (by (repeat split) <;> omega) ?_
  refine WL.step ?_
  refine WL.assign rfl rfl ?_
  refine WL.nil ?_
  refine WQ.then_normal ?_
  refine WC.ret ?_
  exact WQ.ret (rs := [.tmp 6]) rfl (.tmp rfl .nil) (fun w hS => ⟨rfl, hS⟩)

theorem path_join (la : List Dec) (hla : Mk la) (out : List Int) (s : Unit) (x : Dec) (z1 z2 : Int) (w : World) (hx : la[out.length - 2]? = some x) (hI : FP la out ∧ 2 ≤ out.length) (h1 : out[x.2.1]? = some z1) (h2 : out[x.2.2]? = some z2) (hS : St w [] [rowc (.slice none 0 0) 0 3 1 []] w) :
    Calls Try.prog 33 ([] ++ [Value.int .i64 (x.1 : Int), .int .i64 z1, .int .i64 z2] ++ []).toArray w fun e w' => ∃ y : { y : Unit × Int // FP la (out ++ [y.2]) ∧ 2 ≤ (out ++ [y.2]).length }, e = .returned (.int .i64 y.1.2) ∧ St w [] [rowc (.slice none 0 0) 0 3 1 []] w' := by
  have e1 := hI.1.at' _ _ h1
  have e2 := hI.1.at' _ _ h2
  refine (pathsum_c x.1 z1 z2 (by omega) (by omega) w).mono ?_
  rintro e w' ⟨he, hS'⟩
  exact ⟨⟨((), _), hI.1.step hla hI.2 hx h1 h2 rfl, by have := hI.2; simp; omega⟩, he, hS'.rowNil _ _⟩

theorem tenv_of {w0 w : World} {O : List Nat} {C : List Chunk} {F0 : List Nat} {b5 b7 b8 b9 : Nat} {t : BT} {x4 : Option Addr × Nat} (hS : St w0 O ([thr F0 b7 b8 [] []] ++ (pt b9 [thF b7 b8 b5 b9] 70 :: pt b5 [.slice x4.1 (canon t).1.length x4.2] 25 :: rowc (.slice x4.1 (canon t).1.length x4.2) (canon t).1.length 63 3 (decs (canon t).1) :: C)) w) : TEnv w F0 b7 b8 b5 b9 (canon t).1 x4.1 x4.2 := by
  have hd := hS.disj
  simp only [List.cons_append, List.nil_append, List.pairwise_cons, List.mem_cons, forall_eq_or_imp] at hd
  obtain ⟨⟨d1, d2, d3, _⟩, _⟩ := hd
  have hap : ∀ {b : Nat} {cs : List Value} {e : TypeId}, (∀ k, (thr F0 b7 b8 [] []).fp k → ¬ (pt b cs e).fp k) → b ∉ F0 := fun h hb => h _ hb rfl
  refine ⟨hS.cell (List.mem_cons_of_mem _ (List.mem_cons_of_mem _ (List.mem_cons_self ..))) rfl, hap d2, hS.cell (List.mem_cons_of_mem _ (List.mem_cons_self ..)) rfl, hap d1, fun j u hu => ?_⟩
  have hok := hS.ok (rowc (.slice x4.1 (canon t).1.length x4.2) (canon t).1.length 63 3 (decs (canon t).1)) (List.mem_cons_of_mem _ (List.mem_cons_of_mem _ (List.mem_cons_of_mem _ (List.mem_cons_self ..))))
  obtain ⟨b, off, e1, e2⟩ := RdDec.of_row (l := (canon t).1) (a := x4.1) (cap := x4.2) rfl hok j u hu
  refine ⟨b, off, e1, e2, fun hb => d3 b hb ?_⟩
  show (Value.slice x4.1 (canon t).1.length x4.2).ownBlock = some b
  rw [e1]
  have hpos : 0 < (canon t).1.length := by
    have h1 := (List.getElem?_eq_some_iff.1 hu).1
    rw [decs_len] at h1; omega
  rfl

theorem Clauses_in (t : BT) (a : Option Addr) (c : Nat) (w : World) (ht : RdD w t a) (hp : pathsN t ≤ 4096) :
    Calls Try.prog 12 [dval t a c].toArray w fun e w' => ∃ y : TG, e = .returned (.tuple #[.slice y.oa (pathsT t []).length y.oc, .int .i64 0]) ∧ St w [] [rowc (.slice y.oa (pathsT t []).length y.oc) (pathsT t []).length 23 1 y.vs, stepsC y.Fs y.vs (pathsT t [])] w' := by
  have hmk := canon_mk ht.1
  have hcl := canon_len ht.1
  refine enter Try.func12 rfl Try.ntmps12 rfl (St.init _) ?_
  refine WC.seq ?_
  refine WC.region ?_
  refine WL.step ?_
  refine WL.boxN rfl rfl (fun b1 => ?_)
  refine WL.step ?_
  refine WL.assign rfl rfl ?_
  refine WL.step ?_
  refine WL.assign rfl rfl ?_
  refine WL.nil ?_
  refine WQ.then_normal ?_
  refine WC.seq ?_
  refine WC.region ?_
  refine WL.step ?_
  refine WL.loadW F.agg27 rfl rfl (by repeat (first | exact List.Mem.head _ | apply List.Mem.tail)) rfl ?_
  refine WA.chunks (fun w hS => (hS.rowNil 3 1)) ?_
  refine WL.step ?_
  refine WL.callC (β := { y : List Int × Unit × Int // (FP (canon t).1 y.1 ∧ 2 ≤ y.1.length) ∧ y.1.length = (canon t).1.length + 2 ∧ y.1[(canon t).2]? = some y.2.2 }) (res := fun y => .int .i64 y.1.2.2) (cs := fun y => [rowc (.slice none 0 0) 0 3 1 []]) (Cs := [rowc (.slice none 0 0) 0 3 1 []]) (C1 := [pt b1 [.slice a (canon t).1.length c, .int .i64 ((canon t).2 : Int)] 27]) (O' := []) F.fun32 (fun d h => by cases h; rfl) rfl (List.Perm.refl _) (fun c hc k hk => (by rw [List.mem_singleton.1 hc] at hk; cases hk)) (by simp) (fun w hS hS2 => Fold_c (σ := Unit) (fun _ => rowc (.slice none 0 0) 0 3 1 []) (fun _ => []) (fun _ => FpIs.rowc) 33 F.fun33 [] [] (canon t).1 a c (canon t).2 1 0 (fun out _ => FP (canon t).1 out ∧ 2 ≤ out.length) (Nat.le_of_lt hcl) (fun k x hx => ⟨(hmk.kid k x hx).2.1, (hmk.kid k x hx).2.2.1⟩) (canon_at t).1 () ⟨FP.nil _, by simp⟩ (path_join (canon t).1 hmk) w (fun j u hu => (by obtain ⟨b, off, e1, e2⟩ := ht.2 j u hu; exact ⟨b, off, e1, hS.oldc e2 (by simp), by simp⟩)) hS2) (fun ⟨⟨out, _, z⟩, hI, hol, hz⟩ => ?_)
  have hzp := hI.1.at' _ _ hz
  rw [(canon_at t).2] at hzp
  dsimp only at hzp
  refine WL.step ?_
  refine WL.assign rfl rfl ?_
  refine WL.nil ?_
  refine WQ.then_normal ?_
  refine WC.seq ?_
  refine WC.seq ?_
  refine WC.region ?_
  refine WL.step ?_
  refine WL.move rfl rfl ?_
  refine WL.step ?_
  refine WL.gtI rfl rfl rfl ?_
  refine WL.nil ?_
  refine WQ.then_normal ?_
  refine WC.cond rfl (fun h13 => ?_) (fun h13 => ?_)
  · skip
    exfalso; simp at h13; omega
  · skip
    refine WC.skip ?_
    refine WQ.then_normal ?_
    refine WC.seq ?_
    refine WC.region ?_
    refine WL.step ?_
    refine WL.loadW F.agg27 rfl rfl (by repeat (first | exact List.Mem.head _ | apply List.Mem.tail)) rfl ?_
    refine WL.step ?_
    refine WL.callC (β := Option Addr × Nat) (res := fun y => .tuple #[.slice y.1 (canon t).1.length y.2, .int .i64 ((canon t).2 : Int)]) (cs := fun y => [rowc (.slice y.1 (canon t).1.length y.2) (canon t).1.length 63 3 (decs (canon t).1)]) (Cs := []) (O' := []) F.fun34 (fun d h => by cases h; rfl) rfl (List.Perm.refl _) (by simp) (by simp) (fun w hS _ => Nodes_c t a c w (ht.next0 hS)) (fun x4 => ?_)
    refine WL.step ?_
    refine WL.move rfl rfl ?_
    refine WL.step ?_
    refine WL.extract rfl rfl rfl ?_
    refine WL.step ?_
    refine WL.extract rfl rfl rfl ?_
    refine WL.step ?_
    refine WL.alloc F.zero25 rfl (fun b5 => ?_)
    refine WL.step ?_
    refine WL.store1 F.one25 rfl rfl rfl (by repeat (first | exact Upd.here | apply Upd.there)) (by repeat constructor) ?_
    refine WL.step ?_
    refine WL.assign rfl rfl ?_
    refine WL.nil ?_
    refine WQ.then_normal ?_
    refine WC.seq ?_
    refine WC.region ?_
    refine WL.step ?_
    refine WL.alloc F.zero33 rfl (fun b7 => ?_)
    refine WL.nil ?_
    refine WQ.then_normal ?_
    refine WC.seq ?_
    refine WC.region ?_
    refine WL.step ?_
    refine WL.alloc F.zero23 rfl (fun b8 => ?_)
    refine WL.nil ?_
    refine WQ.then_normal ?_
    refine WC.seq ?_
    refine WC.region ?_
    refine WL.step ?_
    refine WL.alloc F.zero70 rfl (fun b9 => ?_)
    refine WL.nil ?_
    refine WQ.then_normal ?_
    refine WC.seq ?_
    refine WC.region ?_
    refine WL.step ?_
    refine WL.makeFunc rfl rfl rfl ?_
    refine WL.step ?_
    refine WL.store1 F.one70 rfl rfl rfl (by repeat (first | exact Upd.here | apply Upd.there)) (by repeat constructor) ?_
    refine WL.nil ?_
    refine WQ.then_normal ?_
    refine WC.seq ?_
    refine WC.region ?_
    refine WA.chunksE (C' := fun F0 => [thr F0 b7 b8 [] [], pt b9 [thF b7 b8 b5 b9] 70, pt b5 [.slice x4.1 (canon t).1.length x4.2] 25, rowc (.slice x4.1 (canon t).1.length x4.2) (canon t).1.length 63 3 (decs (canon t).1)]) (fun w hS => ?_) (fun F0 => ?_)
    · exact St.thrClose (bo := b7) (bp := b8) (out := []) (path := []) (oa := none) (oc := 0) (pa := none) (pc := 0) (n := 0) (m := 0) (vs := []) (Fs := []) (xs := []) rfl rfl rfl (((St.pick (St.pick (St.pick (St.pick (St.pick (St.pick (St.pick (St.pick (((hS.rowNil 23 1).rowNil 3 1).stepsNil) (c := rowc (.slice x4.1 (canon t).1.length x4.2) (canon t).1.length 63 3 (decs (canon t).1)) (by repeat (first | exact Rem.here | apply Rem.there))) (c := pt b5 [.slice x4.1 (canon t).1.length x4.2] 25) (by repeat (first | exact Rem.here | apply Rem.there))) (c := pt b9 [thF b7 b8 b5 b9] 70) (by repeat (first | exact Rem.here | apply Rem.there))) (c := rowc (.slice none 0 0) 0 3 1 []) (by repeat (first | exact Rem.here | apply Rem.there))) (c := pt b8 [.slice none 0 0] 23) (by repeat (first | exact Rem.here | apply Rem.there))) (c := stepsC [] [] []) (by repeat (first | exact Rem.here | apply Rem.there))) (c := rowc (.slice none 0 0) 0 23 1 []) (by repeat (first | exact Rem.here | apply Rem.there))) (c := pt b7 [.slice none 0 0] 33) (by repeat (first | exact Rem.here | apply Rem.there)))).sublist (List.Sublist.cons_cons _ (List.Sublist.cons_cons _ (List.Sublist.cons_cons _ (List.Sublist.cons_cons _ (List.Sublist.cons_cons _ (List.Sublist.cons_cons _ (List.Sublist.cons_cons _ (List.Sublist.cons_cons _ (List.nil_sublist _))))))))))
    refine WL.step ?_
    refine WL.loadP F.one70 rfl rfl (by repeat (first | exact List.Mem.head _ | apply List.Mem.tail)) rfl ?_
    refine WL.step ?_
    refine WL.move rfl rfl ?_
    refine WL.step ?_
    refine WL.callFC (β := List Nat) (us := []) (cap := [pp b7, pp b8, pp b5, pp b9]) (res := fun y => .tuple #[]) (cs := fun y => [thr y b7 b8 ([] ++ pathsT (trs (canon t).1 (canon t).2) []) []]) (Cs := [thr F0 b7 b8 [] []]) (C1 := [pt b9 [thF b7 b8 b5 b9] 70, pt b5 [.slice x4.1 (canon t).1.length x4.2] 25, rowc (.slice x4.1 (canon t).1.length x4.2) (canon t).1.length 63 3 (decs (canon t).1)]) (O' := F0) F.fun35 (fun d h => by cases h; rfl) rfl rfl (List.Perm.refl _) bun_O1 bun_O2 (fun w hS hS2 => through_c b7 b8 b5 b9 (canon t).1 x4.1 x4.2 hmk (Nat.le_of_lt hcl) ((canon t).2 + 1) (canon t).2 (Nat.lt_succ_self _) F0 [] [] w 0 (canon_at t).1 (by rw [(canon_at t).2]; exact ht.1) (Nat.le_refl _) (by decide) (by rw [(canon_at t).2]; simpa using hp) (tenv_of hS) hS2) (fun F9 => ?_)
    refine WL.nil ?_
    refine WQ.then_normal ?_
    refine WC.seq ?_
    refine WC.region ?_
    rw [(canon_at t).2, List.nil_append]
    refine WA.openB (fun y6 _ _ _ => ?_)
    obtain ⟨oa6, oc6, vs6, Fs6, pa6, pc6⟩ := y6
    simp only [thCs, List.cons_append, List.nil_append]
    refine WL.step ?_
    refine WL.loadP F.one33 rfl rfl (by repeat (first | exact List.Mem.head _ | apply List.Mem.tail)) rfl ?_
    refine WL.step ?_
    refine WL.assign rfl rfl ?_
    refine WL.step ?_
    refine WL.assign rfl rfl ?_
    refine WL.nil ?_
    refine WQ.then_normal ?_
    refine WC.ret ?_
    exact WQ.ret (rs := [.tmp 2, .tmp 3]) rfl (.tmp rfl (.tmp rfl .nil)) (fun w hS => ⟨⟨oa6, oc6, vs6, Fs6, none, 0⟩, rfl, ((St.pick (St.pick hS (c := stepsC Fs6 vs6 (pathsT t [])) (by repeat (first | exact Rem.here | apply Rem.there))) (c := rowc (.slice oa6 (pathsT t []).length oc6) (pathsT t []).length 23 1 vs6) (by repeat (first | exact Rem.here | apply Rem.there)))).sublist (List.Sublist.cons_cons _ (List.Sublist.cons_cons _ (List.nil_sublist _)))⟩)

theorem Clauses_out (t : BT) (a : Option Addr) (c : Nat) (w : World) (ht : RdD w t a) (hp : 4096 < pathsN t) :
    Pure Try.prog 12 [dval t a c] w (.tuple #[.slice none 0 0, .int .i64 5]) := by
  have hmk := canon_mk ht.1
  have hcl := canon_len ht.1
  refine enter Try.func12 rfl Try.ntmps12 rfl (St.init _) ?_
  refine WC.seq ?_
  refine WC.region ?_
  refine WL.step ?_
  refine WL.boxN rfl rfl (fun b1 => ?_)
  refine WL.step ?_
  refine WL.assign rfl rfl ?_
  refine WL.step ?_
  refine WL.assign rfl rfl ?_
  refine WL.nil ?_
  refine WQ.then_normal ?_
  refine WC.seq ?_
  refine WC.region ?_
  refine WL.step ?_
  refine WL.loadW F.agg27 rfl rfl (by repeat (first | exact List.Mem.head _ | apply List.Mem.tail)) rfl ?_
  refine WA.chunks (fun w hS => (hS.rowNil 3 1)) ?_
  refine WL.step ?_
  refine WL.callC (β := { y : List Int × Unit × Int // (FP (canon t).1 y.1 ∧ 2 ≤ y.1.length) ∧ y.1.length = (canon t).1.length + 2 ∧ y.1[(canon t).2]? = some y.2.2 }) (res := fun y => .int .i64 y.1.2.2) (cs := fun y => [rowc (.slice none 0 0) 0 3 1 []]) (Cs := [rowc (.slice none 0 0) 0 3 1 []]) (C1 := [pt b1 [.slice a (canon t).1.length c, .int .i64 ((canon t).2 : Int)] 27]) (O' := []) F.fun32 (fun d h => by cases h; rfl) rfl (List.Perm.refl _) (fun c hc k hk => (by rw [List.mem_singleton.1 hc] at hk; cases hk)) (by simp) (fun w hS hS2 => Fold_c (σ := Unit) (fun _ => rowc (.slice none 0 0) 0 3 1 []) (fun _ => []) (fun _ => FpIs.rowc) 33 F.fun33 [] [] (canon t).1 a c (canon t).2 1 0 (fun out _ => FP (canon t).1 out ∧ 2 ≤ out.length) (Nat.le_of_lt hcl) (fun k x hx => ⟨(hmk.kid k x hx).2.1, (hmk.kid k x hx).2.2.1⟩) (canon_at t).1 () ⟨FP.nil _, by simp⟩ (path_join (canon t).1 hmk) w (fun j u hu => (by obtain ⟨b, off, e1, e2⟩ := ht.2 j u hu; exact ⟨b, off, e1, hS.oldc e2 (by simp), by simp⟩)) hS2) (fun ⟨⟨out, _, z⟩, hI, hol, hz⟩ => ?_)
  have hzp := hI.1.at' _ _ hz
  rw [(canon_at t).2] at hzp
  dsimp only at hzp
  refine WL.step ?_
  refine WL.assign rfl rfl ?_
  refine WL.nil ?_
  refine WQ.then_normal ?_
  refine WC.seq ?_
  refine WC.seq ?_
  refine WC.region ?_
  refine WL.step ?_
  refine WL.move rfl rfl ?_
  refine WL.step ?_
  refine WL.gtI rfl rfl rfl ?_
  refine WL.nil ?_
  refine WQ.then_normal ?_
  refine WC.cond rfl (fun h13 => ?_) (fun h13 => ?_)
  · skip
    refine WC.seq ?_
    refine WC.region ?_
    refine WL.step ?_
    refine WL.assign rfl rfl ?_
    refine WL.step ?_
    refine WL.assign rfl rfl ?_
    refine WL.nil ?_
    refine WQ.then_normal ?_
    refine WC.ret ?_
    refine WQ.then_ret ?_
    exact WQ.ret (rs := [.tmp 2, .tmp 3]) rfl (.tmp rfl (.tmp rfl .nil)) (fun w hS => ⟨rfl, hS.sublist (List.nil_sublist _)⟩)
  · skip
    exfalso; simp at h13; omega

end Go.Proofs.Ytkgllhkhdjodeaa

namespace Go.Proofs.Ytkgllhkhdjodeaa
open Go Go.Eng Go.Proofs Dg
structure CubeG where
  m : Nat
  G : List Nat
  l : List Dec
  r : Nat

end Go.Proofs.Ytkgllhkhdjodeaa

namespace Fm
open Go Go.Eng
/-! ### a byte that begins no token -/
/-- What a token, or an error, may be, ahead of that byte. -/
def GoodR (X : Nat) : PR → Prop
  | .ok _ a y => a + y.length ≤ X ∧ y ≠ []
  | .bad a => a ≤ X
/-! ### a text of blanks and a 0 -/
end Fm

/-! Clauses as sets. -/
namespace Dg
def litC (cf : Cf) (x : Int) : Bool := if 0 < x then cf (x - 1).toNat else !cf (-x - 1).toNat
def clauseB (c : List Int) (cf : Cf) : Bool := c.any (litC cf)
def onStep (p : Nat × Nat) (x : Int) : Nat × Nat := if 0 < x then (p.1, p.2 ||| 2 ^ (x - 1).toNat) else (p.1 ||| 2 ^ (-x - 1).toNat, p.2)
def onOff (c : List Int) : Nat × Nat := c.foldl onStep (0, 0)
end Dg

namespace Go.Proofs.Ytkgllhkhdjodeaa
open Go Go.Eng Go.Proofs Dg
structure ConjG where
  i : Nat
  t : BT
  ad : Option Addr
  ac : Nat
end Go.Proofs.Ytkgllhkhdjodeaa

namespace Fm
open Go Go.Eng
/-! ### consequences -/
/-- What follows from clauses and literals. -/
inductive Der (ls : List (List Int)) (fixed : List Int) : Int → Prop
  | fix {x : Int} (h : x ∈ fixed) : Der ls fixed x
  | unit {c : List Int} {x : Int} (hc : c ∈ ls) (hx : x ∈ c) (h : ∀ m ∈ c, m ≠ x → Der ls fixed (-m)) : Der ls fixed x
/-- There is a conflict. -/
def Conf (ls : List (List Int)) (fixed : List Int) : Prop := [] ∈ ls ∨ ∃ x, Der ls fixed x ∧ Der ls fixed (-x)

/-! the program's sets of literals -/
theorem hasK_with {k : Kn} {l z : Int} (hl : l ≠ 0) (hz : z ≠ 0) : hasK (withK k l) z = (decide (z = l) || hasK k z) := by
  unfold hasK withK
  by_cases h1 : 0 < l
  · rw [if_pos h1]
    by_cases h2 : 0 < z
    · rw [if_pos h2, if_pos h2]
      simp only [Nat.testBit_or, Nat.testBit_two_pow]
      rw [Bool.or_comm]
      congr 1
      rw [Bool.eq_iff_iff]; simp; omega
    · rw [if_neg h2, if_neg h2]
      have : ¬ z = l := by omega
      simp [this]
  · rw [if_neg h1]
    by_cases h2 : 0 < z
    · rw [if_pos h2, if_pos h2]
      have : ¬ z = l := by omega
      simp [this]
    · rw [if_neg h2, if_neg h2]
      simp only [Nat.testBit_or, Nat.testBit_two_pow]
      rw [Bool.or_comm]
      congr 1
      rw [Bool.eq_iff_iff]; simp; omega
theorem clash_iff {k : Kn} : clash k = true ↔ ∃ z : Int, 0 < z ∧ hasK k z = true ∧ hasK k (-z) = true := by
  unfold clash
  constructor
  · intro h
    have h1 : k.1 &&& k.2 ≠ 0 := by simpa using h
    obtain ⟨j, hj⟩ := Nat.exists_testBit_of_ne_zero h1
    rw [Nat.testBit_and, Bool.and_eq_true] at hj
    refine ⟨(j : Int) + 1, by omega, ?_, ?_⟩
    · unfold hasK; rw [if_pos (by omega), show ((j : Int) + 1 - 1).toNat = j by omega]; exact hj.1
    · unfold hasK; rw [if_neg (by omega), show (-(-((j : Int) + 1)) - 1).toNat = j by omega]; exact hj.2
  · rintro ⟨z, hz, h1, h2⟩
    unfold hasK at h1 h2
    rw [if_pos hz] at h1
    rw [if_neg (by omega)] at h2
    rw [show (- -z - 1).toNat = (z - 1).toNat by omega] at h2
    have h3 : (k.1 &&& k.2).testBit (z - 1).toNat = true := by rw [Nat.testBit_and, h1, h2]; rfl
    have h4 : k.1 &&& k.2 ≠ 0 := by intro h0; rw [h0] at h3; simp at h3
    simpa using h4

/-- What unit says: a literal that is open, all the others being false; 0: all are. -/
theorem unitG_true {k : Kn} : ∀ {c : List Int} {op x : Int}, (∀ m ∈ c, m ≠ 0) → unitG k op c = (x, true) → (∀ m ∈ c, hasK k m = false ∧ (hasK k (-m) = true ∨ m = x)) ∧ (op ≠ 0 → x = op) ∧ (x ≠ 0 → x = op ∨ x ∈ c)
  | [], op, x, _, h => by
    simp only [unitG, Prod.mk.injEq, and_true] at h
    subst h
    exact ⟨fun m hm => (by cases hm), fun _ => rfl, fun _ => .inl rfl⟩
  | l :: ls, op, x, h0, h => by
    have hl := h0 l (List.mem_cons_self ..)
    have hls := fun m hm => h0 m (List.mem_cons_of_mem _ hm)
    simp only [unitG] at h
    split at h
    · simp at h
    rename_i h1
    split at h
    · rename_i h2
      obtain ⟨i1, i2, i3⟩ := unitG_true hls h
      refine ⟨fun m hm => ?_, i2, fun hx => ?_⟩
      · rcases List.mem_cons.1 hm with e | hm
        · subst e
          refine ⟨by simpa using h1, ?_⟩
          simp only [Bool.or_eq_true, beq_iff_eq] at h2
          rcases h2 with h2 | h2
          · exact .inl h2
          · exact .inr (by rw [h2, i2 (by rw [← h2]; exact hl)])
        · exact i1 m hm
      · rcases i3 hx with h3 | h3
        · exact .inl h3
        · exact .inr (List.mem_cons_of_mem _ h3)
    rename_i h2
    split at h
    · simp at h
    rename_i h3
    have h3' : op = 0 := by simpa using h3
    obtain ⟨i1, i2, i3⟩ := unitG_true hls h
    refine ⟨fun m hm => ?_, fun h0 => absurd h3' h0, fun hx => ?_⟩
    · rcases List.mem_cons.1 hm with e | hm
      · subst e
        exact ⟨by simpa using h1, .inr (i2 hl).symm⟩
      · exact i1 m hm
    · exact .inr (by rw [i2 hl]; exact List.mem_cons_self ..)
/-- Whatever the set has follows. -/
def SoundK (ls : List (List Int)) (fixed : List Int) (k : Kn) : Prop := ∀ z : Int, z ≠ 0 → hasK k z = true → Der ls fixed z
theorem SoundK.unit {ls : List (List Int)} {fixed : List Int} {k : Kn} {c : List Int} (h : SoundK ls fixed k) (hc : c ∈ ls) (hn : ∀ m ∈ c, m ≠ 0) {x : Int} (hu : unitK k c = (x, true)) : (x ≠ 0 → SoundK ls fixed (withK k x)) ∧ (x = 0 → Conf ls fixed) := by
  obtain ⟨i1, i2, i3⟩ := unitG_true hn hu
  refine ⟨fun hx z hz hh => ?_, fun hx => ?_⟩
  · rw [hasK_with hx hz] at hh
    simp only [Bool.or_eq_true, decide_eq_true_eq] at hh
    rcases hh with hh | hh
    · subst hh
      rcases i3 hx with h3 | h3
      · exact absurd h3 hx
      · exact .unit hc h3 (fun m hm hne => by
          rcases (i1 m hm).2 with h4 | h4
          · exact h _ (by have := hn m hm; omega) h4
          · exact absurd h4 hne)
    · exact h z hz hh
  · cases c with
    | nil => exact .inl hc
    | cons y r =>
      have hf : ∀ m ∈ y :: r, hasK k (-m) = true := fun m hm => by
        rcases (i1 m hm).2 with h4 | h4
        · exact h4
        · exact absurd (h4.trans hx) (hn m hm)
      have hy := List.mem_cons_self (a := y) (l := r)
      refine .inr ⟨y, .unit hc hy (fun m hm _ => h _ (by have := hn m hm; omega) (hf m hm)), h _ (by have := hn y hy; omega) (hf y hy)⟩
theorem SoundK.clash {ls : List (List Int)} {fixed : List Int} {k : Kn} (h : SoundK ls fixed k) (hc : clash k = true) : Conf ls fixed := by
  obtain ⟨z, hz, h1, h2⟩ := clash_iff.1 hc
  exact .inr ⟨z, h z (by omega) h1, h (-z) (by omega) h2⟩
end Fm

namespace Fm
open Go Go.Eng
/-! ### the reference's consequences -/
def aloneB (c out : List Int) (x : Int) : Bool := !out.contains x && c.all (fun m => m == x || out.contains (-m))
def stepL (c out : List Int) (x : Int) : List Int := if aloneB c out x then out ++ [x] else out
def passC (out c : List Int) : List Int := c.foldl (stepL c) out
def consPass (ls : List (List Int)) (out : List Int) : List Int := ls.foldl passC out
def consF : Nat → List (List Int) → List Int → Option (List Int)
  | 0, _, _ => none
  | n + 1, ls, out => if (consPass ls out).length = out.length then some (consPass ls out) else consF n ls (consPass ls out)
/-- The reference's conflict. -/
def conflictB (ls : List (List Int)) (out : List Int) : Bool := ls.any (·.isEmpty) || out.any (fun x => out.contains (-x))
/-! ### that they end -/
def Rg : List Int := (List.range 65).map fun (i : Nat) => (i : Int) - 32
def openC (p : Int → Bool) : Nat := (Rg.filter p).length
def openL (out : List Int) : Nat := openC fun z => !out.contains z
def openKn (k : Kn) : Nat := openC fun z => z != 0 && !hasK k z
end Fm

namespace Go.Proofs.Ytkgllhkhdjodeaa
open Go Go.Eng Go.Proofs
theorem name_c (s : List UInt8) (w : World) : Pure Try.prog 39 [.string (str s)] w (.agg [Value.int .u8 3, .string (str s), .slice none 0 0].toArray) := by
  refine enter Try.func39 rfl Try.ntmps39 rfl (St.init _) ?_
  refine WC.seq ?_
  refine WC.region ?_
  refine WL.step ?_
  refine WL.alloc F.zero74 rfl (fun b2 => ?_)
  refine WL.nil ?_
  refine WQ.then_normal ?_
  refine WC.seq ?_
  refine WC.region ?_
  refine WL.step ?_
  refine WL.move rfl rfl ?_
  refine WL.step ?_
  refine WL.build F.stT74 rfl (by repeat (first | exact Built.nil | apply Built.one rfl rfl (by repeat constructor) | apply Built.agg rfl rfl (by repeat constructor))) rfl ?_
  refine WL.step ?_
  refine WL.storeN F.agg74 rfl rfl rfl (by simp [Value.oneCell']) (by repeat (first | exact Upd.here | apply Upd.there)) (by repeat constructor) ?_
  refine WL.nil ?_
  refine WQ.then_normal ?_
  refine WC.ret ?_
  refine WQ.ret (rs := [.cell 2 74]) rfl (.cellN F.agg74 rfl (by repeat (first | exact List.Mem.head _ | apply List.Mem.tail)) rfl .nil) (fun w hS => ⟨rfl, hS.drop⟩)

def T1 : Tree := .mk 5 [] [.mk 3 [97] [], .mk 3 [98] [], .mk 5 [] [.mk 3 [99] [], .mk 3 [100] []]]
def T2 : Tree := .mk 5 [] [.mk 6 [] [.mk 3 [97] [], .mk 3 [98] []], .mk 4 [] [.mk 3 [99] []]]
theorem top1 : Fm.top [97, 32, 38, 32, 98, 32, 38, 32, 40, 99, 32, 38, 32, 100, 41] = (T1, 0, 0) := by kernel_rfl
theorem top2 : Fm.top [97, 32, 60, 61, 62, 32, 98, 32, 60, 61, 62, 32, 99] = (Fm.zeroTree, 8, 4) := by kernel_rfl
theorem print1 : printS T2 = [40, 97, 32, 124, 32, 98, 41, 32, 38, 32, 33, 99] := by kernel_rfl
theorem valid1 : Fm.validB T2 = true := by kernel_rfl
theorem sol1 : Fm.solveF 2 20 false [[1, 2], [-1]] [] [] = some ⟨true, 2, []⟩ := by kernel_rfl
theorem sol2 : Fm.solveF 1 20 false [[1], [-1]] [] [] = some ⟨false, 0, [[]]⟩ := by kernel_rfl
theorem may1 : Fm.mayE 2 [[1, 2], [-1]] = 0 := by kernel_rfl
theorem may2 : Fm.mayE 1 [[1], [-1]] = 0 := by kernel_rfl
/-- Two clauses that the caller laid. -/
theorem RdLL.two {w0 w : World} {O : List Nat} {C : List Chunk} {b1 b2 b3 : Nat} {c1 c2 : List Int} (hS : St w0 O C w) (h1 : pt b1 (c1.map (Value.int .i64)) 3 ∈ C) (h2 : pt b2 (c2.map (Value.int .i64)) 3 ∈ C)
    (h3 : pt b3 [.slice (some ⟨b1, 0, none⟩) c1.length c1.length, .slice (some ⟨b2, 0, none⟩) c2.length c2.length] 23 ∈ C) :
    RdLL w [c1, c2] (some ⟨b3, 0, none⟩) [.slice (some ⟨b1, 0, none⟩) c1.length c1.length, .slice (some ⟨b2, 0, none⟩) c2.length c2.length] := by
  refine ⟨rfl, fun i u hu => ⟨b3, 0, rfl, by rw [Nat.zero_add]; exact hS.cell h3 hu⟩, fun i c u hc hu => ?_⟩
  match i, hc, hu with
  | 0, hc, hu =>
    simp at hc hu
    subst hc; subst hu
    exact ⟨_, _, rfl, fun j x hx => ⟨b1, 0, rfl, by rw [Nat.zero_add]; exact hS.cell h1 (by simp [hx])⟩⟩
  | 1, hc, hu =>
    simp at hc hu
    subst hc; subst hu
    exact ⟨_, _, rfl, fun j x hx => ⟨b2, 0, rfl, by rw [Nat.zero_add]; exact hS.cell h2 (by simp [hx])⟩⟩
  | i + 2, hc, hu => simp at hc

theorem wakes_c (w : World) : Pure Try.prog 13 [] w (.bool true) := by
  refine enter Try.func13 rfl Try.ntmps13 rfl (St.init _) ?_
  refine WC.seq ?_
  refine WC.region ?_
  refine WL.step ?_
  refine WL.assign rfl rfl ?_
  refine WL.nil ?_
  refine WQ.then_normal ?_
  refine WC.seq ?_
  refine WC.region ?_
  refine WL.step ?_
  refine WL.callC (β := List Nat × Option Addr × Nat) (res := fun y => .tuple #[tv T1 y.2.1 y.2.2, .int .i64 0, .int .i64 0]) (cs := fun y => [own y.1 T1 (tv T1 y.2.1 y.2.2)]) (Cs := []) (O' := []) F.fun37 (fun d h => by cases h; rfl) rfl (List.Perm.refl _) (by simp) (by simp) (fun w hS _ => (Parse_c [97, 32, 38, 32, 98, 32, 38, 32, 40, 99, 32, 38, 32, 100, 41] w).mono (fun e w2 h => ?_)) (fun y14 => ?_)
  · rw [top1] at h
    exact h
  refine WL.step ?_
  refine WL.move rfl rfl ?_
  refine WL.step ?_
  refine WL.extract rfl rfl rfl ?_
  refine WL.step ?_
  refine WL.extract rfl rfl rfl ?_
  refine WL.step ?_
  refine WL.extract rfl rfl rfl ?_
  refine WL.step ?_
  refine WL.alloc F.zero74 rfl (fun b1 => ?_)
  refine WL.step ?_
  refine WL.storeN F.agg74 rfl rfl rfl (by simp [Value.oneCell']) (by repeat (first | exact Upd.here | apply Upd.there)) (by repeat constructor) ?_
  refine WL.step ?_
  refine WL.assign rfl rfl ?_
  refine WL.step ?_
  refine WL.assign rfl rfl ?_
  refine WL.nil ?_
  refine WQ.then_normal ?_
  refine WC.seq ?_
  refine WC.region ?_
  refine WL.step ?_
  refine WL.callV F.fun39 rfl rfl (fun w _ => name_c [97] w) ?_
  refine WL.step ?_
  refine WL.callV F.fun39 rfl rfl (fun w _ => name_c [98] w) ?_
  refine WL.step ?_
  refine WL.buildSlice F.sl72 F.ez72 rfl rfl rfl rfl (by repeat (first | exact Built.nil | apply Built.one rfl rfl (by repeat constructor) | apply Built.agg rfl rfl (by repeat constructor))) rfl (fun b21 => ?_)
  refine WL.step ?_
  refine WL.build F.stT74 rfl (by repeat (first | exact Built.nil | apply Built.one rfl rfl (by repeat constructor) | apply Built.agg rfl rfl (by repeat constructor))) rfl ?_
  refine WL.step ?_
  refine WL.callV F.fun39 rfl rfl (fun w _ => name_c [99] w) ?_
  refine WL.step ?_
  refine WL.buildSlice F.sl72 F.ez72 rfl rfl rfl rfl (by repeat (first | exact Built.nil | apply Built.one rfl rfl (by repeat constructor) | apply Built.agg rfl rfl (by repeat constructor))) rfl (fun b24 => ?_)
  refine WL.step ?_
  refine WL.build F.stT74 rfl (by repeat (first | exact Built.nil | apply Built.one rfl rfl (by repeat constructor) | apply Built.agg rfl rfl (by repeat constructor))) rfl ?_
  refine WL.step ?_
  refine WL.buildSlice F.sl72 F.ez72 rfl rfl rfl rfl (by repeat (first | exact Built.nil | apply Built.one rfl rfl (by repeat constructor) | apply Built.agg rfl rfl (by repeat constructor))) rfl (fun b26 => ?_)
  refine WL.step ?_
  refine WL.build F.stT74 rfl (by repeat (first | exact Built.nil | apply Built.one rfl rfl (by repeat constructor) | apply Built.agg rfl rfl (by repeat constructor))) rfl ?_
  refine WA.chunksE (C' := fun x : List Nat => [own x T2 (.agg #[.int .u8 5, .string (str []), .slice (some ⟨b26, 0, none⟩) 2 2]), pt b1 [.int .u8 T1.op, .string (str T1.name), .slice y14.2.1 T1.kids.length y14.2.2] 74]) (fun w hS => ?_) (fun G => ?_)
  · have a1 := St.node0 3 [98] (St.node0 3 [97] hS)
    have a2 := St.pick a1 (c := own [] (Tree.mk 3 [97] []) (.agg #[.int .u8 3, .string (str [97]), .slice none 0 0])) (by repeat (first | exact Rem.here | apply Rem.there))
    obtain ⟨F1, a3⟩ := St.node2 6 (t1 := Tree.mk 3 [97] []) (t2 := Tree.mk 3 [98] []) (a1 := none) (a2 := none) (c1 := 0) (c2 := 0) (St.pick a2 (c := pt b21 [.int .u8 3, .string (str [97]), .slice none 0 0, .int .u8 3, .string (str [98]), .slice none 0 0] 74) (by repeat (first | exact Rem.here | apply Rem.there)))
    have a4 := St.node0 3 [99] a3
    obtain ⟨F2, a5⟩ := St.node1 4 (t1 := Tree.mk 3 [99] []) (a1 := none) (c1 := 0) (St.pick a4 (c := pt b24 [.int .u8 3, .string (str [99]), .slice none 0 0] 74) (by repeat (first | exact Rem.here | apply Rem.there)))
    have a6 := St.pick a5 (c := own F1 (.mk 6 [] [Tree.mk 3 [97] [], Tree.mk 3 [98] []]) (.agg #[.int .u8 6, .string (str []), .slice (some ⟨b21, 0, none⟩) 2 2])) (by repeat (first | exact Rem.here | apply Rem.there))
    obtain ⟨F3, a7⟩ := St.node2 5 (t1 := .mk 6 [] [Tree.mk 3 [97] [], Tree.mk 3 [98] []]) (t2 := .mk 4 [] [Tree.mk 3 [99] []]) (a1 := some ⟨b21, 0, none⟩) (a2 := some ⟨b24, 0, none⟩) (c1 := 2) (c2 := 1) (St.pick a6 (c := pt b26 [.int .u8 6, .string (str []), .slice (some ⟨b21, 0, none⟩) 2 2, .int .u8 4, .string (str []), .slice (some ⟨b24, 0, none⟩) 1 1] 74) (by repeat (first | exact Rem.here | apply Rem.there)))
    exact ⟨F3, ((St.pick (St.pick a7 (c := pt b1 [.int .u8 T1.op, .string (str T1.name), .slice y14.2.1 T1.kids.length y14.2.2] 74) (by repeat (first | exact Rem.here | apply Rem.there))) (c := own F3 T2 (.agg #[.int .u8 5, .string (str []), .slice (some ⟨b26, 0, none⟩) 2 2])) (by repeat (first | exact Rem.here | apply Rem.there)))).two2⟩
  refine WL.step ?_
  refine WL.callV (v := .tuple #[.string (str [40, 97, 32, 124, 32, 98, 41, 32, 38, 32, 33, 99]), .int .i64 0]) F.fun38 rfl rfl (fun w hS => by have h9 := Print_c T2 G (some ⟨b26, 0, none⟩) 2 w (hS.ok _ (List.Mem.head _)).2; rw [print1, valid1] at h9; exact h9) ?_
  refine WL.step ?_
  refine WL.move rfl rfl ?_
  refine WL.step ?_
  refine WL.extract rfl rfl rfl ?_
  refine WL.step ?_
  refine WL.extract rfl rfl rfl ?_
  refine WL.step ?_
  refine WL.assign rfl rfl ?_
  refine WL.step ?_
  refine WL.assign rfl rfl ?_
  refine WL.nil ?_
  refine WQ.then_normal ?_
  refine WC.seq ?_
  refine WC.region ?_
  refine WL.step ?_
  refine WL.callC (β := List Nat × Option Addr × Nat) (res := fun y => .tuple #[tv Fm.zeroTree y.2.1 y.2.2, .int .i64 8, .int .i64 4]) (cs := fun y => [own y.1 Fm.zeroTree (tv Fm.zeroTree y.2.1 y.2.2)]) (Cs := []) (O' := []) F.fun37 (fun d h => by cases h; rfl) rfl (List.Perm.refl _) (by simp) (by simp) (fun w hS _ => (Parse_c [97, 32, 60, 61, 62, 32, 98, 32, 60, 61, 62, 32, 99] w).mono (fun e w2 h => ?_)) (fun y32 => ?_)
  · rw [top2] at h
    exact h
  refine WL.step ?_
  refine WL.move rfl rfl ?_
  refine WL.step ?_
  refine WL.extract rfl rfl rfl ?_
  refine WL.step ?_
  refine WL.extract rfl rfl rfl ?_
  refine WL.step ?_
  refine WL.extract rfl rfl rfl ?_
  refine WL.step ?_
  refine WL.alloc F.zero74 rfl (fun b6 => ?_)
  refine WL.step ?_
  refine WL.storeN F.agg74 rfl rfl rfl (by simp [Value.oneCell']) (by repeat (first | exact Upd.here | apply Upd.there)) (by repeat constructor) ?_
  refine WL.step ?_
  refine WL.assign rfl rfl ?_
  refine WL.step ?_
  refine WL.assign rfl rfl ?_
  refine WL.nil ?_
  refine WQ.then_normal ?_
  refine WC.seq ?_
  refine WC.region ?_
  refine WL.step ?_
  refine WL.buildSlice F.sl23 F.ez23 rfl rfl rfl rfl (by repeat (first | exact Built.nil | apply Built.one rfl rfl (by repeat constructor) | apply Built.agg rfl rfl (by repeat constructor))) rfl (fun b37 => ?_)
  refine WL.step ?_
  refine WL.buildSlice F.sl23 F.ez23 rfl rfl rfl rfl (by repeat (first | exact Built.nil | apply Built.one rfl rfl (by repeat constructor) | apply Built.agg rfl rfl (by repeat constructor))) rfl (fun b38 => ?_)
  refine WL.step ?_
  refine WL.buildSlice F.sl33 F.ez33 rfl rfl rfl rfl (by repeat (first | exact Built.nil | apply Built.one rfl rfl (by repeat constructor) | apply Built.agg rfl rfl (by repeat constructor))) rfl (fun b39 => ?_)
  refine WL.step ?_
  refine WL.callC (β := Option Addr × Nat) (res := fun x => .tuple #[.agg #[.bool true, .int .u32 2, .slice x.1 0 x.2], .int .i64 0]) (cs := fun _ => []) (Cs := []) (O' := []) F.fun16 (fun d h => by cases h; rfl) rfl (List.Perm.refl _) (by simp) (by simp) (fun w hS _ => (Solve_c 2 [[1, 2], [-1]] (some ⟨b39, 0, none⟩) 2 _ (.inr ⟨_, _, rfl⟩) w (RdLL.two (b1 := b37) (b2 := b38) (b3 := b39) (c1 := [1, 2]) (c2 := [-1]) hS (by repeat (first | exact List.Mem.head _ | apply List.Mem.tail)) (by repeat (first | exact List.Mem.head _ | apply List.Mem.tail)) (by repeat (first | exact List.Mem.head _ | apply List.Mem.tail))) 20 ⟨true, 2, []⟩ (by decide) (fun n hn _ => ?_)).mono (fun e w2 h => ?_)) (fun x40 => ?_)
  · have : n = 2 := by omega
    subst this
    exact sol1
  · rcases h with h | h
    · exact absurd may1 h.1
    · obtain ⟨_, x, F, vs, h1, h2⟩ := h
      exact ⟨x, h1, h2.sublist (List.nil_sublist _)⟩
  refine WL.step ?_
  refine WL.move rfl rfl ?_
  refine WL.step ?_
  refine WL.extract rfl rfl rfl ?_
  refine WL.step ?_
  refine WL.extract rfl rfl rfl ?_
  refine WL.step ?_
  refine WL.alloc F.zero41 rfl (fun b9 => ?_)
  refine WL.step ?_
  refine WL.storeN F.agg41 rfl rfl rfl (by simp [Value.oneCell']) (by repeat (first | exact Upd.here | apply Upd.there)) (by repeat constructor) ?_
  refine WL.step ?_
  refine WL.assign rfl rfl ?_
  refine WL.nil ?_
  refine WQ.then_normal ?_
  refine WC.seq ?_
  refine WC.region ?_
  refine WL.step ?_
  refine WL.buildSlice F.sl23 F.ez23 rfl rfl rfl rfl (by repeat (first | exact Built.nil | apply Built.one rfl rfl (by repeat constructor) | apply Built.agg rfl rfl (by repeat constructor))) rfl (fun b44 => ?_)
  refine WL.step ?_
  refine WL.buildSlice F.sl23 F.ez23 rfl rfl rfl rfl (by repeat (first | exact Built.nil | apply Built.one rfl rfl (by repeat constructor) | apply Built.agg rfl rfl (by repeat constructor))) rfl (fun b45 => ?_)
  refine WL.step ?_
  refine WL.buildSlice F.sl33 F.ez33 rfl rfl rfl rfl (by repeat (first | exact Built.nil | apply Built.one rfl rfl (by repeat constructor) | apply Built.agg rfl rfl (by repeat constructor))) rfl (fun b46 => ?_)
  refine WL.step ?_
  refine WL.callC (β := Option Addr × Nat) (res := fun x => .tuple #[.agg #[.bool false, .int .u32 0, .slice x.1 1 x.2], .int .i64 0]) (cs := fun _ => []) (Cs := []) (O' := []) F.fun16 (fun d h => by cases h; rfl) rfl (List.Perm.refl _) (by simp) (by simp) (fun w hS _ => (Solve_c 1 [[1], [-1]] (some ⟨b46, 0, none⟩) 2 _ (.inr ⟨_, _, rfl⟩) w (RdLL.two (b1 := b44) (b2 := b45) (b3 := b46) (c1 := [1]) (c2 := [-1]) hS (by repeat (first | exact List.Mem.head _ | apply List.Mem.tail)) (by repeat (first | exact List.Mem.head _ | apply List.Mem.tail)) (by repeat (first | exact List.Mem.head _ | apply List.Mem.tail))) 20 ⟨false, 0, [[]]⟩ (by decide) (fun n hn _ => ?_)).mono (fun e w2 h => ?_)) (fun x47 => ?_)
  · have : n = 1 := by omega
    subst this
    exact sol2
  · rcases h with h | h
    · exact absurd may2 h.1
    · obtain ⟨_, x, F, vs, h1, h2⟩ := h
      exact ⟨x, h1, h2.sublist (List.nil_sublist _)⟩
  refine WL.step ?_
  refine WL.move rfl rfl ?_
  refine WL.step ?_
  refine WL.extract rfl rfl rfl ?_
  refine WL.step ?_
  refine WL.extract rfl rfl rfl ?_
  refine WL.step ?_
  refine WL.alloc F.zero41 rfl (fun b11 => ?_)
  refine WL.step ?_
  refine WL.storeN F.agg41 rfl rfl rfl (by simp [Value.oneCell']) (by repeat (first | exact Upd.here | apply Upd.there)) (by repeat constructor) ?_
  refine WL.step ?_
  refine WL.assign rfl rfl ?_
  refine WL.nil ?_
  refine WQ.then_normal ?_
  refine WC.seq ?_
  refine WC.region ?_
  refine WL.step ?_
  refine WL.move rfl rfl ?_
  refine WL.step ?_
  refine WL.eqI rfl rfl rfl ?_
  refine WL.step ?_
  refine WL.move rfl rfl ?_
  refine WA.splitB (i := 52) rfl (fun g52 => ?_) (fun g52 => ?_)
  · skip
    refine WL.step (WL.guardT rfl rfl rfl ?_)
    refine WL.move rfl rfl ?_
    refine WL.step (WL.guardT rfl rfl rfl ?_)
    refine WL.eqI rfl rfl rfl ?_
    refine WL.step ?_
    refine WL.pickT rfl rfl rfl ?_
    refine WL.step ?_
    refine WL.move rfl rfl ?_
    refine WA.splitB (i := 56) rfl (fun g56 => ?_) (fun g56 => ?_)
    · skip
      refine WL.step (WL.guardT rfl rfl rfl ?_)
      refine WL.fieldAddr0 F.fld74_0 rfl rfl ?_
      refine WL.step (WL.guardT rfl rfl rfl ?_)
      refine WL.loadP F.one5 rfl rfl (by repeat (first | exact List.Mem.head _ | apply List.Mem.tail)) rfl ?_
      refine WL.step (WL.guardT rfl rfl rfl ?_)
      refine WL.eqI rfl rfl rfl ?_
      refine WL.step ?_
      refine WL.pickT rfl rfl rfl ?_
      refine WL.step ?_
      refine WL.move rfl rfl ?_
      refine WA.splitB (i := 61) rfl (fun g61 => ?_) (fun g61 => ?_)
      · skip
        refine WL.step (WL.guardT rfl rfl rfl ?_)
        refine WL.fieldAddr0 F.fld74_2 rfl rfl ?_
        refine WL.step (WL.guardT rfl rfl rfl ?_)
        refine WL.loadP F.one72 rfl rfl (by repeat (first | exact List.Mem.head _ | apply List.Mem.tail)) rfl ?_
        refine WL.step (WL.guardT rfl rfl rfl ?_)
        refine WL.lenSl F.und72 rfl rfl ?_
        refine WL.step (WL.guardT rfl rfl rfl ?_)
        refine WL.eqI rfl rfl rfl ?_
        refine WL.step ?_
        refine WL.pickT rfl rfl rfl ?_
        refine WL.step ?_
        refine WL.move rfl rfl ?_
        refine WA.splitB (i := 67) rfl (fun g67 => ?_) (fun g67 => ?_)
        · skip
          refine WL.step (WL.guardT rfl rfl rfl ?_)
          refine WL.move rfl rfl ?_
          refine WL.step (WL.guardT rfl rfl rfl ?_)
          refine WL.eqI rfl rfl rfl ?_
          refine WL.step ?_
          refine WL.pickT rfl rfl rfl ?_
          refine WL.step ?_
          refine WL.move rfl rfl ?_
          refine WA.splitB (i := 71) rfl (fun g71 => ?_) (fun g71 => ?_)
          · skip
            refine WL.step (WL.guardT rfl rfl rfl ?_)
            refine WL.move rfl rfl ?_
            refine WL.step (WL.guardT rfl rfl rfl ?_)
            refine WL.eqS rfl rfl rfl ?_
            refine WL.step ?_
            refine WL.pickT rfl rfl rfl ?_
            refine WL.step ?_
            refine WL.move rfl rfl ?_
            refine WA.splitB (i := 75) rfl (fun g75 => ?_) (fun g75 => ?_)
            · skip
              refine WL.step (WL.guardT rfl rfl rfl ?_)
              refine WL.move rfl rfl ?_
              refine WL.step (WL.guardT rfl rfl rfl ?_)
              refine WL.eqI rfl rfl rfl ?_
              refine WL.step ?_
              refine WL.pickT rfl rfl rfl ?_
              refine WL.step ?_
              refine WL.move rfl rfl ?_
              refine WA.splitB (i := 79) rfl (fun g79 => ?_) (fun g79 => ?_)
              · skip
                refine WL.step (WL.guardT rfl rfl rfl ?_)
                refine WL.move rfl rfl ?_
                refine WL.step (WL.guardT rfl rfl rfl ?_)
                refine WL.eqI rfl rfl rfl ?_
                refine WL.step ?_
                refine WL.pickT rfl rfl rfl ?_
                refine WL.step ?_
                refine WL.move rfl rfl ?_
                refine WA.splitB (i := 83) rfl (fun g83 => ?_) (fun g83 => ?_)
                · skip
                  refine WL.step (WL.guardT rfl rfl rfl ?_)
                  refine WL.move rfl rfl ?_
                  refine WL.step (WL.guardT rfl rfl rfl ?_)
                  refine WL.eqI rfl rfl rfl ?_
                  refine WL.step ?_
                  refine WL.pickT rfl rfl rfl ?_
                  refine WL.step ?_
                  refine WL.move rfl rfl ?_
                  refine WA.splitB (i := 87) rfl (fun g87 => ?_) (fun g87 => ?_)
                  · skip
                    refine WL.step (WL.guardT rfl rfl rfl ?_)
                    refine WL.fieldAddr0 F.fld41_0 rfl rfl ?_
                    refine WL.step (WL.guardT rfl rfl rfl ?_)
                    refine WL.loadP F.one4 rfl rfl (by repeat (first | exact List.Mem.head _ | apply List.Mem.tail)) rfl ?_
                    refine WL.step ?_
                    refine WL.pickT rfl rfl rfl ?_
                    refine WL.step ?_
                    refine WL.move rfl rfl ?_
                    refine WA.splitB (i := 91) rfl (fun g91 => ?_) (fun g91 => ?_)
                    · skip
                      refine WL.step (WL.guardT rfl rfl rfl ?_)
                      refine WL.fieldAddr0 F.fld41_1 rfl rfl ?_
                      refine WL.step (WL.guardT rfl rfl rfl ?_)
                      refine WL.loadP F.one22 rfl rfl (by repeat (first | exact List.Mem.head _ | apply List.Mem.tail)) rfl ?_
                      refine WL.step (WL.guardT rfl rfl rfl ?_)
                      refine WL.eqI rfl rfl rfl ?_
                      refine WL.step ?_
                      refine WL.pickT rfl rfl rfl ?_
                      refine WL.step ?_
                      refine WL.move rfl rfl ?_
                      refine WA.splitB (i := 96) rfl (fun g96 => ?_) (fun g96 => ?_)
                      · skip
                        refine WL.step (WL.guardT rfl rfl rfl ?_)
                        refine WL.move rfl rfl ?_
                        refine WL.step (WL.guardT rfl rfl rfl ?_)
                        refine WL.eqI rfl rfl rfl ?_
                        refine WL.step ?_
                        refine WL.pickT rfl rfl rfl ?_
                        refine WL.step ?_
                        refine WL.move rfl rfl ?_
                        refine WA.splitB (i := 100) rfl (fun g100 => ?_) (fun g100 => ?_)
                        · skip
                          refine WL.step (WL.guardT rfl rfl rfl ?_)
                          refine WL.fieldAddr0 F.fld41_0 rfl rfl ?_
                          refine WL.step (WL.guardT rfl rfl rfl ?_)
                          refine WL.loadP F.one4 rfl rfl (by repeat (first | exact List.Mem.head _ | apply List.Mem.tail)) rfl ?_
                          refine WL.step (WL.guardT rfl rfl rfl ?_)
                          refine WL.not rfl rfl ?_
                          refine WL.step ?_
                          refine WL.pickT rfl rfl rfl ?_
                          refine WL.step ?_
                          refine WL.move rfl rfl ?_
                          refine WA.splitB (i := 105) rfl (fun g105 => ?_) (fun g105 => ?_)
                          · skip
                            refine WL.step (WL.guardT rfl rfl rfl ?_)
                            refine WL.fieldAddr0 F.fld41_2 rfl rfl ?_
                            refine WL.step (WL.guardT rfl rfl rfl ?_)
                            refine WL.loadP F.one33 rfl rfl (by repeat (first | exact List.Mem.head _ | apply List.Mem.tail)) rfl ?_
                            refine WL.step (WL.guardT rfl rfl rfl ?_)
                            refine WL.lenSl F.und33 rfl rfl ?_
                            refine WL.step (WL.guardT rfl rfl rfl ?_)
                            refine WL.gtI rfl rfl rfl ?_
                            refine WL.step ?_
                            refine WL.pickT rfl rfl rfl ?_
                            refine WL.step ?_
                            refine WL.assign rfl rfl ?_
                            refine WL.nil ?_
                            refine WQ.then_normal ?_
                            refine WC.ret ?_
                            exact WQ.ret (rs := [.tmp 0]) rfl (.tmp rfl .nil) (fun w hS => ⟨rfl, hS.sublist (List.nil_sublist _)⟩)
                          · skip
                            exact absurd g105 (by decide)
                        · skip
                          exact absurd g100 (by decide)
                      · skip
                        exact absurd g96 (by decide)
                    · skip
                      exact absurd g91 (by decide)
                  · skip
                    exact absurd g87 (by decide)
                · skip
                  exact absurd g83 (by decide)
              · skip
                exact absurd g79 (by decide)
            · skip
              exact absurd g75 (by decide)
          · skip
            exact absurd g71 (by decide)
        · skip
          exact absurd g67 (by decide)
      · skip
        exact absurd g61 (by decide)
    · skip
      exact absurd g56 (by decide)
  · skip
    exact absurd g52 (by decide)

end Go.Proofs.Ytkgllhkhdjodeaa

namespace Go.Proofs.Ytkgllhkhdjodeaa
open Go Go.Eng Go.Proofs
end Go.Proofs.Ytkgllhkhdjodeaa

namespace Go.Proofs.Ytkgllhkhdjodeaa
open Go Go.Eng Go.Proofs
structure C1 where
  f : Nat
  out : List Int
  ad : Option Addr
  ac : Nat
structure C2 where
  i : Nat
  out : List Int
  ad : Option Addr
  ac : Nat
structure C3 where
  k : Nat
  out : List Int
  ad : Option Addr
  ac : Nat

end Go.Proofs.Ytkgllhkhdjodeaa

namespace Go.Proofs.Ytkgllhkhdjodeaa
open Go Go.Eng Go.Proofs
def refuted (ls : List (List Int)) (c : List Int) : Bool := match Fm.consF 66 ls (c.map (fun x => -x)) with | some o => Fm.conflictB ls o | none => false
def verF : List (List Int) → List (List Int) → Nat → Int
  | _, [], i => i
  | ls, c :: ps, i => if refuted ls c then (if c.isEmpty then -1 else verF (ls ++ [c]) ps (i + 1)) else i
def verE (n : Int) (ls ps : List (List Int)) : Int × Int := if Fm.mayE n ls = 0 then (if ps.all (Fm.fitsB n) then (verF ls ps 0, 0) else (0, 2)) else (0, Fm.mayE n ls)
end Go.Proofs.Ytkgllhkhdjodeaa

namespace Go.Proofs.Ytkgllhkhdjodeaa
open Go Go.Eng Go.Proofs
structure V2 where
  i : Nat
  N : Nat
  hs : List Value
  aa : Option Addr
  ca : Nat

end Go.Proofs.Ytkgllhkhdjodeaa

/-
  The search: it ends, its model is the least, and its proof is one.
-/
namespace Go.Proofs.Ytkgllhkhdjodeaa
open Go Go.Eng Go.Proofs

def satL (M : Nat) (x : Int) : Bool := if 0 < x then M.testBit (x - 1).toNat else !M.testBit (-x - 1).toNat
def satC (M : Nat) (c : List Int) : Bool := c.any (satL M)
def holdsB (ls : List (List Int)) (M : Nat) : Bool := ls.all (satC M)
/-! ### the search -/
structure SI (n : Nat) (ls : List (List Int)) (path : List Int) (proof : List (List Int)) : Prop where
  lit : ∀ x ∈ path, x ≠ 0 ∧ x.natAbs ≤ n
  dec : path.Pairwise (fun x y => y.natAbs < x.natAbs)
  hi : ∀ i x, path[i]? = some x → ∀ v : Nat, x.natAbs < v → v ≤ n → Fm.Der (ls ++ proof) (path.take i) (v : Int) ∨ Fm.Der (ls ++ proof) (path.take i) (-(v : Int))
  pos : ∀ i x, path[i]? = some x → 0 < x → ((path.take i).map (fun y => -y) ++ [x]) ∈ ls ++ proof
  ver : ∀ i c, proof[i]? = some c → refuted (ls ++ proof.take i) c = true ∧ c ≠ []
  fit : ∀ c ∈ proof, (∀ x ∈ c, x ≠ 0 ∧ x.natAbs ≤ n) ∧ c.length ≤ 64
  mdl : ∀ M, holdsB ls M = true → holdsB (ls ++ proof) M = true
theorem SI.all {n : Nat} {ls proof : List (List Int)} {path : List Int} (h : SI n ls path proof) (hls : ∀ c ∈ ls, ∀ x ∈ c, x ≠ 0 ∧ x.natAbs ≤ n) : ∀ c ∈ ls ++ proof, ∀ x ∈ c, x ≠ 0 ∧ x.natAbs ≤ n := fun c hc => by
  rcases List.mem_append.1 hc with hc | hc
  · exact hls c hc
  · exact (h.fit c hc).1
def tS (v : Nat) : Nat := 4 * 2 ^ v - 3
def rS (x : Int) : Nat := if x < 0 then tS (x.natAbs - 1) + 2 else 1
def remS (n : Nat) (path : List Int) : Nat := match path.getLast? with | none => n | some x => x.natAbs - 1
def muS (n : Nat) (mode : Bool) (path : List Int) : Nat := (path.map rS).sum + 1 + (if mode then 0 else tS (remS n path))
def GoodS (n : Nat) (ls : List (List Int)) (r : Fm.Ans) : Prop :=
  (r.ok = true ∧ r.proof = [] ∧ r.model < 2 ^ n ∧ holdsB ls r.model = true ∧ ∀ M, M < 2 ^ n → holdsB ls M = true → r.model ≤ M) ∨
  (r.ok = false ∧ r.model = 0 ∧ verF ls r.proof 0 = -1 ∧ (∀ c ∈ r.proof, (∀ x ∈ c, x ≠ 0 ∧ x.natAbs ≤ n) ∧ c.length ≤ 64) ∧ ∀ M, holdsB ls M = false)
/-- A new decision. -/
theorem SI.push {n : Nat} {ls proof : List (List Int)} {p : List Int} {y : Int} (h : SI n ls p proof) (hy : y ≠ 0 ∧ y.natAbs ≤ n) (hd : ∀ x ∈ p, y.natAbs < x.natAbs) (hh : ∀ v : Nat, y.natAbs < v → v ≤ n → Fm.Der (ls ++ proof) p (v : Int) ∨ Fm.Der (ls ++ proof) p (-(v : Int)))
    (hp : 0 < y → (p.map (fun z => -z) ++ [y]) ∈ ls ++ proof) : SI n ls (p ++ [y]) proof := by
  have hidx : ∀ i x, (p ++ [y])[i]? = some x → (p[i]? = some x ∧ (p ++ [y]).take i = p.take i) ∨ (x = y ∧ (p ++ [y]).take i = p) := fun i x hi => by
    by_cases hlt : i < p.length
    · rw [List.getElem?_append_left hlt] at hi
      exact .inl ⟨hi, by rw [List.take_append_of_le_length (by omega)]⟩
    · rw [List.getElem?_append_right (by omega)] at hi
      have hie : i = p.length := by
        have := (List.getElem?_eq_some_iff.1 hi).1
        simp at this; omega
      subst hie
      rw [Nat.sub_self] at hi
      injection hi with hi
      exact .inr ⟨hi.symm, List.take_left' rfl⟩
  refine ⟨fun x hx => ?_, ?_, fun i x hi v h1 h2 => ?_, fun i x hi h1 => ?_, h.ver, h.fit, h.mdl⟩
  · rcases List.mem_append.1 hx with hx | hx
    · exact h.lit x hx
    · rw [List.mem_singleton] at hx; rw [hx]; exact hy
  · refine List.pairwise_append.2 ⟨h.dec, List.pairwise_singleton _ _, fun x hx z hz => ?_⟩
    rw [List.mem_singleton] at hz; rw [hz]; exact hd x hx
  · rcases hidx i x hi with ⟨g1, g2⟩ | ⟨rfl, g2⟩
    · rw [g2]; exact h.hi i x g1 v h1 h2
    · rw [g2]; exact hh v h1 h2
  · rcases hidx i x hi with ⟨g1, g2⟩ | ⟨rfl, g2⟩
    · rw [g2]; exact h.pos i x g1 h1
    · rw [g2]; exact hp h1
end Go.Proofs.Ytkgllhkhdjodeaa

/-! Sets of clauses and what the search says of them. -/
namespace Go.Proofs.Ytkgllhkhdjodeaa
open Go Go.Eng Go.Proofs Dg
end Go.Proofs.Ytkgllhkhdjodeaa

namespace Go.Proofs.Ytkgllhkhdjodeaa
open Go Go.Eng Go.Proofs
def largeB (ls : List (List Int)) : Bool := decide (40 < ls.length) || ls.any (fun c => decide (80 < c.length))
structure RW where
  i : Nat
  G : List Nat
  vs : List Value
  ss : List (List Int)
  aa : Option Addr
  ca : Nat
def Shaped (a : Option Addr) : Prop := a = none ∨ ∃ b off, a = some ⟨b, off, none⟩
abbrev RowsX := { x : (List Nat × List Value) × Option Addr × Nat // Shaped x.2.1 }
def rowsC (x : RowsX) (ls : List (List Int)) : List Chunk := [rowc (.slice x.1.2.1 ls.length x.1.2.2) ls.length 23 1 x.1.1.2, stepsC x.1.1.1 x.1.1.2 ls]

end Go.Proofs.Ytkgllhkhdjodeaa

namespace Go.Proofs.Ytkgllhkhdjodeaa
open Go Go.Eng Go.Proofs
def propL (q : Int → Bool) : Nat → List Int
  | 0 => []
  | n + 1 => propL q n ++ (if q ((n : Int) + 1) then [(n : Int) + 1] else if q (-((n : Int) + 1)) then [-((n : Int) + 1)] else [])
def propE (n : Int) (ls : List (List Int)) (fixed : List Int) : List Int × Int :=
  if Fm.mayE n ls = 0 then (if fixed.all (Fm.litB n) then (match Fm.consF 66 ls fixed with
    | some o => if Fm.conflictB ls o then ([], 9) else (propL (fun z => o.contains z) n.toNat, 0)
    | none => ([], 0)) else ([], 2)) else ([], Fm.mayE n ls)
def PropPost (n : Int) (ls : List (List Int)) (fixed : List Int) (w : World) (e : Ending) (w' : World) : Prop :=
  ∃ x : Option Addr × Nat, e = .returned (.tuple #[.slice x.1 (propE n ls fixed).1.length x.2, .int .i64 (propE n ls fixed).2]) ∧
    St w [] [rowc (.slice x.1 (propE n ls fixed).1.length x.2) (propE n ls fixed).1.length 3 1 ((propE n ls fixed).1.map (Value.int .i64))] w'
theorem RdC.one {w : World} {b off : Nat} {x : Int} (h : w.cell? ⟨b, off, none⟩ = some (.int .i64 x)) : RdC w [x] (some ⟨b, off, none⟩) := fun j y hy => by
  match j, hy with
  | 0, hy => simp at hy; subst hy; exact ⟨b, off, rfl, h⟩
  | j + 1, hy => simp at hy

structure P2 where
  j : Nat
  out : List Int
  ad : Option Addr
  ac : Nat

end Go.Proofs.Ytkgllhkhdjodeaa

namespace Go.Proofs.Ytkgllhkhdjodeaa
open Go Go.Eng Go.Proofs
end Go.Proofs.Ytkgllhkhdjodeaa

namespace Go.Proofs.Ytkgllhkhdjodeaa
open Go Go.Eng Go.Proofs
end Go.Proofs.Ytkgllhkhdjodeaa

namespace Go.Proofs.Ytkgllhkhdjodeaa
open Go Go.Eng Go.Proofs
def modelsL (n : Nat) (ls : List (List Int)) : List Nat := (List.range (2 ^ n)).filter (holdsB ls)
def u32s (l : List Nat) : List Value := l.map (fun m : Nat => Value.int .u32 (m : Int))
structure MD where
  M : Nat
  out : List Nat
  ad : Option Addr
  ac : Nat

end Go.Proofs.Ytkgllhkhdjodeaa

namespace Go.Proofs.Ytkgllhkhdjodeaa
open Go Go.Eng Go.Proofs
end Go.Proofs.Ytkgllhkhdjodeaa

namespace Go.Proofs.Ytkgllhkhdjodeaa
open Go Go.Eng Go.Proofs Dg
end Go.Proofs.Ytkgllhkhdjodeaa

/-! Features of a number; the set of an odd number of them. -/
namespace Dg
def featL (f : Nat) : List Nat := (List.range 24).filter (fun i => f.testBit i)
def parB (vs : List Nat) (c : Cf) : Bool := vs.foldl (fun b i => b != c i) false
def parT : List Nat → Bool → BT
  | [], b => .lf b
  | v :: vs, b => .nd v (parT vs b) (parT vs (!b))
theorem parT_ne : ∀ (vs : List Nat) (b : Bool), parT vs b ≠ parT vs (!b)
  | [], b => by cases b <;> simp [parT]
  | v :: vs, b => by
    simp only [parT, ne_eq, BT.nd.injEq, true_and, not_and]
    intro h
    exact absurd h (parT_ne vs b)
theorem parT_ok : ∀ (vs : List Nat) (b : Bool) (m : Nat), vs.Pairwise (· < ·) → (∀ v ∈ vs, m ≤ v ∧ v < 24) → (parT vs b).ok m
  | [], b, m, _, _ => trivial
  | v :: vs, b, m, hp, h => by
    have hv := h v (List.mem_cons_self ..)
    have hp' := List.pairwise_cons.1 hp
    have h' : ∀ u ∈ vs, v + 1 ≤ u ∧ u < 24 := fun u hu => ⟨hp'.1 u hu, (h u (List.mem_cons_of_mem _ hu)).2⟩
    exact ⟨hv.1, hv.2, parT_ne vs b, parT_ok vs b _ hp'.2 h', parT_ok vs (!b) _ hp'.2 h'⟩
theorem parT_ev : ∀ (vs : List Nat) (b : Bool) (c : Cf), (parT vs b).ev c = vs.foldl (fun b i => b != c i) b
  | [], b, c => rfl
  | v :: vs, b, c => by
    simp only [parT, BT.ev, List.foldl_cons, parT_ev vs]
    cases c v <;> cases b <;> rfl
theorem parT_paths : ∀ (vs : List Nat), pathsN (parT vs false) + pathsN (parT vs true) = 2 ^ vs.length ∧ (vs ≠ [] → pathsN (parT vs false) = pathsN (parT vs true))
  | [] => ⟨rfl, fun h => absurd rfl h⟩
  | v :: vs => by
    have ih := parT_paths vs
    simp only [parT, pathsN, Bool.not_false, Bool.not_true, List.length_cons, Nat.pow_succ]
    exact ⟨by omega, fun _ => by omega⟩
theorem parT_many {vs : List Nat} (h : vs ≠ []) : pathsN (parT vs false) = 2 ^ (vs.length - 1) := by
  obtain ⟨h1, h2⟩ := parT_paths vs
  have h2 := h2 h
  have e : 2 ^ vs.length = 2 ^ (vs.length - 1) * 2 := by
    rw [← Nat.pow_succ]
    congr 1
    have : vs.length ≠ 0 := fun e => h (List.eq_nil_of_length_eq_zero e)
    omega
  omega
theorem featL_sorted (f : Nat) : (featL f).Pairwise (· < ·) := List.Pairwise.filter _ List.pairwise_lt_range
theorem featL_lt {f v : Nat} (h : v ∈ featL f) : v < 24 := by
  unfold featL at h
  rw [List.mem_filter] at h
  exact List.mem_range.1 h.1
theorem featL_len (f : Nat) : (featL f).length ≤ 24 := by
  unfold featL
  exact Nat.le_trans (List.length_filter_le _ _) (by simp)
theorem par_is {f : Nat} {t : BT} (ht : t.ok 0) (he : ∀ c, t.ev c = parB (featL f) c) : t = parT (featL f) false :=
  BT.unique ht (parT_ok _ _ 0 (featL_sorted f) (fun v hv => ⟨Nat.zero_le _, featL_lt hv⟩)) (fun c => by rw [he, parT_ev]; rfl)
theorem parB_take {vs : List Nat} {i v : Nat} (h : vs[i]? = some v) (c : Cf) : parB (vs.take (i + 1)) c = (parB (vs.take i) c != c v) := by
  unfold parB
  rw [List.take_add_one, h]
  simp
end Dg

namespace Go.Proofs.Ytkgllhkhdjodeaa
open Go Go.Eng Go.Proofs Dg
theorem run_quo2 {a : Nat} (ha : a < 4294967296) (t : TypeId) (x y : Operand) (w : World) :
    (do eqGuard .quo t x y (.int .u32 (a : Int)) (.int .u32 2); binOp .quo t (.int .u32 (a : Int)) (.int .u32 2) : Sem Value).run Try.prog w = .ok (.int .u32 ((a / 2 : Nat) : Int)) w := by
  have h1 : (a : Int).tdiv 2 = ((a / 2 : Nat) : Int) := by
    rw [Int.tdiv_eq_ediv_of_nonneg (Int.natCast_nonneg _)]; simp
  have h2 := wrap_u32 (show a / 2 < 4294967296 by omega)
  simp only [Int.natCast_ediv] at h2 h1
  simp at h2 h1
  simp [eqGuard, binOp, Op.intDiv, h1, h2]
theorem run_two {n : Nat} (hn : 2 * n < 9223372036854775808) (t : TypeId) (x y : Operand) (w : World) :
    (do eqGuard .mul t x y (.int .i64 2) (.int .i64 (n : Int)); binOp .mul t (.int .i64 2) (.int .i64 (n : Int)) : Sem Value).run Try.prog w = .ok (.int .i64 ((2 * n : Nat) : Int)) w := by
  have h2 : IntKind.i64.wrap (2 * (n : Int)) = 2 * (n : Int) := by
    unfold IntKind.wrap
    simp [IntKind.signed, IntKind.bits]
    omega
  simp [eqGuard, binOp, Op.intArith, h2]
abbrev nums (l : List Nat) : List Value := l.map (fun (i : Nat) => Value.int .i64 (i : Int))
theorem nums_at {l : List Nat} {i v : Nat} (h : l[i]? = some v) : (nums l)[i]? = some (.int .i64 (v : Int)) := by
  rw [List.getElem?_map, h]; rfl
def featN (f i : Nat) : List Nat := (List.range i).filter (fun j => f.testBit j)
theorem featN_succ (f i : Nat) : featN f (i + 1) = featN f i ++ (if f.testBit i then [i] else []) := by
  unfold featN
  rw [List.range_succ, List.filter_append]
  congr 1
  cases h : f.testBit i <;> simp [h]
theorem featN_len (f i : Nat) : (featN f i).length ≤ i := by
  unfold featN
  exact Nat.le_trans (List.length_filter_le _ _) (by simp)
structure FeatG where
  i : Nat
  a : Option Addr
  c : Nat

theorem Features_c (f : Nat) (hf : f < 4294967296) (w : World) :
    Calls Try.prog 8 [.int .u32 (f : Int)].toArray w fun e w' => ∃ x : Option Addr × Nat, e = .returned (.slice x.1 (featL f).length x.2) ∧ St w [] [rowc (.slice x.1 (featL f).length x.2) (featL f).length 3 1 (nums (featL f))] w' := by
  refine enter Try.func8 rfl Try.ntmps8 rfl (St.init _) ?_
  refine WC.seq ?_
  refine WC.region ?_
  refine WL.step ?_
  refine WL.assign rfl rfl ?_
  refine WL.nil ?_
  refine WQ.then_normal ?_
  refine WC.seq ?_
  refine WC.region ?_
  refine WL.step ?_
  refine WL.assign rfl rfl ?_
  refine WL.nil ?_
  refine WQ.then_normal ?_
  refine WC.seq ?_
  refine WC.seq ?_
  refine WC.region ?_
  refine WL.step ?_
  refine WL.assign rfl rfl ?_
  refine WL.nil ?_
  refine WQ.then_normal ?_
  refine WC.block ?_
  refine WC.chunks (C' := [rowc (.slice none 0 0) 0 3 1 []]) (fun w hS => (hS.rowNil 3 1)) ?_
  refine WC.loop (α := FeatG) (fun g => g.i ≤ 24) (fun g => [(0, .int .u32 ((f >>> g.i : Nat) : Int)), (3, .slice g.a (featN f g.i).length g.c), (4, .int .i64 (g.i : Int))]) (fun g => [rowc (.slice g.a (featN f g.i).length g.c) (featN f g.i).length 3 1 (nums (featN f g.i))]) (fun g => 24 - g.i) (⟨0, none, 0⟩) ?_ ?_ ?_ ?_
  · exact Nat.zero_le _
  · exact ⟨rfl, rfl, rfl, trivial⟩
  · rfl
  rintro ⟨i, a, c⟩ hi
  dsimp only at hi
  show WC _ _ _ _ _ _ _ [(0, .int .u32 ((f >>> i : Nat) : Int)), (3, .slice a (featN f i).length c), (4, .int .i64 (i : Int))] [rowc (.slice a (featN f i).length c) (featN f i).length 3 1 (nums (featN f i))]
  refine WC.seq ?_
  refine WC.seq ?_
  refine WC.region ?_
  refine WL.step ?_
  refine WL.move rfl rfl ?_
  refine WL.step ?_
  refine WL.ltI rfl rfl rfl ?_
  refine WL.nil ?_
  refine WQ.then_normal ?_
  refine WC.cond rfl (fun h6 => ?_) (fun h6 => ?_)
  · skip
    have hlt : i < 24 := by simp at h6; omega
    have hfl := featN_len f i
    have hs32 : f >>> i < 4294967296 := Nat.lt_of_le_of_lt (by rw [Nat.shiftRight_eq_div_pow]; exact Nat.div_le_self _ _) hf
    refine WC.skip ?_
    refine WQ.then_normal ?_
    refine WC.seq ?_
    refine WC.block ?_
    refine WC.seq ?_
    refine WC.seq ?_
    refine WC.region ?_
    refine WL.step ?_
    refine WL.move rfl rfl ?_
    refine WL.step ?_
    refine WL.bin (v := .int .u32 ((f >>> i % 2 : Nat) : Int)) rfl rfl rfl (fun w => run_rem2 _ _ _ w) ?_
    refine WL.step ?_
    refine WL.eqI rfl rfl rfl ?_
    refine WL.nil ?_
    refine WQ.then_normal ?_
    refine WC.cond rfl (fun h11 => ?_) (fun h11 => ?_)
    · skip
      have hbit : f.testBit i = true := by (have h9 : ((f >>> i % 2 : Nat) : Int) = 1 := by simpa using h11); rw [Nat.testBit_eq_decide_div_mod_eq, ← Nat.shiftRight_eq_div_pow]; exact decide_eq_true (by omega)
      have hsucc := featN_succ f i
      rw [hbit, if_pos rfl] at hsucc
      refine WC.region ?_
      refine WL.step ?_
      refine WL.move rfl rfl ?_
      refine WL.step ?_
      refine WL.move rfl rfl ?_
      refine WL.step ?_
      refine WL.buildSlice F.sl23 F.ez23 rfl rfl rfl rfl (by repeat (first | exact Built.nil | apply Built.one rfl rfl (by repeat constructor) | apply Built.agg rfl rfl (by repeat constructor))) rfl (fun b14 => ?_)
      refine WL.step ?_
      refine WL.appendE (news := [.int .i64 (i : Int)]) F.el23 rfl rfl rfl (by repeat (first | exact Rem.here | apply Rem.there)) (fun w hS jj u hu => by rw [Nat.zero_add]; exact hS.cell (cs := [.int .i64 (i : Int)]) (by repeat (first | exact List.Mem.head _ | apply List.Mem.tail)) hu) (by simp [nums]) (by simp [Value.oneCell']) (Nat.le_trans (m := 24) (by omega) (by decide)) (by omega) (fun a2 c2 => ?_)
      refine WL.step ?_
      refine WL.assign rfl rfl ?_
      refine WL.nil ?_
      refine WQ.then_normal ?_
      refine WC.region ?_
      refine WL.step ?_
      refine WL.move rfl rfl ?_
      refine WL.step ?_
      refine WL.bin (v := .int .u32 ((f >>> (i + 1) : Nat) : Int)) rfl rfl rfl (fun w => (run_quo2 hs32 _ _ _ w).trans (by rw [Nat.shiftRight_succ])) ?_
      refine WL.step ?_
      refine WL.assign rfl rfl ?_
      refine WL.nil ?_
      refine WQ.block_normal ?_
      refine WQ.then_normal ?_
      refine WC.region ?_
      refine WL.step ?_
      refine WL.move rfl rfl ?_
      refine WL.step ?_
      refine WL.add rfl rfl rfl ⟨by omega, by omega⟩ ?_
      refine WL.step ?_
      refine WL.assign rfl rfl ?_
      refine WL.nil ?_
      refine WQ.chunks (C' := [rowc (.slice a2 ((featN f i).length + 1) c2) ((featN f i).length + 1) 3 1 (nums (featN f i) ++ [.int .i64 (i : Int)])]) (fun w hS => ((St.pick hS (c := rowc (.slice a2 ((featN f i).length + 1) c2) ((featN f i).length + 1) 3 1 (nums (featN f i) ++ [.int .i64 (i : Int)])) (by repeat (first | exact Rem.here | apply Rem.there)))).sublist (List.Sublist.cons_cons _ (List.nil_sublist _))) ?_
      refine WQ.back ⟨i + 1, a2, c2⟩ (by show i + 1 ≤ 24; omega) (by show 24 - (i + 1) < 24 - i; omega) ?_ ?_
      · simp only [hsucc, List.length_append, List.length_singleton]
        exact ⟨rfl, rfl, rfl, trivial⟩
      · simp only [hsucc, List.length_append, List.length_singleton, nums, List.map_append, List.map_cons, List.map_nil]
    · skip
      have hbit : f.testBit i = false := by (have h9 : ¬ ((f >>> i % 2 : Nat) : Int) = 1 := by simpa using h11); rw [Nat.testBit_eq_decide_div_mod_eq, ← Nat.shiftRight_eq_div_pow]; exact decide_eq_false (by omega)
      have hsucc := featN_succ f i
      rw [hbit] at hsucc
      simp only [Bool.false_eq_true, if_false, List.append_nil] at hsucc
      refine WC.skip ?_
      refine WQ.then_normal ?_
      refine WC.region ?_
      refine WL.step ?_
      refine WL.move rfl rfl ?_
      refine WL.step ?_
      refine WL.bin (v := .int .u32 ((f >>> (i + 1) : Nat) : Int)) rfl rfl rfl (fun w => (run_quo2 hs32 _ _ _ w).trans (by rw [Nat.shiftRight_succ])) ?_
      refine WL.step ?_
      refine WL.assign rfl rfl ?_
      refine WL.nil ?_
      refine WQ.block_normal ?_
      refine WQ.then_normal ?_
      refine WC.region ?_
      refine WL.step ?_
      refine WL.move rfl rfl ?_
      refine WL.step ?_
      refine WL.add rfl rfl rfl ⟨by omega, by omega⟩ ?_
      refine WL.step ?_
      refine WL.assign rfl rfl ?_
      refine WL.nil ?_
      refine WQ.back ⟨i + 1, a, c⟩ (by show i + 1 ≤ 24; omega) (by show 24 - (i + 1) < 24 - i; omega) ?_ ?_
      · simp only [hsucc]
        exact ⟨rfl, rfl, rfl, trivial⟩
      · simp only [hsucc]
  · skip
    have hie : i = 24 := by simp at h6; omega
    subst hie
    refine WC.exit ?_
    refine WQ.then_exit ?_
    refine WQ.then_exit ?_
    refine WQ.block_exit ?_
    refine WQ.then_normal ?_
    refine WC.seq ?_
    refine WC.region ?_
    refine WL.step ?_
    refine WL.move rfl rfl ?_
    refine WL.step ?_
    refine WL.assign rfl rfl ?_
    refine WL.nil ?_
    refine WQ.then_normal ?_
    refine WC.ret ?_
    exact WQ.ret (rs := [.tmp 2]) rfl (.tmp rfl .nil) (fun w hS => ⟨(a, c), rfl, hS⟩)

set_option maxRecDepth 100000 in
theorem FormulaWide_c (f : Nat) (w : World) (hf : f < 4294967296) : Pure Try.prog 3 [.int .u32 (f : Int)] w (.bool true) := by
  refine enter Try.func3 rfl Try.ntmps3 rfl (St.init _) ?_
  refine WC.seq ?_
  refine WC.region ?_
  refine WL.step ?_
  refine WL.assign rfl rfl ?_
  refine WL.nil ?_
  refine WQ.then_normal ?_
  refine WC.seq ?_
  refine WC.region ?_
  refine WL.step ?_
  refine WL.move rfl rfl ?_
  refine WL.step ?_
  refine WL.callC (β := Option Addr × Nat) (res := fun y => .slice y.1 (featL f).length y.2) (cs := fun y => [rowc (.slice y.1 (featL f).length y.2) (featL f).length 3 1 (nums (featL f))]) (Cs := []) (O' := []) F.fun8 (fun d h => by cases h; rfl) rfl (List.Perm.refl _) (by simp) (by simp) (fun w hS _ => Features_c f hf w) (fun ⟨va, vc⟩ => ?_)
  refine WL.step ?_
  refine WL.assign rfl rfl ?_
  refine WL.nil ?_
  refine WQ.then_normal ?_
  refine WC.seq ?_
  refine WC.region ?_
  refine WL.step ?_
  refine WL.call0 (β := DRes (fun _ => false)) (res := fun z => .returned z.v) (cs := fun z => [z.ch]) (ψ := fun _ => True) F.fun9 (fun d h => by cases h; rfl) rfl (fun w hS => (False_c w).mono (fun e w2 ⟨x, h1, h2⟩ => ⟨x, trivial, h1, h2⟩)) (fun z14 _ => ?_)
  refine WL.step ?_
  refine WL.alloc F.zero27 rfl (fun b4 => ?_)
  refine WL.step ?_
  refine WL.storeN F.agg27 rfl rfl rfl (by simp [Value.oneCell']) (by repeat (first | exact Upd.here | apply Upd.there)) (by repeat constructor) ?_
  refine WL.nil ?_
  refine WQ.then_normal ?_
  refine WC.seq ?_
  refine WC.seq ?_
  refine WC.region ?_
  refine WL.step ?_
  refine WL.assign rfl rfl ?_
  refine WL.nil ?_
  refine WQ.then_normal ?_
  refine WC.block ?_
  refine WC.chunks (C' := [pt b4 [.slice z14.1.2.1 (canon z14.1.1).1.length z14.1.2.2, .int .i64 ((canon z14.1.1).2 : Int)] 27, z14.ch, rowc (.slice va (featL f).length vc) (featL f).length 3 1 (nums (featL f))]) (fun w hS => ((St.pick (St.pick (St.pick hS (c := rowc (.slice va (featL f).length vc) (featL f).length 3 1 (nums (featL f))) (by repeat (first | exact Rem.here | apply Rem.there))) (c := z14.ch) (by repeat (first | exact Rem.here | apply Rem.there))) (c := pt b4 [.slice z14.1.2.1 (canon z14.1.1).1.length z14.1.2.2, .int .i64 ((canon z14.1.1).2 : Int)] 27) (by repeat (first | exact Rem.here | apply Rem.there)))).sublist (List.Sublist.cons_cons _ (List.Sublist.cons_cons _ (List.Sublist.cons_cons _ (List.nil_sublist _))))) ?_
  refine WC.loop (α := ConjG) (fun g => g.i ≤ (featL f).length ∧ g.t.ok 0 ∧ ∀ cf, g.t.ev cf = parB ((featL f).take g.i) cf) (fun g => [(3, .slice va (featL f).length vc), (4, pp b4), (5, .int .i64 (g.i : Int))]) (fun g => [pt b4 [.slice g.ad (canon g.t).1.length g.ac, .int .i64 ((canon g.t).2 : Int)] 27, dC g.ad g.ac g.t, rowc (.slice va (featL f).length vc) (featL f).length 3 1 (nums (featL f))]) (fun g => (featL f).length - g.i) (⟨0, z14.1.1, z14.1.2.1, z14.1.2.2⟩) ?_ ?_ ?_ ?_
  · exact ⟨Nat.zero_le _, z14.2.1, fun cf => by rw [z14.2.2]; rfl⟩
  · exact ⟨rfl, rfl, rfl, trivial⟩
  · rfl
  rintro ⟨i, t, ad, ac⟩ ⟨hi, hok, hev⟩
  dsimp only at hi hok hev
  show WC _ _ _ _ _ _ _ [(3, .slice va (featL f).length vc), (4, pp b4), (5, .int .i64 (i : Int))] [pt b4 [.slice ad (canon t).1.length ac, .int .i64 ((canon t).2 : Int)] 27, dC ad ac t, rowc (.slice va (featL f).length vc) (featL f).length 3 1 (nums (featL f))]
  refine WC.seq ?_
  refine WC.seq ?_
  refine WC.region ?_
  refine WL.step ?_
  refine WL.move rfl rfl ?_
  refine WL.step ?_
  refine WL.move rfl rfl ?_
  refine WL.step ?_
  refine WL.lenSl F.und23 rfl rfl ?_
  refine WL.step ?_
  refine WL.ltI rfl rfl rfl ?_
  refine WL.nil ?_
  refine WQ.then_normal ?_
  refine WC.cond rfl (fun h18 => ?_) (fun h18 => ?_)
  · skip
    have hlt : i < (featL f).length := by simpa using h18
    obtain ⟨v, hv⟩ : ∃ v, (featL f)[i]? = some v := ⟨_, List.getElem?_eq_getElem hlt⟩
    have hfl := featL_len f
    have hv24 : v < 24 := featL_lt (List.mem_of_getElem? hv)
    refine WC.know (φ := ∃ g, va = some ⟨g, 0, none⟩ ∧ (featL f).length = (featL f).length ∧ (featL f).length ≤ vc) (fun w hS => rowc_addr (hS.ok (rowc (.slice va (featL f).length vc) (featL f).length 3 1 (nums (featL f))) (by repeat (first | exact List.Mem.head _ | apply List.Mem.tail))) (by omega)) (fun ⟨g3, hg3, _, _⟩ => ?_)
    subst hg3
    refine WC.skip ?_
    refine WQ.then_normal ?_
    refine WC.seq ?_
    refine WC.block ?_
    refine WC.seq ?_
    refine WC.region ?_
    refine WL.step ?_
    refine WL.move rfl rfl ?_
    refine WL.step ?_
    refine WL.move rfl rfl ?_
    refine WL.step ?_
    refine WL.indexAddr F.sl23 rfl rfl rfl hlt ?_
    refine WL.step ?_
    refine WL.load1 F.one3 rfl rfl (v := .int .i64 (v : Int)) (fun w hS => by rw [Nat.zero_add, Nat.mul_one]; exact rowc_cell (hS.ok (rowc (.slice (some ⟨g3, 0, none⟩) (featL f).length vc) (featL f).length 3 1 (nums (featL f))) (by repeat (first | exact List.Mem.head _ | apply List.Mem.tail))) (nums_at hv)) ?_
    refine WL.step ?_
    refine WL.call0 (β := DRes (fun c => c v)) (res := fun z => .returned (.tuple #[z.v, .int .i64 0])) (cs := fun z => [z.ch]) (ψ := fun _ => True) F.fun10 (fun d h => by cases h; rfl) rfl (fun w hS => (Var_in v hv24 w).mono (fun e w2 ⟨x, h1, h2⟩ => ⟨x, trivial, h1, h2⟩)) (fun z26 _ => ?_)
    refine WL.step ?_
    refine WL.move rfl rfl ?_
    refine WL.step ?_
    refine WL.extract rfl rfl rfl ?_
    refine WL.step ?_
    refine WL.extract rfl rfl rfl ?_
    refine WL.step ?_
    refine WL.alloc F.zero27 rfl (fun b6 => ?_)
    refine WL.step ?_
    refine WL.storeN F.agg27 rfl rfl rfl (by simp [Value.oneCell']) (by repeat (first | exact Upd.here | apply Upd.there)) (by repeat constructor) ?_
    refine WL.step ?_
    refine WL.assign rfl rfl ?_
    refine WL.nil ?_
    refine WQ.then_normal ?_
    refine WC.region ?_
    refine WL.step ?_
    refine WL.loadW F.agg27 rfl rfl (by repeat (first | exact List.Mem.head _ | apply List.Mem.tail)) rfl ?_
    refine WL.step ?_
    refine WL.loadW F.agg27 rfl rfl (by repeat (first | exact List.Mem.head _ | apply List.Mem.tail)) rfl ?_
    refine WL.step ?_
    refine WL.call0 (β := DRes (fun cf => t.ev cf != z26.1.1.ev cf)) (res := fun z => .returned z.v) (cs := fun z => [z.ch]) (ψ := fun _ => True) F.fun11 (fun d h => by cases h; rfl) rfl (fun w hS => (Xor_c t z26.1.1 ad z26.1.2.1 ac z26.1.2.2 w (RdD.of_row hok (hS.ok (dC ad ac t) (by repeat (first | exact List.Mem.head _ | apply List.Mem.tail)))) (z26.rd hS (by repeat (first | exact List.Mem.head _ | apply List.Mem.tail)))).mono (fun e w2 ⟨x, h1, h2⟩ => ⟨x, trivial, h1, h2⟩)) (fun z31 _ => ?_)
    refine WL.step ?_
    refine WL.storeN F.agg27 rfl rfl rfl (by simp [Value.oneCell']) (by repeat (first | exact Upd.here | apply Upd.there)) (by repeat constructor) ?_
    refine WL.nil ?_
    refine WQ.block_normal ?_
    refine WQ.then_normal ?_
    refine WC.region ?_
    refine WL.step ?_
    refine WL.move rfl rfl ?_
    refine WL.step ?_
    refine WL.add rfl rfl rfl ⟨by omega, by omega⟩ ?_
    refine WL.step ?_
    refine WL.assign rfl rfl ?_
    refine WL.nil ?_
    refine WQ.chunks (C' := [pt b4 [.slice z31.1.2.1 (canon z31.1.1).1.length z31.1.2.2, .int .i64 ((canon z31.1.1).2 : Int)] 27, z31.ch, rowc (.slice (some ⟨g3, 0, none⟩) (featL f).length vc) (featL f).length 3 1 (nums (featL f))]) (fun w hS => ((St.pick (St.pick (St.pick hS (c := rowc (.slice (some ⟨g3, 0, none⟩) (featL f).length vc) (featL f).length 3 1 (nums (featL f))) (by repeat (first | exact Rem.here | apply Rem.there))) (c := z31.ch) (by repeat (first | exact Rem.here | apply Rem.there))) (c := pt b4 [.slice z31.1.2.1 (canon z31.1.1).1.length z31.1.2.2, .int .i64 ((canon z31.1.1).2 : Int)] 27) (by repeat (first | exact Rem.here | apply Rem.there)))).sublist (List.Sublist.cons_cons _ (List.Sublist.cons_cons _ (List.Sublist.cons_cons _ (List.nil_sublist _))))) ?_
    refine WQ.back (⟨i + 1, z31.1.1, z31.1.2.1, z31.1.2.2⟩) ?_ ?_ ?_ ?_
    · exact ⟨by show i + 1 ≤ (featL f).length; omega, z31.2.1, fun cf => by (show z31.1.1.ev cf = _; rw [z31.2.2]; dsimp only; rw [hev, z26.2.2, parB_take hv])⟩
    · (show (featL f).length - (i + 1) < (featL f).length - i; omega)
    · exact ⟨rfl, rfl, rfl, trivial⟩
    · rfl
  · skip
    have hie : i = (featL f).length := by simp at h18; omega
    subst hie
    rw [List.take_length] at hev
    have htis := par_is hok hev
    refine WC.exit ?_
    refine WQ.then_exit ?_
    refine WQ.then_exit ?_
    refine WQ.block_exit ?_
    refine WQ.then_normal ?_
    refine WC.seq ?_
    by_cases hk13 : (featL f).length ≤ 13
    · skip
      refine WC.region ?_
      have hp : pathsN t ≤ 4096 := by
        rw [htis]
        by_cases h0 : (featL f) = []
        · rw [h0]; decide
        · rw [parT_many h0]; exact Nat.le_trans (Nat.pow_le_pow_right (by decide) (show (featL f).length - 1 ≤ 12 by omega)) (by decide)
      refine WL.step ?_
      refine WL.loadW F.agg27 rfl rfl (by repeat (first | exact List.Mem.head _ | apply List.Mem.tail)) rfl ?_
      refine WL.step ?_
      refine WL.callC (β := TG) (res := fun y => .tuple #[.slice y.oa (pathsT t []).length y.oc, .int .i64 0]) (cs := fun y => [rowc (.slice y.oa (pathsT t []).length y.oc) (pathsT t []).length 23 1 y.vs, stepsC y.Fs y.vs (pathsT t [])]) (Cs := []) (O' := []) F.fun12 (fun d h => by cases h; rfl) rfl (List.Perm.refl _) (by simp) (by simp) (fun w hS _ => Clauses_in t ad ac w (RdD.of_row hok (hS.ok (dC ad ac t) (by repeat (first | exact List.Mem.head _ | apply List.Mem.tail)))) hp) (fun z34 => ?_)
      refine WL.step ?_
      refine WL.move rfl rfl ?_
      refine WL.step ?_
      refine WL.extract rfl rfl rfl ?_
      refine WL.step ?_
      refine WL.extract rfl rfl rfl ?_
      refine WL.step ?_
      refine WL.assign rfl rfl ?_
      refine WL.step ?_
      refine WL.assign rfl rfl ?_
      refine WL.nil ?_
      refine WQ.then_normal ?_
      refine WC.seq ?_
      refine WC.seq ?_
      refine WC.region ?_
      refine WL.step ?_
      refine WL.move rfl rfl ?_
      refine WL.step ?_
      refine WL.lenSl F.und23 rfl rfl ?_
      refine WL.step ?_
      refine WL.gtI rfl rfl rfl ?_
      refine WL.nil ?_
      refine WQ.then_normal ?_
      refine WC.cond rfl (fun h39 => ?_) (fun h39 => ?_)
      · skip
        exfalso; simp at h39; omega
      · skip
        refine WC.skip ?_
        refine WQ.then_normal ?_
        refine WC.seq ?_
        refine WC.region ?_
        refine WL.step ?_
        refine WL.assign rfl rfl ?_
        refine WL.nil ?_
        refine WQ.then_normal ?_
        refine WC.seq ?_
        refine WC.seq ?_
        refine WC.region ?_
        refine WL.step ?_
        refine WL.assign rfl rfl ?_
        refine WL.nil ?_
        refine WQ.then_normal ?_
        refine WC.block ?_
        refine WC.chunks (C' := []) (fun w hS => hS.sublist (List.nil_sublist _)) ?_
        refine WC.loop (α := Nat × Nat) (fun g => (1 ≤ g.2 ∧ g.2 ≤ max 1 (featL f).length) ∧ g.1 = 2 ^ (g.2 - 1)) (fun g => [(3, .slice va (featL f).length vc), (8, .slice z34.oa (pathsT t []).length z34.oc), (9, .int .i64 0), (10, .int .i64 (g.1 : Int)), (11, .int .i64 (g.2 : Int))]) (fun _ => []) (fun g => (featL f).length - g.2) ((1, 1)) ?_ ?_ ?_ ?_
        · exact ⟨by omega, rfl⟩
        · exact ⟨rfl, rfl, rfl, rfl, rfl, trivial⟩
        · rfl
        rintro ⟨n, j⟩ ⟨hj, hn⟩
        dsimp only at hj hn
        show WC _ _ _ _ _ _ _ [(3, .slice va (featL f).length vc), (8, .slice z34.oa (pathsT t []).length z34.oc), (9, .int .i64 0), (10, .int .i64 (n : Int)), (11, .int .i64 (j : Int))] []
        refine WC.seq ?_
        refine WC.seq ?_
        refine WC.region ?_
        refine WL.step ?_
        refine WL.move rfl rfl ?_
        refine WL.step ?_
        refine WL.move rfl rfl ?_
        refine WL.step ?_
        refine WL.lenSl F.und23 rfl rfl ?_
        refine WL.step ?_
        refine WL.ltI rfl rfl rfl ?_
        refine WL.nil ?_
        refine WQ.then_normal ?_
        refine WC.cond rfl (fun h53 => ?_) (fun h53 => ?_)
        · skip
          have hlt : j < (featL f).length := by simpa using h53
          have hn2 : n ≤ 4096 := by (rw [hn]; exact Nat.le_trans (Nat.pow_le_pow_right (by decide) (show j - 1 ≤ 12 by omega)) (by decide))
          refine WC.skip ?_
          refine WQ.then_normal ?_
          refine WC.seq ?_
          refine WC.block ?_
          refine WC.region ?_
          refine WL.step ?_
          refine WL.move rfl rfl ?_
          refine WL.step ?_
          refine WL.bin (v := .int .i64 ((2 * n : Nat) : Int)) rfl rfl rfl (fun w => run_two (by omega) _ _ _ w) ?_
          refine WL.step ?_
          refine WL.assign rfl rfl ?_
          refine WL.nil ?_
          refine WQ.block_normal ?_
          refine WQ.then_normal ?_
          refine WC.region ?_
          refine WL.step ?_
          refine WL.move rfl rfl ?_
          refine WL.step ?_
          refine WL.add rfl rfl rfl ⟨by omega, by omega⟩ ?_
          refine WL.step ?_
          refine WL.assign rfl rfl ?_
          refine WL.nil ?_
          refine WQ.back ((2 * n, j + 1)) ?_ ?_ ?_ ?_
          · exact ⟨by (show 1 ≤ j + 1 ∧ j + 1 ≤ _); omega, by (show 2 * n = 2 ^ (j + 1 - 1)); rw [hn, show j + 1 - 1 = j - 1 + 1 by omega, Nat.pow_succ]; omega⟩
          · (show (featL f).length - (j + 1) < (featL f).length - j; omega)
          · exact ⟨rfl, rfl, rfl, rfl, rfl, trivial⟩
          · rfl
        · skip
          have hje : ¬ j < (featL f).length := by simpa using h53
          have hfin : (pathsT t []).length = n := by
            rw [pathsT_len, htis, hn]
            by_cases h0 : (featL f) = []
            · rw [h0] at hj ⊢
              have : j = 1 := by simp at hj; omega
              subst this; decide
            · rw [parT_many h0]
              have h1 : 0 < (featL f).length := List.length_pos_iff.2 h0
              rw [show j = (featL f).length by omega]
          refine WC.exit ?_
          refine WQ.then_exit ?_
          refine WQ.then_exit ?_
          refine WQ.block_exit ?_
          refine WQ.then_normal ?_
          refine WC.seq ?_
          refine WC.region ?_
          refine WL.step ?_
          refine WL.move rfl rfl ?_
          refine WL.step ?_
          refine WL.eqI rfl rfl rfl ?_
          refine WL.step ?_
          refine WL.move rfl rfl ?_
          refine WA.splitB (i := 60) rfl (fun g60 => ?_) (fun g60 => ?_)
          · skip
            refine WL.step (WL.guardT rfl rfl rfl ?_)
            refine WL.move rfl rfl ?_
            refine WL.step (WL.guardT rfl rfl rfl ?_)
            refine WL.lenSl F.und33 rfl rfl ?_
            refine WL.step (WL.guardT rfl rfl rfl ?_)
            refine WL.move rfl rfl ?_
            refine WL.step (WL.guardT rfl rfl rfl ?_)
            refine WL.eqI rfl rfl rfl ?_
            refine WL.step ?_
            refine WL.pickT rfl rfl rfl ?_
            refine WL.step ?_
            refine WL.move rfl rfl ?_
            refine WA.splitB (i := 66) rfl (fun g66 => ?_) (fun g66 => ?_)
            · skip
              refine WL.step (WL.guardT rfl rfl rfl ?_)
              refine WL.callV F.fun13 rfl rfl (fun w _ => wakes_c w) ?_
              refine WL.step ?_
              refine WL.pickT rfl rfl rfl ?_
              refine WL.step ?_
              refine WL.assign rfl rfl ?_
              refine WL.nil ?_
              refine WQ.then_normal ?_
              refine WC.ret ?_
              exact WQ.ret (rs := [.tmp 2]) rfl (.tmp rfl .nil) (fun w hS => ⟨by first | rfl | simp [tup], hS.sublist (List.nil_sublist _)⟩)
            · skip
              exfalso; rw [hfin] at g66; simp at g66
          · skip
            exfalso
            first | cases g60 | simp at g60
    · skip
      refine WC.region ?_
      have hp : 4096 < pathsN t := by
        rw [htis, parT_many (fun e => by rw [e] at hk13; exact hk13 (by decide))]
        exact Nat.lt_of_lt_of_le (m := 2 ^ 13) (by decide) (Nat.pow_le_pow_right (by decide) (by omega))
      refine WL.step ?_
      refine WL.loadW F.agg27 rfl rfl (by repeat (first | exact List.Mem.head _ | apply List.Mem.tail)) rfl ?_
      refine WL.step ?_
      refine WL.callV F.fun12 rfl rfl (fun w hS => Clauses_out t ad ac w (RdD.of_row hok (hS.ok (dC ad ac t) (by repeat (first | exact List.Mem.head _ | apply List.Mem.tail)))) hp) ?_
      refine WL.step ?_
      refine WL.move rfl rfl ?_
      refine WL.step ?_
      refine WL.extract rfl rfl rfl ?_
      refine WL.step ?_
      refine WL.extract rfl rfl rfl ?_
      refine WL.step ?_
      refine WL.assign rfl rfl ?_
      refine WL.step ?_
      refine WL.assign rfl rfl ?_
      refine WL.nil ?_
      refine WQ.then_normal ?_
      refine WC.seq ?_
      refine WC.seq ?_
      refine WC.region ?_
      refine WL.step ?_
      refine WL.move rfl rfl ?_
      refine WL.step ?_
      refine WL.lenSl F.und23 rfl rfl ?_
      refine WL.step ?_
      refine WL.gtI rfl rfl rfl ?_
      refine WL.nil ?_
      refine WQ.then_normal ?_
      refine WC.cond rfl (fun h39 => ?_) (fun h39 => ?_)
      · skip
        refine WC.seq ?_
        refine WC.region ?_
        refine WL.step ?_
        refine WL.move rfl rfl ?_
        refine WL.step ?_
        refine WL.eqI rfl rfl rfl ?_
        refine WL.step ?_
        refine WL.move rfl rfl ?_
        refine WA.splitB (i := 42) rfl (fun g42 => ?_) (fun g42 => ?_)
        · skip
          refine WL.step (WL.guardT rfl rfl rfl ?_)
          refine WL.move rfl rfl ?_
          refine WL.step (WL.guardT rfl rfl rfl ?_)
          refine WL.lenSl F.und33 rfl rfl ?_
          refine WL.step (WL.guardT rfl rfl rfl ?_)
          refine WL.eqI rfl rfl rfl ?_
          refine WL.step ?_
          refine WL.pickT rfl rfl rfl ?_
          refine WL.step ?_
          refine WL.move rfl rfl ?_
          refine WA.splitB (i := 47) rfl (fun g47 => ?_) (fun g47 => ?_)
          · skip
            refine WL.step (WL.guardT rfl rfl rfl ?_)
            refine WL.callV F.fun13 rfl rfl (fun w _ => wakes_c w) ?_
            refine WL.step ?_
            refine WL.pickT rfl rfl rfl ?_
            refine WL.step ?_
            refine WL.assign rfl rfl ?_
            refine WL.nil ?_
            refine WQ.then_normal ?_
            refine WC.ret ?_
            refine WQ.then_ret ?_
            exact WQ.ret (rs := [.tmp 2]) rfl (.tmp rfl .nil) (fun w hS => ⟨by first | rfl | simp [tup], hS.sublist (List.nil_sublist _)⟩)
          · skip
            exfalso; first | cases g47 | simp at g47
        · skip
          exfalso; first | cases g42 | simp at g42
      · skip
        exfalso; simp at h39; omega

end Go.Proofs.Ytkgllhkhdjodeaa
