/- Parts of the walk, put together by a program. By an AI agent. -/
import Derived.Test.YtnldjikcnahioaaGreatDoorPaSourceLexes2
import Derived.RangeFuncOwn
import Derived.RangeFuncLeaves
import Derived.RangeFuncSeq
import Derived.OrdersIn
import Derived.TacticsIn
import Derived.Laws.CopyRow
set_option linter.unusedSimpArgs false
set_option linter.unusedVariables false
namespace Go.Proofs.YtnldjikcnahioaaGreatDoor
open Go Go.Eng Go.Proofs Dg
set_option maxRecDepth 100000 in
theorem join_c (g : Nat) (bop : Bool → Bool → Bool) (opf : Nat → Nat → Nat × Bool) (hop : OpOk g bop opf) (bp bm bs : Nat) (la lb : List Dec) (aa ab : Option Addr) (ca cb ra rb : Nat) (ha : Mk la) (hb : Mk lb) (hla : la.length ≤ 16777216) (hlb : lb.length ≤ 16777216) : ∀ (n m : Nat), m ≤ 24 → 24 - m < n →
  ∀ (Fp : List Nat) (l : List Dec) (f : Nat × Nat → Option Nat) (x y : Nat) (w : World), x < la.length + 2 → y < lb.length + 2 → (trs la x).ok m → (trs lb y).ok m → Mk l → SeenOk bop la lb l f → l.length + 2 ^ (24 - m) ≤ 16777216 → JEnv w Fp bp bm bs la lb aa ab ca cb ra rb → St w Fp [jns Fp bm bs l f] w →
  Calls Tryz.prog 159 [pp bp, .int .i64 (x : Int), .int .i64 (y : Int), Value.func (.func g) [].toArray [].toArray].toArray w fun e w' => ∃ z : { z : JT // JPost bop la lb l m x y z }, e = .returned (.int .i64 (z.1.2.2.2 : Int)) ∧ St w Fp [jns z.1.1 bm bs z.1.2.1 z.1.2.2.1] w' := by
 intro n
 induction n with
 | zero => intro m; omega
 | succ n hrec =>
 intro m hm24 hmn Fp l f x y w hx hy hox hoy hm hsn hsz hE hS0
 have hpow : l.length + 1 ≤ l.length + 2 ^ (24 - m) := by have := Nat.one_le_two_pow (n := 24 - m); omega
 obtain ⟨F1, _, h1, h2, hS0⟩ := hS0.bunOpen
 simp only [jnCs, List.cons_append, List.nil_append] at hS0
 refine enter Tryz.func159 rfl Tryz.ntmps159 rfl (C := [mkr F1 bm l, mpg enc2 bs (fun q => (f q).map encI)]) hS0 ?_
 refine jN 16 ?_
 refine WL.callF0 (β := Unit) (res := fun _ => .returned (.tuple #[.int .i64 ((opf x y).1 : Int), .bool (opf x y).2])) (cs := fun _ => []) (ψ := fun _ => True) (us := []) (cap := []) hop.fn (fun d h => by cases h; rfl) rfl rfl (fun w hS => (hop.call x y w (by omega) (by omega)).mono (fun e w2 h => ⟨(), trivial, h.1, h.2⟩)) (fun _ _ => ?_)
 refine WL.step ?_
 refine WL.move rfl rfl ?_
 refine WL.step ?_
 refine WL.extract rfl rfl rfl ?_
 refine WL.step ?_
 refine WL.extract rfl rfl rfl ?_
 refine WL.step ?_
 refine WL.assign rfl rfl ?_
 refine WL.step ?_
 refine WL.assign rfl rfl ?_
 refine WL.nil ?_
 refine WQ.then_normal ?_
 refine WC.seq ?_
 refine WC.region ?_
 refine WL.step ?_
 refine WL.move rfl rfl ?_
 refine WL.nil ?_
 refine WQ.then_normal ?_
 refine WC.cond rfl (fun h28 => ?_) (fun h28 => ?_)
 ·refine jN 10 ?_
  refine WQ.ret (rs := [.tmp 8]) rfl (.tmp rfl .nil) (fun w hS => ⟨⟨(_, l, f, (opf x y).1), ⟨hm, ⟨[], by simp⟩, hpow, hop.spec.done h28, hsn⟩⟩, rfl, St.jnsClose hS⟩)
 ·refine jN 9 ?_
  refine WL.buildA F.arT276 rfl jB rfl ?_
  refine jN 1 ?_
  refine WL.alloc F.zero276 rfl (fun b11 => ?_)
  refine jN 6 ?_
  rcases Option.eq_none_or_eq_some (f (x, y)) with hf | ⟨r, hf⟩
  ·refine WC.drawsL (by kernel_rfl) (FactsOk.cons (ds := []) (LoadOk.by (Y := fun w => w.cell? ⟨bp, 5, none⟩ = some (.map (some bs))) (fun w hS => hS.oldc (hE.ce 5 _ rfl) hE.ce')) (FactsOk.cons (ds := []) (LoadOk.whole (t := 11) rfl jM) (FactsOk.cons (ds := []) (LoadOk.by (Y := fun w => (mpg enc2 bs (fun q => (f q).map encI)).ok w) (fun w hS => hS.ok _ jM)) (FactsOk.nil)))) ?_
   refine jT 0 rfl (Yl.move rfl) ?_
   refine jT 1 rfl (Yl.nilCheck rfl) ?_
   refine jT 2 rfl (Yl.fieldAddr0 F.fld246_3 rfl) ?_
   refine jF 3 0 rfl rfl (Yl.load1 F.one244 rfl) ?_
   refine jF 4 1 rfl rfl (Yl.loadN F.agg276 rfl rfl) ?_
   refine jF 5 2 rfl rfl (Yl.lookupMiss (f := fun q => (f q).map encI) (x, y) undMP keyPair zeroInt rfl rfl rfl (by rw [hf]; rfl)) ?_
   refine jT 6 rfl (Yl.move rfl) ?_
   refine jT 7 rfl (Yl.extract rfl rfl) ?_
   refine jT 8 rfl (Yl.extract rfl rfl) ?_
   refine jT 9 rfl (Yl.assign rfl) ?_
   refine jT 10 rfl (Yl.assign rfl) ?_
   refine jD ?_
   refine jN 11 ?_
   refine WC.cutPE (α := Nat × Nat) (fun z => [(0, pp bp), (1, .int .i64 (x : Int)), (2, .int .i64 (y : Int)), (3, Value.func (.func g) [].toArray [].toArray), (11, pp b11), (14, pp z.1), (15, pp z.2)]) (fun z => [pt z.1 [Value.int .i64 ((atD la x).1 : Int), .int .i64 ((atD la x).2.1 : Int), .int .i64 ((atD la x).2.2 : Int)] 78, pt z.2 [Value.int .i64 ((atD lb y).1 : Int), .int .i64 ((atD lb y).2.1 : Int), .int .i64 ((atD lb y).2.2 : Int)] 78, pt b11 [Value.int .i64 (x : Int), .int .i64 (y : Int)] 276, mkr F1 bm l, mpg enc2 bs (fun q => (f q).map encI)]) (fun c a d v w h => by cases d <;> exact h) (fun Q' hP hQ => ?_) (fun xE => ?_)
   ·refine WC.drawsL (by kernel_rfl) (FactsOk.cons (ds := [5, 11, 14, 15]) (LoadOk.by (Y := fun w => ∀ j v, [Value.slice aa la.length ca, .int .i64 (ra : Int)][j]? = some v → w.cell? ⟨bp, 1 + j, none⟩ = some v) (fun w hS => fun j v hv => hS.oldc (hE.ce (1 + j) v (by rw [Nat.add_comm]; rcases j with _ | _ | j <;> first | exact hv | simp at hv)) hE.ce')) (FactsOk.cons (ds := [11, 14, 15]) (LoadOk.by (Y := fun w => ∀ j v, [Value.slice ab lb.length cb, .int .i64 (rb : Int)][j]? = some v → w.cell? ⟨bp, 3 + j, none⟩ = some v) (fun w hS => fun j v hv => hS.oldc (hE.ce (3 + j) v (by rw [Nat.add_comm]; rcases j with _ | _ | j <;> first | exact hv | simp at hv)) hE.ce')) (FactsOk.nil))) ?_
    refine jT 0 rfl (Yl.move rfl) ?_
    refine jT 1 rfl (Yl.nilCheck rfl) ?_
    refine jT 2 rfl (Yl.fieldAddr0 F.fld246_1 rfl) ?_
    refine jF 3 0 rfl rfl (Yl.loadN F.agg33 rfl rfl) ?_
    refine jT 4 rfl (Yl.move rfl) ?_
    refine jT 6 rfl (Yl.move rfl) ?_
    refine jT 7 rfl (Yl.nilCheck rfl) ?_
    refine jT 8 rfl (Yl.fieldAddr0 F.fld246_2 rfl) ?_
    refine jF 9 1 rfl rfl (Yl.loadN F.agg33 rfl rfl) ?_
    refine jT 10 rfl (Yl.move rfl) ?_
    refine WD.three (i := 5) (j := 12) (l := 13) (by kernel_rfl) rfl rfl rfl ?_ ?_ ?_
    ·refine WL.callV F.fun182 rfl rfl (fun w hS => at_c la aa ca ra x w (by omega) hx (hE.rda.now hS)) ?_
     refine WD.on (closed_of (by kernel_rfl)) (fun w hS => Sx.gone rfl (Sx.keep (fun j v hv => hS.oldc (hE.ce (3 + j) v (by rw [Nat.add_comm]; rcases j with _ | _ | j <;> first | exact hv | simp at hv)) hE.ce') (Sx.none))) ?_
     refine WD.three (i := 11) (j := 12) (l := 13) (by kernel_rfl) rfl rfl rfl ?_ ?_ ?_
     ·refine WL.callV F.fun182 rfl rfl (fun w hS => at_c lb ab cb rb y w (by omega) hy (hE.rdb.now hS)) ?_
      refine jG ?_
      refine WD.two (i := 12) (j := 13) (by kernel_rfl) rfl rfl ?_ ?_
      ·refine WL.alloc F.zero78 rfl (fun b14 => ?_)
       refine jG ?_
       refine jA 13 rfl ?_
       refine WL.alloc F.zero78 rfl (fun b15 => ?_)
       refine jG ?_
       refine jA 14 rfl ?_
       refine WL.storeN F.agg78 rfl rfl rfl jO jU jS ?_
       refine jG ?_
       refine jA 15 rfl ?_
       refine WL.storeN F.agg78 rfl rfl rfl jO jU jS ?_
       refine jG ?_
       refine jD ?_
       refine WQ.chunks (C' := [pt (b14, b15).1 [Value.int .i64 ((atD la x).1 : Int), .int .i64 ((atD la x).2.1 : Int), .int .i64 ((atD la x).2.2 : Int)] 78, pt (b14, b15).2 [Value.int .i64 ((atD lb y).1 : Int), .int .i64 ((atD lb y).2.1 : Int), .int .i64 ((atD lb y).2.2 : Int)] 78, pt b11 [Value.int .i64 (x : Int), .int .i64 (y : Int)] 276, mkr F1 bm l, mpg enc2 bs (fun q => (f q).map encI)]) (fun w hS => (jK hS)) ?_
       exact WQ.byCut (hQ (b14, b15)) ⟨rfl, rfl, rfl, rfl, rfl, rfl, rfl, trivial⟩
      ·refine WL.alloc F.zero78 rfl (fun b15 => ?_)
       refine jG ?_
       refine jA 12 rfl ?_
       refine WL.alloc F.zero78 rfl (fun b14 => ?_)
       refine jG ?_
       refine jA 14 rfl ?_
       refine WL.storeN F.agg78 rfl rfl rfl jO jU jS ?_
       refine jG ?_
       refine jA 15 rfl ?_
       refine WL.storeN F.agg78 rfl rfl rfl jO jU jS ?_
       refine jG ?_
       refine jD ?_
       refine WQ.chunks (C' := [pt (b14, b15).1 [Value.int .i64 ((atD la x).1 : Int), .int .i64 ((atD la x).2.1 : Int), .int .i64 ((atD la x).2.2 : Int)] 78, pt (b14, b15).2 [Value.int .i64 ((atD lb y).1 : Int), .int .i64 ((atD lb y).2.1 : Int), .int .i64 ((atD lb y).2.2 : Int)] 78, pt b11 [Value.int .i64 (x : Int), .int .i64 (y : Int)] 276, mkr F1 bm l, mpg enc2 bs (fun q => (f q).map encI)]) (fun w hS => (jK hS)) ?_
       exact WQ.byCut (hQ (b14, b15)) ⟨rfl, rfl, rfl, rfl, rfl, rfl, rfl, trivial⟩
     ·refine WL.alloc F.zero78 rfl (fun b14 => ?_)
      refine WD.on (closed_of (by kernel_rfl)) (fun w hS => Sx.gone rfl (Sx.keep (fun j v hv => hS.oldc (hE.ce (3 + j) v (by rw [Nat.add_comm]; rcases j with _ | _ | j <;> first | exact hv | simp at hv)) hE.ce') (Sx.none))) ?_
      refine WD.two (i := 11) (j := 13) (by kernel_rfl) rfl rfl ?_ ?_
      ·refine WL.callV F.fun182 rfl rfl (fun w hS => at_c lb ab cb rb y w (by omega) hy (hE.rdb.now hS)) ?_
       refine jG ?_
       refine jA 13 rfl ?_
       refine WL.alloc F.zero78 rfl (fun b15 => ?_)
       refine jG ?_
       refine jA 14 rfl ?_
       refine WL.storeN F.agg78 rfl rfl rfl jO jU jS ?_
       refine jG ?_
       refine jA 15 rfl ?_
       refine WL.storeN F.agg78 rfl rfl rfl jO jU jS ?_
       refine jG ?_
       refine jD ?_
       refine WQ.chunks (C' := [pt (b14, b15).1 [Value.int .i64 ((atD la x).1 : Int), .int .i64 ((atD la x).2.1 : Int), .int .i64 ((atD la x).2.2 : Int)] 78, pt (b14, b15).2 [Value.int .i64 ((atD lb y).1 : Int), .int .i64 ((atD lb y).2.1 : Int), .int .i64 ((atD lb y).2.2 : Int)] 78, pt b11 [Value.int .i64 (x : Int), .int .i64 (y : Int)] 276, mkr F1 bm l, mpg enc2 bs (fun q => (f q).map encI)]) (fun w hS => (jK hS)) ?_
       exact WQ.byCut (hQ (b14, b15)) ⟨rfl, rfl, rfl, rfl, rfl, rfl, rfl, trivial⟩
      ·refine WL.alloc F.zero78 rfl (fun b15 => ?_)
       refine WD.on (closed_of (by kernel_rfl)) (fun w hS => Sx.gone rfl (Sx.keep (fun j v hv => hS.oldc (hE.ce (3 + j) v (by rw [Nat.add_comm]; rcases j with _ | _ | j <;> first | exact hv | simp at hv)) hE.ce') (Sx.none))) ?_
       refine jA 11 rfl ?_
       refine WL.callV F.fun182 rfl rfl (fun w hS => at_c lb ab cb rb y w (by omega) hy (hE.rdb.now hS)) ?_
       refine jG ?_
       refine jA 14 rfl ?_
       refine WL.storeN F.agg78 rfl rfl rfl jO jU jS ?_
       refine jG ?_
       refine jA 15 rfl ?_
       refine WL.storeN F.agg78 rfl rfl rfl jO jU jS ?_
       refine jG ?_
       refine jD ?_
       refine WQ.chunks (C' := [pt (b14, b15).1 [Value.int .i64 ((atD la x).1 : Int), .int .i64 ((atD la x).2.1 : Int), .int .i64 ((atD la x).2.2 : Int)] 78, pt (b14, b15).2 [Value.int .i64 ((atD lb y).1 : Int), .int .i64 ((atD lb y).2.1 : Int), .int .i64 ((atD lb y).2.2 : Int)] 78, pt b11 [Value.int .i64 (x : Int), .int .i64 (y : Int)] 276, mkr F1 bm l, mpg enc2 bs (fun q => (f q).map encI)]) (fun w hS => (jK hS)) ?_
       exact WQ.byCut (hQ (b14, b15)) ⟨rfl, rfl, rfl, rfl, rfl, rfl, rfl, trivial⟩
     ·refine WL.alloc F.zero78 rfl (fun b15 => ?_)
      refine WD.on (closed_of (by kernel_rfl)) (fun w hS => Sx.gone rfl (Sx.keep (fun j v hv => hS.oldc (hE.ce (3 + j) v (by rw [Nat.add_comm]; rcases j with _ | _ | j <;> first | exact hv | simp at hv)) hE.ce') (Sx.none))) ?_
      refine WD.two (i := 11) (j := 12) (by kernel_rfl) rfl rfl ?_ ?_
      ·refine WL.callV F.fun182 rfl rfl (fun w hS => at_c lb ab cb rb y w (by omega) hy (hE.rdb.now hS)) ?_
       refine jG ?_
       refine jA 12 rfl ?_
       refine WL.alloc F.zero78 rfl (fun b14 => ?_)
       refine jG ?_
       refine jA 14 rfl ?_
       refine WL.storeN F.agg78 rfl rfl rfl jO jU jS ?_
       refine jG ?_
       refine jA 15 rfl ?_
       refine WL.storeN F.agg78 rfl rfl rfl jO jU jS ?_
       refine jG ?_
       refine jD ?_
       refine WQ.chunks (C' := [pt (b14, b15).1 [Value.int .i64 ((atD la x).1 : Int), .int .i64 ((atD la x).2.1 : Int), .int .i64 ((atD la x).2.2 : Int)] 78, pt (b14, b15).2 [Value.int .i64 ((atD lb y).1 : Int), .int .i64 ((atD lb y).2.1 : Int), .int .i64 ((atD lb y).2.2 : Int)] 78, pt b11 [Value.int .i64 (x : Int), .int .i64 (y : Int)] 276, mkr F1 bm l, mpg enc2 bs (fun q => (f q).map encI)]) (fun w hS => (jK hS)) ?_
       exact WQ.byCut (hQ (b14, b15)) ⟨rfl, rfl, rfl, rfl, rfl, rfl, rfl, trivial⟩
      ·refine WL.alloc F.zero78 rfl (fun b14 => ?_)
       refine WD.on (closed_of (by kernel_rfl)) (fun w hS => Sx.gone rfl (Sx.keep (fun j v hv => hS.oldc (hE.ce (3 + j) v (by rw [Nat.add_comm]; rcases j with _ | _ | j <;> first | exact hv | simp at hv)) hE.ce') (Sx.none))) ?_
       refine jA 11 rfl ?_
       refine WL.callV F.fun182 rfl rfl (fun w hS => at_c lb ab cb rb y w (by omega) hy (hE.rdb.now hS)) ?_
       refine jG ?_
       refine jA 14 rfl ?_
       refine WL.storeN F.agg78 rfl rfl rfl jO jU jS ?_
       refine jG ?_
       refine jA 15 rfl ?_
       refine WL.storeN F.agg78 rfl rfl rfl jO jU jS ?_
       refine jG ?_
       refine jD ?_
       refine WQ.chunks (C' := [pt (b14, b15).1 [Value.int .i64 ((atD la x).1 : Int), .int .i64 ((atD la x).2.1 : Int), .int .i64 ((atD la x).2.2 : Int)] 78, pt (b14, b15).2 [Value.int .i64 ((atD lb y).1 : Int), .int .i64 ((atD lb y).2.1 : Int), .int .i64 ((atD lb y).2.2 : Int)] 78, pt b11 [Value.int .i64 (x : Int), .int .i64 (y : Int)] 276, mkr F1 bm l, mpg enc2 bs (fun q => (f q).map encI)]) (fun w hS => (jK hS)) ?_
       exact WQ.byCut (hQ (b14, b15)) ⟨rfl, rfl, rfl, rfl, rfl, rfl, rfl, trivial⟩
    ·refine WL.alloc F.zero78 rfl (fun b14 => ?_)
     refine WD.on (closed_of (by kernel_rfl)) (fun w hS => Sx.keep (fun j v hv => hS.oldc (hE.ce (1 + j) v (by rw [Nat.add_comm]; rcases j with _ | _ | j <;> first | exact hv | simp at hv)) hE.ce') (Sx.keep (fun j v hv => hS.oldc (hE.ce (3 + j) v (by rw [Nat.add_comm]; rcases j with _ | _ | j <;> first | exact hv | simp at hv)) hE.ce') (Sx.none))) ?_
     refine WD.two (i := 5) (j := 13) (by kernel_rfl) rfl rfl ?_ ?_
     ·refine WL.callV F.fun182 rfl rfl (fun w hS => at_c la aa ca ra x w (by omega) hx (hE.rda.now hS)) ?_
      refine WD.on (closed_of (by kernel_rfl)) (fun w hS => Sx.gone rfl (Sx.keep (fun j v hv => hS.oldc (hE.ce (3 + j) v (by rw [Nat.add_comm]; rcases j with _ | _ | j <;> first | exact hv | simp at hv)) hE.ce') (Sx.none))) ?_
      refine WD.two (i := 11) (j := 13) (by kernel_rfl) rfl rfl ?_ ?_
      ·refine WL.callV F.fun182 rfl rfl (fun w hS => at_c lb ab cb rb y w (by omega) hy (hE.rdb.now hS)) ?_
       refine jG ?_
       refine jA 13 rfl ?_
       refine WL.alloc F.zero78 rfl (fun b15 => ?_)
       refine jG ?_
       refine jA 14 rfl ?_
       refine WL.storeN F.agg78 rfl rfl rfl jO jU jS ?_
       refine jG ?_
       refine jA 15 rfl ?_
       refine WL.storeN F.agg78 rfl rfl rfl jO jU jS ?_
       refine jG ?_
       refine jD ?_
       refine WQ.chunks (C' := [pt (b14, b15).1 [Value.int .i64 ((atD la x).1 : Int), .int .i64 ((atD la x).2.1 : Int), .int .i64 ((atD la x).2.2 : Int)] 78, pt (b14, b15).2 [Value.int .i64 ((atD lb y).1 : Int), .int .i64 ((atD lb y).2.1 : Int), .int .i64 ((atD lb y).2.2 : Int)] 78, pt b11 [Value.int .i64 (x : Int), .int .i64 (y : Int)] 276, mkr F1 bm l, mpg enc2 bs (fun q => (f q).map encI)]) (fun w hS => (jK hS)) ?_
       exact WQ.byCut (hQ (b14, b15)) ⟨rfl, rfl, rfl, rfl, rfl, rfl, rfl, trivial⟩
      ·refine WL.alloc F.zero78 rfl (fun b15 => ?_)
       refine WD.on (closed_of (by kernel_rfl)) (fun w hS => Sx.gone rfl (Sx.keep (fun j v hv => hS.oldc (hE.ce (3 + j) v (by rw [Nat.add_comm]; rcases j with _ | _ | j <;> first | exact hv | simp at hv)) hE.ce') (Sx.none))) ?_
       refine jA 11 rfl ?_
       refine WL.callV F.fun182 rfl rfl (fun w hS => at_c lb ab cb rb y w (by omega) hy (hE.rdb.now hS)) ?_
       refine jG ?_
       refine jA 14 rfl ?_
       refine WL.storeN F.agg78 rfl rfl rfl jO jU jS ?_
       refine jG ?_
       refine jA 15 rfl ?_
       refine WL.storeN F.agg78 rfl rfl rfl jO jU jS ?_
       refine jG ?_
       refine jD ?_
       refine WQ.chunks (C' := [pt (b14, b15).1 [Value.int .i64 ((atD la x).1 : Int), .int .i64 ((atD la x).2.1 : Int), .int .i64 ((atD la x).2.2 : Int)] 78, pt (b14, b15).2 [Value.int .i64 ((atD lb y).1 : Int), .int .i64 ((atD lb y).2.1 : Int), .int .i64 ((atD lb y).2.2 : Int)] 78, pt b11 [Value.int .i64 (x : Int), .int .i64 (y : Int)] 276, mkr F1 bm l, mpg enc2 bs (fun q => (f q).map encI)]) (fun w hS => (jK hS)) ?_
       exact WQ.byCut (hQ (b14, b15)) ⟨rfl, rfl, rfl, rfl, rfl, rfl, rfl, trivial⟩
     ·refine WL.alloc F.zero78 rfl (fun b15 => ?_)
      refine WD.on (closed_of (by kernel_rfl)) (fun w hS => Sx.keep (fun j v hv => hS.oldc (hE.ce (1 + j) v (by rw [Nat.add_comm]; rcases j with _ | _ | j <;> first | exact hv | simp at hv)) hE.ce') (Sx.keep (fun j v hv => hS.oldc (hE.ce (3 + j) v (by rw [Nat.add_comm]; rcases j with _ | _ | j <;> first | exact hv | simp at hv)) hE.ce') (Sx.none))) ?_
      refine jA 5 rfl ?_
      refine WL.callV F.fun182 rfl rfl (fun w hS => at_c la aa ca ra x w (by omega) hx (hE.rda.now hS)) ?_
      refine WD.on (closed_of (by kernel_rfl)) (fun w hS => Sx.gone rfl (Sx.keep (fun j v hv => hS.oldc (hE.ce (3 + j) v (by rw [Nat.add_comm]; rcases j with _ | _ | j <;> first | exact hv | simp at hv)) hE.ce') (Sx.none))) ?_
      refine jA 11 rfl ?_
      refine WL.callV F.fun182 rfl rfl (fun w hS => at_c lb ab cb rb y w (by omega) hy (hE.rdb.now hS)) ?_
      refine jG ?_
      refine jA 14 rfl ?_
      refine WL.storeN F.agg78 rfl rfl rfl jO jU jS ?_
      refine jG ?_
      refine jA 15 rfl ?_
      refine WL.storeN F.agg78 rfl rfl rfl jO jU jS ?_
      refine jG ?_
      refine jD ?_
      refine WQ.chunks (C' := [pt (b14, b15).1 [Value.int .i64 ((atD la x).1 : Int), .int .i64 ((atD la x).2.1 : Int), .int .i64 ((atD la x).2.2 : Int)] 78, pt (b14, b15).2 [Value.int .i64 ((atD lb y).1 : Int), .int .i64 ((atD lb y).2.1 : Int), .int .i64 ((atD lb y).2.2 : Int)] 78, pt b11 [Value.int .i64 (x : Int), .int .i64 (y : Int)] 276, mkr F1 bm l, mpg enc2 bs (fun q => (f q).map encI)]) (fun w hS => (jK hS)) ?_
      exact WQ.byCut (hQ (b14, b15)) ⟨rfl, rfl, rfl, rfl, rfl, rfl, rfl, trivial⟩
    ·refine WL.alloc F.zero78 rfl (fun b15 => ?_)
     refine WD.on (closed_of (by kernel_rfl)) (fun w hS => Sx.keep (fun j v hv => hS.oldc (hE.ce (1 + j) v (by rw [Nat.add_comm]; rcases j with _ | _ | j <;> first | exact hv | simp at hv)) hE.ce') (Sx.keep (fun j v hv => hS.oldc (hE.ce (3 + j) v (by rw [Nat.add_comm]; rcases j with _ | _ | j <;> first | exact hv | simp at hv)) hE.ce') (Sx.none))) ?_
     refine WD.two (i := 5) (j := 12) (by kernel_rfl) rfl rfl ?_ ?_
     ·refine WL.callV F.fun182 rfl rfl (fun w hS => at_c la aa ca ra x w (by omega) hx (hE.rda.now hS)) ?_
      refine WD.on (closed_of (by kernel_rfl)) (fun w hS => Sx.gone rfl (Sx.keep (fun j v hv => hS.oldc (hE.ce (3 + j) v (by rw [Nat.add_comm]; rcases j with _ | _ | j <;> first | exact hv | simp at hv)) hE.ce') (Sx.none))) ?_
      refine WD.two (i := 11) (j := 12) (by kernel_rfl) rfl rfl ?_ ?_
      ·refine WL.callV F.fun182 rfl rfl (fun w hS => at_c lb ab cb rb y w (by omega) hy (hE.rdb.now hS)) ?_
       refine jG ?_
       refine jA 12 rfl ?_
       refine WL.alloc F.zero78 rfl (fun b14 => ?_)
       refine jG ?_
       refine jA 14 rfl ?_
       refine WL.storeN F.agg78 rfl rfl rfl jO jU jS ?_
       refine jG ?_
       refine jA 15 rfl ?_
       refine WL.storeN F.agg78 rfl rfl rfl jO jU jS ?_
       refine jG ?_
       refine jD ?_
       refine WQ.chunks (C' := [pt (b14, b15).1 [Value.int .i64 ((atD la x).1 : Int), .int .i64 ((atD la x).2.1 : Int), .int .i64 ((atD la x).2.2 : Int)] 78, pt (b14, b15).2 [Value.int .i64 ((atD lb y).1 : Int), .int .i64 ((atD lb y).2.1 : Int), .int .i64 ((atD lb y).2.2 : Int)] 78, pt b11 [Value.int .i64 (x : Int), .int .i64 (y : Int)] 276, mkr F1 bm l, mpg enc2 bs (fun q => (f q).map encI)]) (fun w hS => (jK hS)) ?_
       exact WQ.byCut (hQ (b14, b15)) ⟨rfl, rfl, rfl, rfl, rfl, rfl, rfl, trivial⟩
      ·refine WL.alloc F.zero78 rfl (fun b14 => ?_)
       refine WD.on (closed_of (by kernel_rfl)) (fun w hS => Sx.gone rfl (Sx.keep (fun j v hv => hS.oldc (hE.ce (3 + j) v (by rw [Nat.add_comm]; rcases j with _ | _ | j <;> first | exact hv | simp at hv)) hE.ce') (Sx.none))) ?_
       refine jA 11 rfl ?_
       refine WL.callV F.fun182 rfl rfl (fun w hS => at_c lb ab cb rb y w (by omega) hy (hE.rdb.now hS)) ?_
       refine jG ?_
       refine jA 14 rfl ?_
       refine WL.storeN F.agg78 rfl rfl rfl jO jU jS ?_
       refine jG ?_
       refine jA 15 rfl ?_
       refine WL.storeN F.agg78 rfl rfl rfl jO jU jS ?_
       refine jG ?_
       refine jD ?_
       refine WQ.chunks (C' := [pt (b14, b15).1 [Value.int .i64 ((atD la x).1 : Int), .int .i64 ((atD la x).2.1 : Int), .int .i64 ((atD la x).2.2 : Int)] 78, pt (b14, b15).2 [Value.int .i64 ((atD lb y).1 : Int), .int .i64 ((atD lb y).2.1 : Int), .int .i64 ((atD lb y).2.2 : Int)] 78, pt b11 [Value.int .i64 (x : Int), .int .i64 (y : Int)] 276, mkr F1 bm l, mpg enc2 bs (fun q => (f q).map encI)]) (fun w hS => (jK hS)) ?_
       exact WQ.byCut (hQ (b14, b15)) ⟨rfl, rfl, rfl, rfl, rfl, rfl, rfl, trivial⟩
     ·refine WL.alloc F.zero78 rfl (fun b14 => ?_)
      refine WD.on (closed_of (by kernel_rfl)) (fun w hS => Sx.keep (fun j v hv => hS.oldc (hE.ce (1 + j) v (by rw [Nat.add_comm]; rcases j with _ | _ | j <;> first | exact hv | simp at hv)) hE.ce') (Sx.keep (fun j v hv => hS.oldc (hE.ce (3 + j) v (by rw [Nat.add_comm]; rcases j with _ | _ | j <;> first | exact hv | simp at hv)) hE.ce') (Sx.none))) ?_
      refine jA 5 rfl ?_
      refine WL.callV F.fun182 rfl rfl (fun w hS => at_c la aa ca ra x w (by omega) hx (hE.rda.now hS)) ?_
      refine WD.on (closed_of (by kernel_rfl)) (fun w hS => Sx.gone rfl (Sx.keep (fun j v hv => hS.oldc (hE.ce (3 + j) v (by rw [Nat.add_comm]; rcases j with _ | _ | j <;> first | exact hv | simp at hv)) hE.ce') (Sx.none))) ?_
      refine jA 11 rfl ?_
      refine WL.callV F.fun182 rfl rfl (fun w hS => at_c lb ab cb rb y w (by omega) hy (hE.rdb.now hS)) ?_
      refine jG ?_
      refine jA 14 rfl ?_
      refine WL.storeN F.agg78 rfl rfl rfl jO jU jS ?_
      refine jG ?_
      refine jA 15 rfl ?_
      refine WL.storeN F.agg78 rfl rfl rfl jO jU jS ?_
      refine jG ?_
      refine jD ?_
      refine WQ.chunks (C' := [pt (b14, b15).1 [Value.int .i64 ((atD la x).1 : Int), .int .i64 ((atD la x).2.1 : Int), .int .i64 ((atD la x).2.2 : Int)] 78, pt (b14, b15).2 [Value.int .i64 ((atD lb y).1 : Int), .int .i64 ((atD lb y).2.1 : Int), .int .i64 ((atD lb y).2.2 : Int)] 78, pt b11 [Value.int .i64 (x : Int), .int .i64 (y : Int)] 276, mkr F1 bm l, mpg enc2 bs (fun q => (f q).map encI)]) (fun w hS => (jK hS)) ?_
      exact WQ.byCut (hQ (b14, b15)) ⟨rfl, rfl, rfl, rfl, rfl, rfl, rfl, trivial⟩
   obtain ⟨b14, b15⟩ := xE
   show WQ _ _ _ _ _ _ [(0, pp bp), (1, .int .i64 (x : Int)), (2, .int .i64 (y : Int)), (3, Value.func (.func g) [].toArray [].toArray), (11, pp b11), (14, pp b14), (15, pp b15)] [pt b14 [Value.int .i64 ((atD la x).1 : Int), .int .i64 ((atD la x).2.1 : Int), .int .i64 ((atD la x).2.2 : Int)] 78, pt b15 [Value.int .i64 ((atD lb y).1 : Int), .int .i64 ((atD lb y).2.1 : Int), .int .i64 ((atD lb y).2.2 : Int)] 78, pt b11 [Value.int .i64 (x : Int), .int .i64 (y : Int)] 276, mkr F1 bm l, mpg enc2 bs (fun q => (f q).map encI)]
   obtain ⟨i, hi⟩ : ∃ i, i = min (atD la x).1 (atD lb y).1 := ⟨_, rfl⟩
   have hgo := hop.spec.go x y h28
   have hi24 : i < 24 := by
    rcases hgo with h | h
    ·have := atD_lt ha hx h; omega
    ·have := atD_lt hb hy h; omega
   have hmi : m ≤ i := by have e1 := atD_ok ha hx hox hm24; have e2 := atD_ok hb hy hoy hm24; omega
   obtain ⟨a1, a2, a3, a4, _, _, a7⟩ := half_at ha hx hox (i := i) (by omega) hi24
   obtain ⟨c1, c2, c3, c4, _, _, c7⟩ := half_at hb hy hoy (i := i) (by omega) hi24
   have hp2 : 2 ^ (24 - (i + 1)) + 2 ^ (24 - (i + 1)) ≤ 2 ^ (24 - m) := by (have e1 : 2 ^ (24 - i) = 2 ^ (24 - (i + 1)) * 2 := by (rw [← Nat.pow_succ]; congr 1; omega)); (have e2 : 2 ^ (24 - i) ≤ 2 ^ (24 - m) := Nat.pow_le_pow_right (by decide) (by omega)); omega
   refine jN 12 ?_
   refine WL.minI (r := (i : Int)) rfl rfl rfl (by (split) <;> omega) ?_
   refine jN 11 ?_
   refine WL.buildA F.arT276 rfl jB rfl ?_
   refine jN 5 ?_
   refine WL.buildA F.arT276 rfl jB rfl ?_
   refine jN 1 ?_
   refine WL.alloc F.zero276 rfl (fun b17 => ?_)
   refine jN 1 ?_
   refine WL.alloc F.zero276 rfl (fun b18 => ?_)
   refine jN 19 ?_
   refine WC.cutQ ([(0, pp bp), (1, .int .i64 (x : Int)), (2, .int .i64 (y : Int)), (3, Value.func (.func g) [].toArray [].toArray), (11, pp b11), (14, pp b14), (15, pp b15), (16, .int .i64 (i : Int)), (17, pp b17), (18, pp b18)]) ([pt b17 [.int .i64 (loP la x i : Int), .int .i64 (y : Int)] 276, pt b18 [.int .i64 (hiP la x i : Int), .int .i64 (y : Int)] 276, pt b15 [Value.int .i64 ((atD lb y).1 : Int), .int .i64 ((atD lb y).2.1 : Int), .int .i64 ((atD lb y).2.2 : Int)] 78, pt b11 [Value.int .i64 (x : Int), .int .i64 (y : Int)] 276, mkr F1 bm l, mpg enc2 bs (fun q => (f q).map encI)]) (fun c a d v w h => by cases d <;> exact h) (fun Q' hP hQ => ?_) ?_
   ·refine WC.cond rfl (fun h70 => ?_) (fun h70 => ?_)
    ·have h70n : (atD la x).1 = i := by simp at h70; omega
     have e70 : loP la x i = (atD la x).2.1 ∧ hiP la x i = (atD la x).2.2 := by unfold loP hiP; rw [if_pos h70n, if_pos h70n]; exact ⟨rfl, rfl⟩
     refine WC.drawsL (by kernel_rfl) (FactsOk.cons (ds := [5, 7]) (LoadOk.one (t := 14) (off := 1) rfl jM rfl) (FactsOk.cons (ds := [7]) (LoadOk.one (t := 14) (off := 2) rfl jM rfl) (FactsOk.nil))) ?_
     refine jT 0 rfl (Yl.fieldAddr0 F.fld78_1 rfl) ?_
     refine jF 1 0 rfl rfl (Yl.load1 F.one3 rfl) ?_
     refine jT 2 rfl (Yl.fieldAddr0 F.fld78_2 rfl) ?_
     refine jF 3 1 rfl rfl (Yl.load1 F.one3 rfl) ?_
     refine jT 4 rfl (Yl.indexAddrA (i := 0) F.arT276 rfl rfl (by decide)) ?_
     refine jA 5 rfl ?_
     refine WL.store1 F.one3 rfl rfl rfl jU jS ?_
     refine WD.on (closed_of (by kernel_rfl)) (fun w hS => Sx.gone rfl (Sx.keep (hS.cell jM rfl) (Sx.none))) ?_
     refine jT 6 rfl (Yl.indexAddrA (i := 0) F.arT276 rfl rfl (by decide)) ?_
     refine jA 7 rfl ?_
     refine WL.store1 F.one3 rfl rfl rfl jU jS ?_
     refine jG ?_
     refine jD ?_
     refine WQ.chunks (C' := [pt b17 [.int .i64 (loP la x i : Int), .int .i64 (y : Int)] 276, pt b18 [.int .i64 (hiP la x i : Int), .int .i64 (y : Int)] 276, pt b15 [Value.int .i64 ((atD lb y).1 : Int), .int .i64 ((atD lb y).2.1 : Int), .int .i64 ((atD lb y).2.2 : Int)] 78, pt b11 [Value.int .i64 (x : Int), .int .i64 (y : Int)] 276, mkr F1 bm l, mpg enc2 bs (fun q => (f q).map encI)]) (fun w hS => ?_) (WQ.byCut hQ ⟨rfl, rfl, rfl, rfl, rfl, rfl, rfl, rfl, rfl, rfl, trivial⟩)
     rw [e70.1, e70.2]
     first | exact (jK hS) | exact (jK hS)
    ·have h70n : ¬ (atD la x).1 = i := by simp at h70; omega
     have e70 : loP la x i = x ∧ hiP la x i = x := by unfold loP hiP; rw [if_neg h70n, if_neg h70n]; exact ⟨rfl, rfl⟩
     refine jN 1 ?_
     refine WQ.chunks (C' := [pt b17 [.int .i64 (loP la x i : Int), .int .i64 (y : Int)] 276, pt b18 [.int .i64 (hiP la x i : Int), .int .i64 (y : Int)] 276, pt b15 [Value.int .i64 ((atD lb y).1 : Int), .int .i64 ((atD lb y).2.1 : Int), .int .i64 ((atD lb y).2.2 : Int)] 78, pt b11 [Value.int .i64 (x : Int), .int .i64 (y : Int)] 276, mkr F1 bm l, mpg enc2 bs (fun q => (f q).map encI)]) (fun w hS => ?_) (WQ.byCut hQ ⟨rfl, rfl, rfl, rfl, rfl, rfl, rfl, rfl, rfl, rfl, trivial⟩)
     rw [e70.1, e70.2]
     first | exact (jK hS) | exact (jK hS)
   refine jN 14 ?_
   refine WC.cutQ ([(0, pp bp), (3, Value.func (.func g) [].toArray [].toArray), (11, pp b11), (14, pp b14), (15, pp b15), (16, .int .i64 (i : Int)), (17, pp b17), (18, pp b18)]) ([pt b17 [.int .i64 (loP la x i : Int), .int .i64 (loP lb y i : Int)] 276, pt b18 [.int .i64 (hiP la x i : Int), .int .i64 (hiP lb y i : Int)] 276, pt b11 [Value.int .i64 (x : Int), .int .i64 (y : Int)] 276, mkr F1 bm l, mpg enc2 bs (fun q => (f q).map encI)]) (fun c a d v w h => by cases d <;> exact h) (fun Q' hP hQ => ?_) ?_
   ·refine WC.cond rfl (fun h80 => ?_) (fun h80 => ?_)
    ·have h80n : (atD lb y).1 = i := by simp at h80; omega
     have e80 : loP lb y i = (atD lb y).2.1 ∧ hiP lb y i = (atD lb y).2.2 := by unfold loP hiP; rw [if_pos h80n, if_pos h80n]; exact ⟨rfl, rfl⟩
     refine WC.drawsL (by kernel_rfl) (FactsOk.cons (ds := [5, 7]) (LoadOk.one (t := 15) (off := 1) rfl jM rfl) (FactsOk.cons (ds := [7]) (LoadOk.one (t := 15) (off := 2) rfl jM rfl) (FactsOk.nil))) ?_
     refine jT 0 rfl (Yl.fieldAddr0 F.fld78_1 rfl) ?_
     refine jF 1 0 rfl rfl (Yl.load1 F.one3 rfl) ?_
     refine jT 2 rfl (Yl.fieldAddr0 F.fld78_2 rfl) ?_
     refine jF 3 1 rfl rfl (Yl.load1 F.one3 rfl) ?_
     refine jT 4 rfl (Yl.indexAddrA (i := 1) F.arT276 rfl rfl (by decide)) ?_
     refine jA 5 rfl ?_
     refine WL.store1 F.one3 rfl rfl rfl jU jS ?_
     refine WD.on (closed_of (by kernel_rfl)) (fun w hS => Sx.gone rfl (Sx.keep (hS.cell jM rfl) (Sx.none))) ?_
     refine jT 6 rfl (Yl.indexAddrA (i := 1) F.arT276 rfl rfl (by decide)) ?_
     refine jA 7 rfl ?_
     refine WL.store1 F.one3 rfl rfl rfl jU jS ?_
     refine jG ?_
     refine jD ?_
     refine WQ.chunks (C' := [pt b17 [.int .i64 (loP la x i : Int), .int .i64 (loP lb y i : Int)] 276, pt b18 [.int .i64 (hiP la x i : Int), .int .i64 (hiP lb y i : Int)] 276, pt b11 [Value.int .i64 (x : Int), .int .i64 (y : Int)] 276, mkr F1 bm l, mpg enc2 bs (fun q => (f q).map encI)]) (fun w hS => ?_) (WQ.byCut hQ ⟨rfl, rfl, rfl, rfl, rfl, rfl, rfl, rfl, trivial⟩)
     rw [e80.1, e80.2]
     first | exact (jK hS) | exact (jK hS)
    ·have h80n : ¬ (atD lb y).1 = i := by simp at h80; omega
     have e80 : loP lb y i = y ∧ hiP lb y i = y := by unfold loP hiP; rw [if_neg h80n, if_neg h80n]; exact ⟨rfl, rfl⟩
     refine jN 1 ?_
     refine WQ.chunks (C' := [pt b17 [.int .i64 (loP la x i : Int), .int .i64 (loP lb y i : Int)] 276, pt b18 [.int .i64 (hiP la x i : Int), .int .i64 (hiP lb y i : Int)] 276, pt b11 [Value.int .i64 (x : Int), .int .i64 (y : Int)] 276, mkr F1 bm l, mpg enc2 bs (fun q => (f q).map encI)]) (fun w hS => ?_) (WQ.byCut hQ ⟨rfl, rfl, rfl, rfl, rfl, rfl, rfl, rfl, trivial⟩)
     rw [e80.1, e80.2]
     first | exact (jK hS) | exact (jK hS)
   refine jN 6 ?_
   refine WL.indexAddrA (i := 0) F.arT276 rfl rfl rfl (by decide) ?_
   refine jN 3 ?_
   refine WL.indexAddrA (i := 1) F.arT276 rfl rfl rfl (by decide) ?_
   refine jN 4 ?_
   refine WA.chunks (C' := [jns (F1 ++ ([bs] ++ [])) bm bs l f, pt b17 [.int .i64 (loP la x i : Int), .int .i64 (loP lb y i : Int)] 276, pt b18 [.int .i64 (hiP la x i : Int), .int .i64 (hiP lb y i : Int)] 276, pt b11 [Value.int .i64 (x : Int), .int .i64 (y : Int)] 276]) (fun w hS => St.jnsClose (jK hS)) ?_
   refine jN 1 ?_
   refine WL.callC (β := { z : JT // JPost bop la lb l (i + 1) (loP la x i) (loP lb y i) z }) (res := fun z => .int .i64 (z.1.2.2.2 : Int)) (cs := fun z => [jns z.1.1 bm bs z.1.2.1 z.1.2.2.1]) (Cs := [jns (F1 ++ ([bs] ++ [])) bm bs l f]) (C1 := [pt b17 [.int .i64 (loP la x i : Int), .int .i64 (loP lb y i : Int)] 276, pt b18 [.int .i64 (hiP la x i : Int), .int .i64 (hiP lb y i : Int)] 276, pt b11 [Value.int .i64 (x : Int), .int .i64 (y : Int)] 276]) (O' := (F1 ++ ([bs] ++ []))) F.fun159 (fun d h => by cases h; rfl) rfl (List.Perm.refl _) bun_O1 bun_O2 (fun w hS hS2 => hrec (i + 1) (by omega) (by omega) (F1 ++ ([bs] ++ [])) l f (loP la x i) (loP lb y i) w a1 c1 a3 c3 hm hsn (by omega) (hE.next hS) hS2) (fun ⟨z1, hz1⟩ => ?_)
   obtain ⟨G1, l1, f1, p1⟩ := z1
   obtain ⟨j1, j2, j3, j4, j5⟩ := hz1
   dsimp only at j1 j2 j3 j4 j5 ⊢
   refine jN 5 ?_
   refine WC.drawsL (by kernel_rfl) (FactsOk.cons (ds := [13]) (LoadOk.by (Y := fun w => w.cell? ⟨bp, 0, none⟩ = some (pp bm)) (fun w hS => hS.oldc (hE.ce 0 _ rfl) hE.ce')) (FactsOk.cons (ds := [12, 13]) (LoadOk.by (Y := fun w => w.cell? ⟨b18, 0 + 0 * 1, none⟩ = some (.int .i64 (hiP la x i : Int))) (fun w hS => hS.cell (cs := [.int .i64 (hiP la x i : Int), .int .i64 (hiP lb y i : Int)]) jM rfl)) (FactsOk.cons (ds := [12, 13]) (LoadOk.by (Y := fun w => w.cell? ⟨b18, 0 + 1 * 1, none⟩ = some (.int .i64 (hiP lb y i : Int))) (fun w hS => hS.cell (cs := [.int .i64 (hiP la x i : Int), .int .i64 (hiP lb y i : Int)]) jM rfl)) (FactsOk.nil)))) ?_
   refine jT 0 rfl (Yl.move rfl) ?_
   refine jT 1 rfl (Yl.nilCheck rfl) ?_
   refine jT 2 rfl (Yl.fieldAddr0 F.fld246_0 rfl) ?_
   refine jF 3 0 rfl rfl (Yl.load1 F.one79 rfl) ?_
   refine jT 4 rfl (Yl.move rfl) ?_
   refine jT 5 rfl (Yl.move rfl) ?_
   refine jT 6 rfl (Yl.move rfl) ?_
   refine jT 7 rfl (Yl.indexAddrA (i := 0) F.arT276 rfl rfl (by decide)) ?_
   refine jF 8 1 rfl rfl (Yl.load1 F.one3 rfl) ?_
   refine jT 9 rfl (Yl.indexAddrA (i := 1) F.arT276 rfl rfl (by decide)) ?_
   refine jF 10 2 rfl rfl (Yl.load1 F.one3 rfl) ?_
   refine jT 11 rfl (Yl.move rfl) ?_
   refine jA 12 rfl ?_
   refine WL.callC (β := { z : JT // JPost bop la lb l1 (i + 1) (hiP la x i) (hiP lb y i) z }) (res := fun z => .int .i64 (z.1.2.2.2 : Int)) (cs := fun z => [jns z.1.1 bm bs z.1.2.1 z.1.2.2.1]) (Cs := [jns G1 bm bs l1 f1]) (C1 := [pt b17 [.int .i64 (loP la x i : Int), .int .i64 (loP lb y i : Int)] 276, pt b18 [.int .i64 (hiP la x i : Int), .int .i64 (hiP lb y i : Int)] 276, pt b11 [Value.int .i64 (x : Int), .int .i64 (y : Int)] 276]) (O' := G1) F.fun159 (fun d h => by cases h; rfl) rfl (List.Perm.refl _) bun_O1 bun_O2 (fun w hS hS2 => hrec (i + 1) (by omega) (by omega) G1 l1 f1 (hiP la x i) (hiP lb y i) w a2 c2 a4 c4 j1 j5 (by omega) (hE.next hS) hS2) (fun ⟨z2, hz2⟩ => ?_)
   refine WD.on (closed_of (by kernel_rfl)) (fun w hS => Sx.keep (hS.oldc (hE.ce 0 _ rfl) hE.ce') (Sx.gone rfl (Sx.gone rfl (Sx.none)))) ?_
   obtain ⟨G2, l2, f2, p2⟩ := z2
   obtain ⟨k1, k2, k3, k4, k5⟩ := hz2
   dsimp only at k1 k2 k3 k4 k5 ⊢
   refine jA 13 rfl ?_
   refine WA.openB (fun G3 _ _ _ => ?_)
   simp only [jnCs, List.cons_append, List.nil_append]
   refine WL.callC (β := { z : List Nat × List Dec × Nat // MadeN l2 z.2.1 z.2.2 (mkN i (trs l2 p1) (trs l2 p2)) ∧ z.2.1.length ≤ l2.length + 1 }) (res := fun z => .int .i64 (z.1.2.2 : Int)) (cs := fun z => [mkr z.1.1 bm z.1.2.1]) (Cs := [mkr G3 bm l2]) (C1 := [mpg enc2 bs (fun q => (f2 q).map encI), pt b17 [.int .i64 (loP la x i : Int), .int .i64 (loP lb y i : Int)] 276, pt b18 [.int .i64 (hiP la x i : Int), .int .i64 (hiP lb y i : Int)] 276, pt b11 [Value.int .i64 (x : Int), .int .i64 (y : Int)] 276]) (O' := G3) F.fun23 (fun d h => by cases h; rfl) rfl (List.Perm.refl _) bun_O1 bun_O2 (fun w hS hS2 => mnode_c G3 bm l2 i p1 p2 w hi24 k1 (j4.ext k2).lt k4.lt (by omega) hS2) (fun ⟨z3, hz3, hz3l⟩ => ?_)
   refine jG ?_
   obtain ⟨G4, l3, r3⟩ := z3
   dsimp only at hz3 hz3l ⊢
   refine jT 14 rfl (Yl.assign rfl) ?_
   refine jD ?_
   refine jN 2 ?_
   refine WC.drawsL (by kernel_rfl) (FactsOk.cons (ds := [6]) (LoadOk.by (Y := fun w => w.cell? ⟨bp, 5, none⟩ = some (.map (some bs))) (fun w hS => hS.oldc (hE.ce 5 _ rfl) hE.ce')) (FactsOk.cons (ds := [6]) (LoadOk.whole (t := 11) rfl jM) (FactsOk.nil))) ?_
   refine jT 0 rfl (Yl.move rfl) ?_
   refine jT 1 rfl (Yl.nilCheck rfl) ?_
   refine jT 2 rfl (Yl.fieldAddr0 F.fld246_3 rfl) ?_
   refine jF 3 0 rfl rfl (Yl.load1 F.one244 rfl) ?_
   refine jF 4 1 rfl rfl (Yl.loadN F.agg276 rfl rfl) ?_
   refine jT 5 rfl (Yl.move rfl) ?_
   refine jA 6 rfl ?_
   refine WL.mapPutG (f := fun q => (f2 q).map encI) (x, y) undMP keyPair rfl rfl rfl rfl jU ?_
   refine jG ?_
   refine jD ?_
   refine jN 10 ?_
   have hjr := JR.node ha hb hx hy hox hoy hi hi24 j4 k4 k2 hz3
   have hpre : ∃ t, l3 = l ++ t := by (obtain ⟨t1, e1⟩ := j2; obtain ⟨t2, e2⟩ := k2; obtain ⟨t3, e3⟩ := hz3.pre; exact ⟨t1 ++ t2 ++ t3, by rw [e3, e2, e1]; simp⟩)
   refine WQ.ret (rs := [.tmp 8]) rfl (.tmp rfl .nil) (fun w hS => ⟨⟨(G4 ++ ([bs] ++ []), l3, fun q => if q = (x, y) then some r3 else f2 q, r3), ⟨hz3.ismk, hpre, by dsimp only; omega, hjr, (k5.ext hz3.pre).put hjr⟩⟩, rfl, ?_⟩)
   refine St.jnsClose (F1 := G4) ?_
   rw [← pair_map (z := (r3 : Int)) rfl]
   exact (jK hS)
  ·refine WC.drawsL (by kernel_rfl) (FactsOk.cons (ds := []) (LoadOk.by (Y := fun w => w.cell? ⟨bp, 5, none⟩ = some (.map (some bs))) (fun w hS => hS.oldc (hE.ce 5 _ rfl) hE.ce')) (FactsOk.cons (ds := []) (LoadOk.whole (t := 11) rfl jM) (FactsOk.cons (ds := []) (LoadOk.by (Y := fun w => (mpg enc2 bs (fun q => (f q).map encI)).ok w) (fun w hS => hS.ok _ jM)) (FactsOk.nil)))) ?_
   refine jT 0 rfl (Yl.move rfl) ?_
   refine jT 1 rfl (Yl.nilCheck rfl) ?_
   refine jT 2 rfl (Yl.fieldAddr0 F.fld246_3 rfl) ?_
   refine jF 3 0 rfl rfl (Yl.load1 F.one244 rfl) ?_
   refine jF 4 1 rfl rfl (Yl.loadN F.agg276 rfl rfl) ?_
   refine jF 5 2 rfl rfl (Yl.lookupHit (f := fun q => (f q).map encI) (v := encI r) (x, y) undMP keyPair zeroInt rfl rfl rfl (by rw [hf]; rfl)) ?_
   refine jT 6 rfl (Yl.move rfl) ?_
   refine jT 7 rfl (Yl.extract rfl rfl) ?_
   refine jT 8 rfl (Yl.extract rfl rfl) ?_
   refine jT 9 rfl (Yl.assign rfl) ?_
   refine jT 10 rfl (Yl.assign rfl) ?_
   refine jD ?_
   refine jN 18 ?_
   refine WQ.ret (rs := [.tmp 8]) rfl (.tmp rfl .nil) (fun w hS => ⟨⟨(_, l, f, r), ⟨hm, ⟨[], by simp⟩, hpow, hsn x y r hf, hsn⟩⟩, rfl, St.jnsClose (jK hS)⟩)
abbrev DRes (f : Cf → Bool) : Type := { z : BT × Option Addr × Nat // z.1.ok 0 ∧ ∀ c, z.1.ev c = f c }
abbrev DRes.v {f : Cf → Bool} (z : DRes f) : Value := dval z.1.1 z.1.2.1 z.1.2.2
abbrev DRes.ch {f : Cf → Bool} (z : DRes f) : Chunk := dC z.1.2.1 z.1.2.2 z.1.1
def DPost (f : Cf → Bool) (w : World) (e : Ending) (w' : World) : Prop := ∃ z : DRes f, e = .returned z.v ∧ St w [] [z.ch] w'
theorem DRes.rd {f : Cf → Bool} (z : DRes f) {w0 w : World} {O : List Nat} {C : List Chunk} (hS : St w0 O C w) (hm : z.ch ∈ C) : RdD w z.1.1 z.1.2.1 := RdD.of_row z.2.1 (hS.ok _ hm)
theorem jenv_of {w0 w : World} {C : List Chunk} {F : List Nat} {bp bm bs ca cb ra rb : Nat} {la lb l : List Dec} {aa ab : Option Addr} {f : Nat × Nat → Option Nat} {e : TypeId}
  (hS : St w0 [] (jns F bm bs l f :: pt bp [pp bm, .slice aa la.length ca, .int .i64 (ra : Int), .slice ab lb.length cb, .int .i64 (rb : Int), .map (some bs)] e :: C) w) (hra : RdDec w0 la aa) (hrb : RdDec w0 lb ab) : JEnv w F bp bm bs la lb aa ab ca cb ra rb := by
 have hd := (List.pairwise_cons.1 hS.disj).1
 have hnew : ∀ b, b < w0.heap.size → b ∉ F := fun b hb hF => by
  have := (hS.bnd _ (List.mem_cons_self ..) b hF).2 hb
  simp at this
 refine ⟨fun j v hv => hS.cell (List.mem_cons_of_mem _ (List.mem_cons_self ..)) hv, fun hF => hd _ (List.mem_cons_self ..) bp hF rfl, fun j u hu => ?_, fun j u hu => ?_⟩
 ·obtain ⟨b, off, e1, e2⟩ := hra j u hu
  exact ⟨b, off, e1, hS.oldc e2 (by simp), hnew b (World.block_lt_of_cell? w0 _ e2)⟩
 ·obtain ⟨b, off, e1, e2⟩ := hrb j u hu
  exact ⟨b, off, e1, hS.oldc e2 (by simp), hnew b (World.block_lt_of_cell? w0 _ e2)⟩
end Go.Proofs.YtnldjikcnahioaaGreatDoor
namespace Go.Eng
open Go Go.RowKit Go.Proofs.YtnldjikcnahioaaGreatDoor
abbrev FR (l : Nat) : Fence := Fence.wide.inRound l
def isDefer : Op → Bool
 | .defer _ => true
 | _ => false
theorem not_defer {op : Op} (h : isDefer op = false) : ∀ c, op ≠ .defer c := fun c e => by rw [e] at h; cases h
section
variable {P : Program} {ops : Array Oper} {Q : Exit → Act → World → Prop} {n : Nat}
theorem rowsIn_wide {row : String} {args : Array Value} {w : World} {R : Value → World → Prop} (h : Rows P row args w R) : RowsIn Fence.wide n P row args w R := fun c cs _ => by
 obtain ⟨v, w', h1, h2⟩ := h c cs
 exact ⟨v, w', h1, stepsIn_wide.2 h2⟩
theorem upon_in {F : Fence} (hF : F = Fence.wide ∨ ∃ l, F = FR l) {o : Oper} {a : Act} {K : Act → World → Prop} {r : Result Next} (h : o.upon P a K Q r) : o.uponIn F n P a K Q r := by
 have hc : ∀ {m : Nat} {f : FuncId} {args : Array Value} {w : World} {R : Ending → World → Prop}, Calls P f args w R → CallsIn F m P f args w R := fun {m} {f} {args} {w} {R} h => by
  rcases hF with rfl | ⟨l, rfl⟩
  ·exact callsIn_wide.2 h
  ·exact callsIn_wide.2 h
 have hr : ∀ {m : Nat} {row : String} {args : Array Value} {w : World} {R : Value → World → Prop}, Rows P row args w R → RowsIn F m P row args w R := fun {m} {row} {args} {w} {R} h => by
  rcases hF with rfl | ⟨l, rfl⟩
  ·exact rowsIn_wide h
  ·exact rowsIn_wide h
 have hd : F.depth.isSome = true → 1 ≤ n := by
  rcases hF with rfl | ⟨l, rfl⟩ <;> (intro h; cases h)
 cases r with
 | ok x w' =>
  cases x <;> simp only [Oper.upon] at h <;> first
   | exact h
   | exact ⟨hd, hc h⟩
   | exact ⟨hd, hr h⟩
   | exact h.elim
 | halt x w' => cases x <;> first | exact h | exact h.elim
theorem semAt_nd {ρ : Operand → Value} {o : Oper} {ro : Option Nat} (h : isDefer o.op = false) : Oper.semAt ro ρ o = execOp ρ o := Oper.semAt_eq ro ρ o (not_defer h)
theorem fn_in {F : Fence} (hF : F = Fence.wide ∨ ∃ l, F = FR l) (f : FuncId) : F.fn f := by
 rcases hF with rfl | ⟨l, rfl⟩ <;> trivial
theorem oper_in {F : Fence} (hF : F = Fence.wide ∨ ∃ l, F = FR l) {o : Oper} {a : Act} {w : World} {K : Act → World → Prop} (hd : isDefer o.op = false) (h : o.wp P a w K Q) : o.wpIn F n P a w K Q :=
 ⟨fun f _ => fn_in hF f, by rw [semAt_nd hd]; exact upon_in hF h⟩
theorem wpO_in {F : Fence} (hF : F = Fence.wide ∨ ∃ l, F = FR l) {o : Oper} {rest : List Oper} {a : Act} {w : World} (hd : isDefer o.op = false) (hQ : ¬ LetsOut Q) (h : wpO P ops Q o (wpListIn F n P ops Q rest) a w) : wpListIn F n P ops Q (o :: rest) a w := by
 unfold wpO at h
 unfold wpListIn
 split at h
 ·rename_i hw
  rw [if_pos hw]
  rcases h with h | ⟨_, h⟩
  ·exact oper_in hF hd h
  ·exact absurd h hQ
 ·rename_i hw
  rw [if_neg hw]
  exact ⟨fun f _ => fn_in hF f, h⟩
theorem list_in {F : Fence} (hF : F = Fence.wide ∨ ∃ l, F = FR l) (hQ : ¬ LetsOut Q) : ∀ (l : List Oper) (a : Act) (w : World), (l.all fun o => !isDefer o.op) = true → wpList P ops Q l a w → wpListIn F n P ops Q l a w
 | [], _, _, _, h => h
 | o :: rest, a, w, hd, h => by
  simp only [List.all_cons, Bool.and_eq_true, Bool.not_eq_true'] at hd
  unfold wpListIn
  unfold wpList at h
  split at h
  ·rename_i hw
   rw [if_pos hw]
   rcases h with h | ⟨_, h⟩
   ·exact Oper.wpIn_mono (fun a w h => list_in hF hQ rest a w hd.2 h) (oper_in hF hd.1 h)
   ·exact absurd h hQ
  ·rename_i hw
   rw [if_neg hw]
   exact ⟨fun f _ => fn_in hF f, list_in hF hQ rest _ _ hd.2 h⟩
theorem any_in {F : Fence} (hF : F = Fence.wide ∨ ∃ l, F = FR l) (hQ : ¬ LetsOut Q) (hd : (ops.toList.all fun o => !isDefer o.op) = true) : ∀ (fuel : Nat) (listed : Array Bool) (a : Act) (w : World), wpAny P .any ops Q fuel listed a w → wpAnyIn F n P .any ops Q fuel listed a w
 | 0, _, _, _, h => h
 | fuel + 1, listed, a, w, h => ⟨h.1, fun i hi => by
  have h1 := h.2 i hi
  unfold wpOp at h1
  unfold wpOpIn
  split at h1
  ·rename_i ho; simp only [ho]; exact any_in hF hQ hd fuel _ _ _ h1
  ·rename_i o ho
   simp only [ho]
   have hdo : isDefer o.op = false := by
    have := List.all_eq_true.1 hd o (by rw [← Array.getElem?_toList] at ho; exact List.mem_of_getElem? ho)
    simpa using this
   split at h1
   ·rename_i hw
    rw [if_pos hw]
    rcases h1 with h1 | ⟨_, h1⟩
    ·exact Oper.wpIn_mono (fun a w h => any_in hF hQ hd fuel _ a w h) (oper_in hF hdo h1)
    ·exact absurd h1 hQ
   ·rename_i hw
    rw [if_neg hw]
    exact ⟨fun f _ => fn_in hF f, any_in hF hQ hd fuel _ _ _ h1⟩⟩
end
section
variable {P : Program} {w0 : World} {O : List Nat} {ops : Array Oper} {Q : Exit → Act → World → Prop} {N : Nat} {D : List Deferred} {L : FL} {C : List Chunk} {K : Act → World → Prop}
def WI (P : Program) (l : Nat) (w0 : World) (O : List Nat) (c : Code) (Q : Exit → Act → World → Prop) (N : Nat) (D : List Deferred) (L : FL) (C : List Chunk) : Prop :=
 ∀ a w, Fr N D L a → St w0 O C w → c.wpIn (FR l) 0 P Q a w
variable {l : Nat}
theorem WI.seq {x y : Code} (h : WI P l w0 O x (Exit.then (y.wpIn (FR l) 0 P Q) Q) N D L C) : WI P l w0 O (.seq x y) Q N D L C := fun a w hF hS => wpIn_seq (h a w hF hS)
theorem WI.skip (h : WQ w0 O Q .normal N D L C) : WI P l w0 O .skip Q N D L C := fun a w hF hS => wpIn_skip (h a w hF hS)
theorem WI.label {i : Nat} (h : WQ w0 O Q .normal N D L C) : WI P l w0 O (.label i) Q N D L C := fun a w hF hS => wpIn_label (h a w hF hS)
theorem WI.ret (h : WQ w0 O Q .ret N D L C) : WI P l w0 O .ret Q N D L C := fun a w hF hS => wpIn_ret (h a w hF hS)
theorem WI.exit {i : Nat} (h : WQ w0 O Q (.exit i) N D L C) : WI P l w0 O (.exit i) Q N D L C := fun a w hF hS => wpIn_exit (h a w hF hS)
theorem WI.block {i : Nat} {c : Code} (h : WI P l w0 O c (Exit.inBlock i Q) N D L C) : WI P l w0 O (.block i c) Q N D L C := fun a w hF hS => wpIn_block (h a w hF hS)
theorem WI.region {i : Nat} {r : List Oper} (hQ : ¬ LetsOut Q) (hd : (r.all fun o => !isDefer o.op) = true) (h : WA w0 O (wpList P r.toArray Q r) N D L C) : WI P l w0 O (.region i r.toArray false) Q N D L C := fun a w hF hS =>
 wpIn_region_lit (list_in (.inr ⟨l, rfl⟩) hQ r a w hd (h a w hF hS))
theorem WI.cond {c : Operand} {x y : Code} {t : Bool} (hc : ev L c = some (.bool t)) (ht : t = true → WI P l w0 O x Q N D L C) (hf : t = false → WI P l w0 O y Q N D L C) :
  WI P l w0 O (.cond c x y) Q N D L C := fun a w hF hS => wpIn_cond_split (hF.ev hc) (fun h => ht h a w hF hS) (fun h => hf h a w hF hS)
theorem WI.condT {c : Operand} {x y : Code} (hc : ev L c = some (.bool true)) (h : WI P l w0 O x Q N D L C) : WI P l w0 O (.cond c x y) Q N D L C :=
 fun a w hF hS => wpIn_cond_true (hF.ev hc) (h a w hF hS)
theorem WI.condF {c : Operand} {x y : Code} (hc : ev L c = some (.bool false)) (h : WI P l w0 O y Q N D L C) : WI P l w0 O (.cond c x y) Q N D L C :=
 fun a w hF hS => wpIn_cond_false (hF.ev hc) (h a w hF hS)
theorem WI.chunks {c : Code} {C' : List Chunk} (hs : ∀ w, St w0 O C w → St w0 O C' w) (h : WI P l w0 O c Q N D L C') : WI P l w0 O c Q N D L C := fun a w hF hS => h a w hF (hs w hS)
theorem WI.know {c : Code} {φ : Prop} (hs : ∀ w, St w0 O C w → φ) (h : φ → WI P l w0 O c Q N D L C) : WI P l w0 O c Q N D L C := fun a w hF hS => h (hs w hS) a w hF hS
theorem WI.drawsL {id : Nat} {r : List Oper} {Fs : List (List Nat × (World → Prop))} (hQ : ¬ LetsOut Q) (hd : (r.all fun o => !isDefer o.op) = true) (hm : P.follows .mixedOrders = true) (hF : FactsOk w0 O L C Fs)
  (h : WD P w0 O r.toArray Q Fs r.length (Array.replicate r.length false) N D L C) : WI P l w0 O (.region id r.toArray true) Q N D L C := fun a w hFr hS => by
 refine wpIn_region_any hm (any_in (.inr ⟨l, rfl⟩) hQ (by simpa using hd) _ _ _ _ (wpAny_of_T (Fs := Fs) _ _ _ _ ?_))
 have hc : Closed r.toArray (Array.replicate r.length false) := by
  intro j oj _ hl
  rcases Nat.lt_or_ge j r.length with h' | h'
  ·simp [h'] at hl
  ·simp [h'] at hl
 have hS' : St w0 O C { w with drawn := w.drawn + 1 } := ⟨hS.os, hS.tape, hS.output, hS.size, hS.old, fun c hc => c.loc w _ (fun _ _ => rfl) (hS.ok c hc), hS.bnd, hS.disj⟩
 have h1 := h hc a { w with drawn := w.drawn + 1 } hFr hS' (fun f hf _ => hF _ hS' f hf)
 simpa using h1
theorem WIL.nil (h : WQ w0 O Q .normal N D L C) : WA w0 O (wpListIn Fence.wide 0 P ops Q []) N D L C := fun a w hF hS => h a w hF hS
theorem WIL.step {o : Oper} {rest : List Oper} (hQ : ¬ LetsOut Q) (hd : isDefer o.op = false) (h : WK P w0 O ops Q o (wpListIn Fence.wide 0 P ops Q rest) N D L C) : WA w0 O (wpListIn Fence.wide 0 P ops Q (o :: rest)) N D L C := fun a w hF hS =>
 wpO_in (.inl rfl) hd hQ (h a w hF hS)
theorem WIL.guardT {o : Oper} {rest : List Oper} {j : Nat} {g : Bool} {dj : Nat} (hgd : o.guard = some (j, g)) (hj : (ops[j]?).bind (·.dst) = some dj) (hv : lk L dj = some (.bool g))
  (h : WA w0 O (wpListIn Fence.wide 0 P ops Q ({ o with guard := none } :: rest)) N D L C) : WA w0 O (wpListIn Fence.wide 0 P ops Q (o :: rest)) N D L C := fun a w hF hS => by
 have h' := h a w hF hS
 have hw : Region.wanted o (yielded ops a.tmps) = true := by
  have := hF.get dj _ hv
  simp [Region.wanted, hgd, yielded, hj, this]
 unfold wpListIn at h' ⊢
 rw [if_pos hw]
 rw [if_pos (by simp [Region.wanted])] at h'
 exact h'
variable {d : Nat} {ty : TypeId} {pos : String} {af : Array Edge}
theorem WIL.yield {β : Type} {b : Bool} {rest : List Oper} {x : Operand} {xs : List Operand} {tys : Array TypeId} {vs : List Value} {cs : β → List Chunk} {Cs C1 : List Chunk} {O' : List Nat} {φ : β → Prop}
  (hd : Nat.blt d N = true) (hfv : ev L x = some (.func (.yield l) #[] #[])) (hx : evs L xs = some vs) (hp : C.Perm (Cs ++ C1)) (hO1 : ∀ c ∈ Cs, ∀ k, c.fp k → k ∈ O') (hO2 : ∀ k ∈ O', ∃ c ∈ Cs, c.fp k)
  (hc : ∀ w, St w0 O (Cs ++ C1) w → St w O' Cs w → YieldAt Fence.wide 0 P l vs.toArray w fun e w' => e = .returned (.bool b) ∧ ∃ x, φ x ∧ St w O' (cs x) w')
  (h : ∀ x, φ x → WA w0 O (wpListIn Fence.wide 0 P ops Q rest) N D ((d, .bool b) :: L) (cs x ++ C1)) :
  WA w0 O (wpListIn Fence.wide 0 P ops Q (⟨some d, .call { callee := .value x, args := xs.toArray, argTypes := tys }, ty, pos, af, none⟩ :: rest)) N D L C := fun a w hF hS => by
 have ha : xs.toArray.map a.eval = vs.toArray := by apply Array.ext'; simp [hF.evs hx]
 have hS1 := hS.perm hp
 obtain ⟨fn, tmps, assign, body, hy, hR⟩ := hc w hS1 (hS1.focus hO1)
 unfold wpListIn
 rw [if_pos (by simp [Region.wanted])]
 refine ⟨fun f _ => trivial, ?_⟩
 have e1 : (Oper.semAt Fence.wide.round a.eval ⟨some d, .call { callee := .value x, args := xs.toArray, argTypes := tys }, ty, pos, af, none⟩).run P w = .ok (.round l fn tmps assign body) w := by
  rw [semAt_nd rfl]
  simp [execOp, resolve, Deferred.ofValue, hF.ev hfv, invoke, ha, hy]
 rw [e1]
 refine ⟨fun h => (by cases h), hR.mono ?_⟩
 rintro e w' ⟨rfl, y, hφ, hS'⟩
 exact h y hφ _ w' (hF.put d _ hd) (hS1.callC hS' hO2)
end
def ob1 (b : Nat) (o : Obj) : Chunk where
 fp k := k = b
 ok w := w.heap[b]? = some o
 loc w w' h hw := by rw [h b rfl]; exact hw
theorem FpIs.ob1 {b : Nat} {o : Obj} : FpIs (ob1 b o) [b] := fun k => by simp [Eng.ob1]
section
variable {P : Program} {w0 : World} {O : List Nat} {ops : Array Oper} {Q : Exit → Act → World → Prop} {N : Nat} {D : List Deferred} {L : FL} {C : List Chunk} {K : Act → World → Prop}
theorem St.allocO {w : World} (h : St w0 O C w) (o : Obj) : St w0 O (ob1 w.heap.size o :: C) (w.alloc o) := by
 have hh : ∀ k, k < w.heap.size → (w.alloc o).heap[k]? = w.heap[k]? := fun k hk => Below.heap_alloc w _ k hk
 refine ⟨h.os, h.tape, h.output, by have := h.size; simp; omega, fun k hk ho => ?_, ?_, ?_, ?_⟩
 ·rw [hh k (Nat.lt_of_lt_of_le hk h.size)]; exact h.old k hk ho
 ·intro c hc
  rcases List.mem_cons.1 hc with rfl | hc
  ·exact World.alloc_heap_new w o
  ·exact c.loc w _ (fun k hk => hh k (h.bnd c hc k hk).1) (h.ok c hc)
 ·intro c hc k hk
  rcases List.mem_cons.1 hc with rfl | hc
  ·have : k = w.heap.size := hk
   subst this
   exact ⟨by simp, fun hlt => absurd hlt (Nat.not_lt.2 h.size)⟩
  ·exact ⟨by have := (h.bnd c hc k hk).1; simp; omega, (h.bnd c hc k hk).2⟩
 ·refine List.Pairwise.cons (fun c hc k hk hk' => ?_) h.disj
  have : k = w.heap.size := hk
  subst this
  exact Nat.lt_irrefl _ (h.bnd c hc _ hk').1
theorem St.putO {w : World} {b : Nat} {o : Obj} (h : St w0 O (ob1 b o :: C) w) (o' : Obj) : St w0 O (ob1 b o' :: C) (w.putObj b o') := by
 have hb : b < w.heap.size := lt_of_heap (h.ok _ (List.mem_cons_self ..))
 have hbn := h.bnd _ (List.mem_cons_self ..) b rfl
 have hd := List.pairwise_cons.1 h.disj
 refine ⟨h.os, h.tape, h.output, by rw [World.putObj_size]; exact h.size, fun k hk ho => ?_, ?_, ?_, List.Pairwise.cons hd.1 hd.2⟩
 ·rw [World.putObj_heap_other (fun e => by subst e; exact ho (hbn.2 hk))]; exact h.old k hk ho
 ·intro c hc
  rcases List.mem_cons.1 hc with rfl | hc9
  ·exact World.putObj_heap_same hb
  ·exact c.loc w _ (fun k hk => World.putObj_heap_other (fun e => hd.1 c hc9 b rfl (e ▸ hk))) (h.ok c (List.mem_cons_of_mem _ hc9))
 ·intro c hc k hk
  rw [World.putObj_size]
  rcases List.mem_cons.1 hc with rfl | hc
  ·exact h.bnd _ (List.mem_cons_self ..) k hk
  ·exact h.bnd c (List.mem_cons_of_mem _ hc) k hk
def putL : List Nat → List Value → FL → FL
 | p :: ps, v :: vs, L => putL ps vs ((p, v) :: L)
 | _, _, L => L
theorem Fr.putL {Dd : List Deferred} : ∀ (ps : List Nat) (vs : List Value) {L : FL} {t : Array Value}, (ps.all fun p => Nat.blt p N) = true → Fr N Dd L { tmps := t, defers := Dd } →
  Fr N Dd (Eng.putL ps vs L) { tmps := (ps.zip vs).foldl (fun t (q : Nat × Value) => t.setIfInBounds q.1 q.2) t, defers := Dd }
 | [], _, _, _, _, h => by simpa [Eng.putL] using h
 | _ :: _, [], _, _, _, h => by simpa [Eng.putL] using h
 | p :: ps, v :: vs, L, t, hp, h => by
  simp only [List.all_cons, Bool.and_eq_true] at hp
  simp only [Eng.putL, List.zip_cons_cons, List.foldl_cons]
  exact Fr.putL ps vs hp.2 (h.put p v hp.1)
def rdPost (G : Prop → Prop) (w1 : World) (O : List Nat) {σ : Type} (I : σ → Prop) (J : σ → List Chunk) : Exit → Act → World → Prop
 | .normal, _, w => ∃ y, I y ∧ St w1 O (J y) w
 | _, _, _ => False
theorem WQ.round {G : Prop → Prop} {σ : Type} {I : σ → Prop} {J : σ → List Chunk} (y : σ) (hI : I y) (h : ∀ w, St w0 O C w → St w0 O (J y) w) : WQ w0 O (rdPost G w0 O I J) .normal N D L C := fun a w hF hS => ⟨y, hI, h w hS⟩
def beginK (P : Program) (l : Nat) (body : Code) (Q : Exit → Act → World → Prop) (a : Act) (w : World) : Prop := ∃ w2, (Instr.beginRound l).run P w = .ok () w2 ∧ body.wpIn (FR l) 0 P Q a w2
abbrev recOf (fn : FuncId) (t : Array Value) (ps : List Nat) (assign body : Code) (Db : Nat) : Loop := { state := .ready, pending := none, fn, tmps := t, params := ps.toArray, assign, body, defers := Db }
theorem WC.rangeFunc {σ : Type} {g : Operand} {ps : List Nat} {assign body : Code} {gf : FuncId} {cap : List Value} {C1 : List Chunk} {n : Nat} (encs : Nat → List Value) (I : Nat → σ → Prop) (J : σ → List Chunk) (G : σ → List Nat) (y0 : σ)
  (hJ : ∀ y, FpL (J y) (G y)) (hI0 : I 0 y0) (hg : ev L g = some (.func (.func gf) #[] cap.toArray)) (hf : funB P gf = some true) (hps : ∀ k, (encs k).length = ps.length) (hpN : (ps.all fun p => Nat.blt p N) = true) (hp : C.Perm (J y0 ++ C1))
  (hc : ∀ (l : Nat) (ch : σ → Chunk) (w : World), w0.heap.size ≤ l → St w0 O (J y0 ++ C1) w → (∀ y, FpIs (ch y) (l :: G y)) → (∀ c ∈ J y0 ++ C1, ∀ k, c.fp k → k ≠ l) → St w (l :: G y0) [ch y0] w →
   (∀ k y w1, k < n → I k y → St w (l :: G y0) [ch y] w1 → YieldAt Fence.wide 0 P l (encs k).toArray w1 fun e w' => e = .returned (.bool true) ∧ ∃ y', I (k + 1) y' ∧ St w1 (l :: G y) [ch y'] w') →
   Calls P gf (Value.func (.yield l) #[] #[] :: cap).toArray w fun e w' => ∃ y, (∃ v, e = .returned v) ∧ I n y ∧ St w (l :: G y0) [ch y] w')
  (hround : ∀ (l : Nat) (r : Loop) k y w1, k < n → I k y → r.state = .ready → w0.heap.size ≤ l → St w0 O (J y ++ C1) w1 →
   WI P l w1 (l :: G y) assign (Exit.then (beginK P l body (rdPost (fun p => p) w1 (l :: G y) (I (k + 1)) (fun y => ob1 l (.loop { r with state := .busy }) :: J y))) (fun _ _ _ => False)) N [] (putL ps (encs k) L) (ob1 l (.loop r) :: J y))
  (hdone : ∀ Db y, I n y → WQ w0 O Q .normal N ({ target := .collected Db, args := #[] } :: D) L (ob1 Db (.deferred (some [])) :: J y ++ C1)) :
  WC P w0 O (.rangeFunc g ps.toArray assign body) Q N D L C := fun a w hFr hS0 => by
 have hS := hS0.perm hp
 refine (wpIn_wide (n := 1)).1 (wpIn_rangeFunc ?_)
 intro fn _
 show ∃ l mark w₁ d w₁' f args w₂, (Instr.enterLoop fn a.tmps ps.toArray assign body none).run P w = _ ∧ _
 obtain ⟨W1, hW1⟩ : ∃ W1, (w.alloc (.deferred (some []))).alloc (.loop (recOf fn a.tmps ps assign body w.heap.size)) = W1 := ⟨_, rfl⟩
 have hSd := (hS.allocO (.deferred (some []))).allocO (.loop (recOf fn a.tmps ps assign body w.heap.size))
 rw [hW1, World.size_alloc] at hSd
 have hlsz : w0.heap.size ≤ w.heap.size + 1 := Nat.le_succ_of_le hS.size
 refine ⟨w.heap.size + 1, [{ target := .collected w.heap.size, args := #[] }], W1, { target := .fn (.func gf) cap.toArray, args := #[.func (.yield (w.heap.size + 1)) #[] #[]] }, W1, gf,
  #[.func (.yield (w.heap.size + 1)) #[] #[]] ++ cap.toArray, W1, ?_, ?_, ?_, ?_, fun h => (by cases h), ?_⟩
 ·rw [← hW1]; exact run_enterLoop_outer _ _ _ _ _
 ·simp only [resolve, hFr.ev hg]
  simp [go_sem]
 ·intro f' _; trivial
 ·simp [invoke, go_sem, run_callFunc hf]
 obtain ⟨Db, hD⟩ : ∃ Db, w.heap.size = Db := ⟨_, rfl⟩
 obtain ⟨l, hl⟩ : ∃ l, Db + 1 = l := ⟨_, rfl⟩
 rw [hD] at hSd hlsz ⊢
 rw [hl] at hSd hlsz ⊢
 have hch : ∀ y, FpIs (bun (l :: G y) (fun _ : Unit => ob1 l (.loop (recOf fn a.tmps ps assign body Db)) :: J y) (fun _ => True)) (l :: G y) := fun y k => Iff.rfl
 have hclose : ∀ (y : σ) {v : World} {O1 : List Nat} {C2 : List Chunk} {wb : World}, St wb O1 (ob1 l (.loop (recOf fn a.tmps ps assign body Db)) :: J y ++ C2) v → St wb O1 (bun (l :: G y) (fun _ : Unit => ob1 l (.loop (recOf fn a.tmps ps assign body Db)) :: J y) (fun _ => True) :: C2) v := fun y {v} {O1} {C2} {wb} h =>
  St.bunClose' (Cs := fun _ : Unit => ob1 l (.loop (recOf fn a.tmps ps assign body Db)) :: J y) () trivial (.cons FpIs.ob1 (hJ y)) h
 -- the world in which the iterator is called
 have hSP : St w0 O (ob1 l (.loop (recOf fn a.tmps ps assign body Db)) :: J y0 ++ (ob1 Db (.deferred (some [])) :: C1)) W1 := hSd.perm (.cons _ (List.perm_middle.symm))
 have hfoc : St W1 (l :: G y0) [bun (l :: G y0) (fun _ : Unit => ob1 l (.loop (recOf fn a.tmps ps assign body Db)) :: J y0) (fun _ => True)] W1 :=
  (hclose y0 hSP).focus (Cs := [_]) (C1 := ob1 Db (.deferred (some [])) :: C1) (fun c hc k hk => by rw [List.mem_singleton.1 hc] at hk; exact hk)
 have hJC : St w0 O (J y0 ++ C1) W1 := hSP.sublist (List.Sublist.cons _ ((List.Sublist.refl _).append (List.sublist_cons_self ..)))
 have hdis : ∀ c ∈ J y0 ++ C1, ∀ k, c.fp k → k ≠ l := fun c hc k hk e => by
  have h1 := (hS.bnd c hc k hk).1
  subst e; omega
 refine (callsIn_wide (n := 0)).2 ?_
 have hargs : #[Value.func (.yield l) #[] #[]] ++ cap.toArray = (Value.func (.yield l) #[] #[] :: cap).toArray := by simp
 rw [hargs]
 refine (hc l (fun y => bun (l :: G y) (fun _ : Unit => ob1 l (.loop (recOf fn a.tmps ps assign body Db)) :: J y) (fun _ => True)) W1 hlsz hJC hch hdis hfoc ?_).mono ?_
 ·-- one round
  intro k y w1 hk hI hSy
  obtain ⟨_, _, _, _, hSo⟩ := hSy.bunOpen
  have hlr := hSo.ok _ (List.mem_cons_self ..)
  have hS1 : St w1 (l :: G y) (ob1 l (.loop (recOf fn a.tmps ps assign body Db)) :: J y) w1 := by
   have h9 : St W1 (l :: G y0) ((ob1 l (.loop (recOf fn a.tmps ps assign body Db)) :: J y) ++ []) w1 := hSo
   exact h9.focus (FpL.one (.cons FpIs.ob1 (hJ y)))
  have hglob : St w0 O (J y ++ C1) w1 := by
   have h8 : St w0 O ([bun (l :: G y0) (fun _ : Unit => ob1 l (.loop (recOf fn a.tmps ps assign body Db)) :: J y0) (fun _ => True)] ++ (ob1 Db (.deferred (some [])) :: C1)) W1 := hclose y0 hSP
   have h9 := h8.callC hSy (fun k hk => ⟨_, List.mem_singleton.2 rfl, hk⟩)
   obtain ⟨_, _, _, _, h7⟩ := (show St w0 O (bun (l :: G y) (fun _ : Unit => ob1 l (.loop (recOf fn a.tmps ps assign body Db)) :: J y) (fun _ => True) :: (ob1 Db (.deferred (some [])) :: C1)) w1 from h9).bunOpen
   exact (show St w0 O (ob1 l (.loop (recOf fn a.tmps ps assign body Db)) :: (J y ++ (ob1 Db (.deferred (some [])) :: C1))) w1 from h7).sublist (List.Sublist.cons _ ((List.Sublist.refl _).append (List.sublist_cons_self ..)))
  have hy := run_yield (P := P) (args := (encs k).toArray) hlr (by simp [hps k])
  refine ⟨_, _, _, _, hy, ?_⟩
  have hfr : Fr N [] (putL ps (encs k) L) { tmps := ((recOf fn a.tmps ps assign body Db).params.zip (encs k).toArray).foldl (fun t (q : Tmp × Value) => t.setIfInBounds q.1 q.2) (recOf fn a.tmps ps assign body Db).tmps, defers := [] } := by
   have h1 : Fr N [] L { tmps := a.tmps, defers := [] } := ⟨rfl, hFr.size, hFr.get⟩
   have h2 := Fr.putL ps (encs k) hpN h1
   simpa using h2
  have hw := hround l (recOf fn a.tmps ps assign body Db) k y w1 hk hI rfl hlsz hglob _ w1 hfr hS1
  refine roundIn_of_wpIn (F := Fence.wide) trivial (wpIn_mono hw ?_)
  intro e a1 w2 h
  cases e with
  | normal =>
   obtain ⟨w3, hb, hbody⟩ := h
   refine ⟨w3, hb, wpIn_mono hbody ?_⟩
   intro e2 a2 w4 h4
   cases e2 with
   | normal =>
    obtain ⟨y', hI', hS'⟩ := h4
    have hl4 := hS'.ok _ (List.mem_cons_self ..)
    refine ⟨_, _, run_endRound none hl4, rfl, y', hI', ?_⟩
    have h5 := hS'.putO (.loop { (recOf fn a.tmps ps assign body Db) with state := .ready, pending := none })
    have h6 : St w1 (l :: G y) (ob1 l (.loop (recOf fn a.tmps ps assign body Db)) :: J y' ++ []) (w4.putObj l (.loop { (recOf fn a.tmps ps assign body Db) with state := .ready, pending := none })) := by
     rw [List.append_nil]
     exact h5
    exact hclose y' h6
   | _ => exact h4.elim
  | _ => exact h.elim
 ·-- behind the iterator
  rintro e W2 ⟨y, ⟨v, rfl⟩, hIn, hS2⟩
  have h8 : St w0 O ([bun (l :: G y0) (fun _ : Unit => ob1 l (.loop (recOf fn a.tmps ps assign body Db)) :: J y0) (fun _ => True)] ++ (ob1 Db (.deferred (some [])) :: C1)) W1 := hclose y0 hSP
  have h9 := h8.callC hS2 (fun k hk => ⟨_, List.mem_singleton.2 rfl, hk⟩)
  obtain ⟨_, _, _, _, h7⟩ := (show St w0 O (bun (l :: G y) (fun _ : Unit => ob1 l (.loop (recOf fn a.tmps ps assign body Db)) :: J y) (fun _ => True) :: (ob1 Db (.deferred (some [])) :: C1)) W2 from h9).bunOpen
  have hl7 := h7.ok _ (List.mem_cons_self ..)
  refine ⟨none, _, run_endLoop hl7 (by simp), ?_⟩
  have h6 := (show St w0 O (ob1 l (.loop (recOf fn a.tmps ps assign body Db)) :: (J y ++ (ob1 Db (.deferred (some [])) :: C1))) W2 from h7).putO (.loop { (recOf fn a.tmps ps assign body Db) with state := .exhausted })
  refine hdone Db y hIn _ _ ⟨?_, hFr.size, hFr.get⟩ ((h6.sublist (List.sublist_cons_self ..)).perm List.perm_middle)
  show [_] ++ a.defers = _
  rw [hFr.defers]; rfl
def bodyPostR (P : Program) (fn : Func) (R : Ending → World → Prop) : Exit → Act → World → Prop
 | .normal, a, w | .ret, a, w => LeavesInM Fence.wide 0 P fn a.tmps R a.defers .returning w
 | _, _, _ => False
end
end Go.Eng
namespace Go.Proofs.YtnldjikcnahioaaGreatDoor
open Go Go.Eng Go.Proofs Dg
abbrev DV := BT × Option Addr × Nat
def RdIn (w : World) (x : DV) (F : List Nat) : Prop := x.1.ok 0 ∧ ∀ (j : Nat) (u : Value), (decs (canon x.1).1)[j]? = some u → ∃ b off, x.2.1 = some ⟨b, off, none⟩ ∧ w.cell? ⟨b, off + j, none⟩ = some u ∧ b ∈ F
def dsC (F : List Nat) (l : List DV) : Chunk where
 fp k := k ∈ F
 ok w := ∀ x ∈ l, RdIn w x F
 loc w w' h hw := fun x hx => ⟨(hw x hx).1, fun j u hu => by
  obtain ⟨b, off, e1, e2, e3⟩ := (hw x hx).2 j u hu
  exact ⟨b, off, e1, by rw [World.cell?_of_block (h b e3)]; exact e2, e3⟩⟩
theorem FpIs.dsC {F : List Nat} {l : List DV} : FpIs (dsC F l) F := fun k => Iff.rfl
abbrev dcs (l : List DV) : List Value := l.flatMap fun x => [.slice x.2.1 (canon x.1).1.length x.2.2, .int .i64 ((canon x.1).2 : Int)]
section
variable {w0 : World} {O : List Nat} {C : List Chunk}
end
open Go Go.Eng Go.Proofs Dg
abbrev TK := Nat × Nat × List UInt8
def PthIn (w : World) (i : Nat) (x : TK) (F : List Nat) : Prop := w.cell? ⟨x.1, 0, none⟩ = some (.int .i64 (i : Int)) ∧ x.1 ∈ F
def tksC (F : List Nat) (l : List TK) : Chunk where
 fp k := k ∈ F
 ok w := ∀ i x, l[i]? = some x → PthIn w i x F
 loc w w' h hw := fun i x hx => ⟨by rw [World.cell?_of_block (h x.1 (hw i x hx).2)]; exact (hw i x hx).1, (hw i x hx).2⟩
theorem FpIs.tksC {F : List Nat} {l : List TK} : FpIs (tksC F l) F := fun k => Iff.rfl
abbrev tkv (tl : List Value) (l : List TK) : List Value := l.flatMap fun x => [.int .u8 (x.2.1 : Int), .string (str x.2.2), .slice (some ⟨x.1, 0, none⟩) 1 1, .int .i64 0, .int .i64 0] ++ tl
theorem tkv_append (tl : List Value) (l m : List TK) : tkv tl (l ++ m) = tkv tl l ++ tkv tl m := by simp [tkv]
theorem tkv_at {tl : List Value} : ∀ {l : List TK} {k : Nat} {x : TK}, l[k]? = some x → ∀ j u, ([.int .u8 (x.2.1 : Int), .string (str x.2.2), .slice (some ⟨x.1, 0, none⟩) 1 1, .int .i64 0, .int .i64 0] ++ tl)[j]? = some u → (tkv tl l)[k * (5 + tl.length) + j]? = some u
 | [], k, x, h, _, _, _ => by simp at h
 | y :: l, 0, x, h, j, u, hu => by
  simp at h; subst h
  have hj := (List.getElem?_eq_some_iff.1 hu).1
  simp only [tkv, List.flatMap_cons, Nat.zero_mul, Nat.zero_add]
  rw [List.getElem?_append_left hj]
  exact hu
 | y :: l, k + 1, x, h, j, u, hu => by
  have ih := tkv_at (tl := tl) (l := l) (k := k) (by simpa using h) j u hu
  simp only [tkv, List.flatMap_cons] at ih ⊢
  rw [List.getElem?_append_right (by simp only [List.length_append, List.length_cons, List.length_nil]; rw [Nat.succ_mul]; omega)]
  rw [show (k + 1) * (5 + tl.length) + j - ([Value.int .u8 (y.2.1 : Int), .string (str y.2.2), .slice (some ⟨y.1, 0, none⟩) 1 1, .int .i64 0, .int .i64 0] ++ tl).length = k * (5 + tl.length) + j by
   simp only [List.length_append, List.length_cons, List.length_nil]; rw [Nat.succ_mul]; omega]
  exact ih
section
variable {w0 : World} {O : List Nat} {C : List Chunk}
theorem _root_.Go.Eng.St.tkNil {w : World} (h : St w0 O C w) : St w0 O (tksC [] [] :: C) w :=
 ⟨h.os, h.tape, h.output, h.size, h.old, fun c hc => by
  rcases List.mem_cons.1 hc with rfl | hc
  ·intro i x hx; simp at hx
  ·exact h.ok c hc, fun c hc k hk => by
  rcases List.mem_cons.1 hc with rfl | hc
  ·cases hk
  ·exact h.bnd c hc k hk, List.Pairwise.cons (fun _ _ _ hk => by cases hk) h.disj⟩
theorem _root_.Go.Eng.St.tkSnoc {w : World} {F : List Nat} {l : List TK} {b k : Nat} {t : List UInt8} {e : TypeId} (h : St w0 O (tksC F l :: pt b [.int .i64 (l.length : Int)] e :: C) w) : St w0 O (tksC (F ++ [b]) (l ++ [(b, k, t)]) :: C) w := by
 refine h.join (fun j hj => ?_) (fun hc hd _ => ?_)
 ·have hj' : j ∈ F ++ [b] := hj
  rcases List.mem_append.1 hj' with hj' | hj'
  ·exact .inl hj'
  ·exact .inr (show j = b by simpa using hj')
 ·intro i x hx
  by_cases hi : i < l.length
  ·rw [List.getElem?_append_left hi] at hx
   obtain ⟨h1, h2⟩ := hc i x hx
   exact ⟨h1, List.mem_append_left _ h2⟩
  ·rw [List.getElem?_append_right (by omega)] at hx
   obtain ⟨n, hn⟩ : ∃ n, i - l.length = n := ⟨_, rfl⟩
   rw [hn] at hx
   cases n with
   | succ n => simp at hx
   | zero =>
    simp at hx
    subst hx
    have : i = l.length := by omega
    subst this
    have hd' : w.heap[b]? = some (.cells [Value.int .i64 (l.length : Int)].toArray e (0, 0)) := hd
    exact ⟨cell_of_heap hd' rfl, by simp⟩
end
open Go Go.Eng Go.Proofs Dg
theorem dwith_c (g : Nat) (bop : Bool → Bool → Bool) (opf : Nat → Nat → Nat × Bool) (hop : OpOk g bop opf) (s t : BT) (aa ab : Option Addr) (ca cb : Nat) (w : World) (hs : RdD w s aa) (ht : RdD w t ab) :
  Calls Tryz.prog 121 [dval s aa ca, dval t ab cb, Value.func (.func g) [].toArray [].toArray].toArray w (DPost (fun c => bop (s.ev c) (t.ev c)) w) := by
 refine enter Tryz.func121 rfl Tryz.ntmps121 rfl (St.init _) ?_
 refine jN 3 ?_
 refine WL.boxN rfl rfl (fun b3 => ?_)
 refine jN 1 ?_
 refine WL.boxN rfl rfl (fun b4 => ?_)
 refine jN 1 ?_
 refine WL.alloc F.zero33 rfl (fun b6 => ?_)
 refine jN 3 ?_
 refine WC.cutPE (α := Nat × Nat × Nat × List Nat) (fun x => [(7, pp x.1), (2, Value.func (.func g) [].toArray [].toArray), (3, pp b3), (4, pp b4), (6, pp b6)]) (fun x => [pt x.1 [pp x.2.1, .slice aa (canon s).1.length ca, .int .i64 ((canon s).2 : Int), .slice ab (canon t).1.length cb, .int .i64 ((canon t).2 : Int), .map (some x.2.2.1)] 246, mkr x.2.2.2 x.2.1 [], mpg enc2 x.2.2.1 (fun _ => none), pt b3 [.slice aa (canon s).1.length ca, .int .i64 ((canon s).2 : Int)] 33, pt b4 [.slice ab (canon t).1.length cb, .int .i64 ((canon t).2 : Int)] 33, pt b6 [.slice none 0 0, .int .i64 0] 33]) (fun c a d v w h => by cases d <;> exact h) (fun Q' hP hQ => ?_) (fun xE => ?_)
 ·refine WC.drawsL (by kernel_rfl) (FactsOk.cons (ds := [5]) (LoadOk.whole (t := 3) rfl jM) (FactsOk.cons (ds := [5]) (LoadOk.whole (t := 4) rfl jM) (FactsOk.nil))) ?_
  refine jF 1 0 rfl rfl (Yl.loadN F.agg33 rfl rfl) ?_
  refine jF 2 1 rfl rfl (Yl.loadN F.agg33 rfl rfl) ?_
  refine WD.two (i := 0) (j := 3) (by kernel_rfl) rfl rfl ?_ ?_
  ·refine WL.call0 (β := List Nat × Nat) (res := fun x => .returned (pp x.2)) (cs := fun x => [mkr x.1 x.2 []]) (ψ := fun _ => True) F.fun22 (fun d h => by cases h; rfl) rfl (fun w hS => (newMaker_c w).mono (fun e w2 ⟨x, h1, h2⟩ => ⟨x, trivial, h1, h2⟩)) (fun x8 _ => ?_)
   refine WD.on (closed_of (by kernel_rfl)) (fun w hS => Sx.keep ((fun j v hv => by rw [Nat.zero_add]; exact hS.cell jM hv)) (Sx.keep ((fun j v hv => by rw [Nat.zero_add]; exact hS.cell jM hv)) (Sx.none))) ?_
   refine jA 3 rfl ?_
   refine WL.makeMapG enc2 rfl (fun b11 => ?_)
   refine WD.on (closed_of (by kernel_rfl)) (fun w hS => Sx.keep ((fun j v hv => by rw [Nat.zero_add]; exact hS.cell jM hv)) (Sx.keep ((fun j v hv => by rw [Nat.zero_add]; exact hS.cell jM hv)) (Sx.none))) ?_
   refine jT 4 rfl (Yl.build F.stT246 rfl jB) ?_
   refine jA 5 rfl ?_
   refine WL.boxN rfl rfl (fun b13 => ?_)
   refine jG ?_
   refine jT 6 rfl (Yl.assign rfl) ?_
   refine jD ?_
   refine WQ.chunks (C' := [pt b13 [pp x8.2, .slice aa (canon s).1.length ca, .int .i64 ((canon s).2 : Int), .slice ab (canon t).1.length cb, .int .i64 ((canon t).2 : Int), .map (some b11)] 246, mkr x8.1 x8.2 [], mpg enc2 b11 (fun _ => none), pt b3 [.slice aa (canon s).1.length ca, .int .i64 ((canon s).2 : Int)] 33, pt b4 [.slice ab (canon t).1.length cb, .int .i64 ((canon t).2 : Int)] 33, pt b6 [.slice none 0 0, .int .i64 0] 33]) (fun w hS => (jK hS)) ?_
   exact WQ.byCut (hQ (b13, x8.2, b11, x8.1)) ⟨rfl, rfl, rfl, rfl, rfl, trivial⟩
  ·refine WL.makeMapG enc2 rfl (fun b11 => ?_)
   refine WD.on (closed_of (by kernel_rfl)) (fun w hS => Sx.keep ((fun j v hv => by rw [Nat.zero_add]; exact hS.cell jM hv)) (Sx.keep ((fun j v hv => by rw [Nat.zero_add]; exact hS.cell jM hv)) (Sx.none))) ?_
   refine jA 0 rfl ?_
   refine WL.call0 (β := List Nat × Nat) (res := fun x => .returned (pp x.2)) (cs := fun x => [mkr x.1 x.2 []]) (ψ := fun _ => True) F.fun22 (fun d h => by cases h; rfl) rfl (fun w hS => (newMaker_c w).mono (fun e w2 ⟨x, h1, h2⟩ => ⟨x, trivial, h1, h2⟩)) (fun x8 _ => ?_)
   refine WD.on (closed_of (by kernel_rfl)) (fun w hS => Sx.keep ((fun j v hv => by rw [Nat.zero_add]; exact hS.cell jM hv)) (Sx.keep ((fun j v hv => by rw [Nat.zero_add]; exact hS.cell jM hv)) (Sx.none))) ?_
   refine jT 4 rfl (Yl.build F.stT246 rfl jB) ?_
   refine jA 5 rfl ?_
   refine WL.boxN rfl rfl (fun b13 => ?_)
   refine jG ?_
   refine jT 6 rfl (Yl.assign rfl) ?_
   refine jD ?_
   refine WQ.chunks (C' := [pt b13 [pp x8.2, .slice aa (canon s).1.length ca, .int .i64 ((canon s).2 : Int), .slice ab (canon t).1.length cb, .int .i64 ((canon t).2 : Int), .map (some b11)] 246, mkr x8.1 x8.2 [], mpg enc2 b11 (fun _ => none), pt b3 [.slice aa (canon s).1.length ca, .int .i64 ((canon s).2 : Int)] 33, pt b4 [.slice ab (canon t).1.length cb, .int .i64 ((canon t).2 : Int)] 33, pt b6 [.slice none 0 0, .int .i64 0] 33]) (fun w hS => (jK hS)) ?_
   exact WQ.byCut (hQ (b13, x8.2, b11, x8.1)) ⟨rfl, rfl, rfl, rfl, rfl, trivial⟩
 obtain ⟨bp, bm, bs, F1⟩ := xE
 show WQ _ _ _ _ _ _ [(7, pp bp), (2, Value.func (.func g) [].toArray [].toArray), (3, pp b3), (4, pp b4), (6, pp b6)] [pt bp [pp bm, .slice aa (canon s).1.length ca, .int .i64 ((canon s).2 : Int), .slice ab (canon t).1.length cb, .int .i64 ((canon t).2 : Int), .map (some bs)] 246, mkr F1 bm [], mpg enc2 bs (fun _ => none), pt b3 [.slice aa (canon s).1.length ca, .int .i64 ((canon s).2 : Int)] 33, pt b4 [.slice ab (canon t).1.length cb, .int .i64 ((canon t).2 : Int)] 33, pt b6 [.slice none 0 0, .int .i64 0] 33]
 refine jN 2 ?_
 refine WC.chunks (C' := [jns (F1 ++ ([bs] ++ [])) bm bs [] (fun _ => none), pt bp [pp bm, .slice aa (canon s).1.length ca, .int .i64 ((canon s).2 : Int), .slice ab (canon t).1.length cb, .int .i64 ((canon t).2 : Int), .map (some bs)] 246, pt b3 [.slice aa (canon s).1.length ca, .int .i64 ((canon s).2 : Int)] 33, pt b4 [.slice ab (canon t).1.length cb, .int .i64 ((canon t).2 : Int)] 33, pt b6 [.slice none 0 0, .int .i64 0] 33]) (fun w hS => St.jnsClose (f := fun _ => none) (jK hS)) ?_
 ·refine WC.drawsL (by kernel_rfl) (FactsOk.cons (ds := [11, 12]) (LoadOk.one (t := 7) (off := 0) rfl jM rfl) (FactsOk.cons (ds := [10, 11, 12]) (LoadOk.one (t := 3) (off := 1) rfl jM rfl) (FactsOk.cons (ds := [10, 11, 12]) (LoadOk.one (t := 4) (off := 1) rfl jM rfl) (FactsOk.nil)))) ?_
  refine jT 0 rfl (Yl.move rfl) ?_
  refine jT 1 rfl (Yl.nilCheck rfl) ?_
  refine jT 2 rfl (Yl.fieldAddr0 F.fld246_0 rfl) ?_
  refine jF 3 0 rfl rfl (Yl.load1 F.one79 rfl) ?_
  refine jT 4 rfl (Yl.move rfl) ?_
  refine jT 5 rfl (Yl.fieldAddr0 F.fld33_1 rfl) ?_
  refine jF 6 1 rfl rfl (Yl.load1 F.one3 rfl) ?_
  refine jT 7 rfl (Yl.fieldAddr0 F.fld33_1 rfl) ?_
  refine jF 8 2 rfl rfl (Yl.load1 F.one3 rfl) ?_
  refine jT 9 rfl (Yl.move rfl) ?_
  refine jA 10 rfl ?_
  refine WL.callC (β := { z : JT // JPost bop (canon s).1 (canon t).1 [] 0 (canon s).2 (canon t).2 z }) (res := fun z => .int .i64 (z.1.2.2.2 : Int)) (cs := fun z => [jns z.1.1 bm bs z.1.2.1 z.1.2.2.1]) (Cs := [jns (F1 ++ ([bs] ++ [])) bm bs [] (fun _ => none)]) (C1 := [pt bp [pp bm, .slice aa (canon s).1.length ca, .int .i64 ((canon s).2 : Int), .slice ab (canon t).1.length cb, .int .i64 ((canon t).2 : Int), .map (some bs)] 246, pt b3 [.slice aa (canon s).1.length ca, .int .i64 ((canon s).2 : Int)] 33, pt b4 [.slice ab (canon t).1.length cb, .int .i64 ((canon t).2 : Int)] 33, pt b6 [.slice none 0 0, .int .i64 0] 33]) (O' := (F1 ++ ([bs] ++ []))) F.fun159 (fun d h => by cases h; rfl) rfl (List.Perm.refl _) bun_O1 bun_O2 (fun w hS hS2 => join_c g bop opf hop bp bm bs (canon s).1 (canon t).1 aa ab ca cb (canon s).2 (canon t).2 (canon_mk hs.1) (canon_mk ht.1) (Nat.le_of_lt (canon_len hs.1)) (Nat.le_of_lt (canon_len ht.1)) 25 0 (by omega) (by omega) (F1 ++ ([bs] ++ [])) [] (fun _ => none) (canon s).2 (canon t).2 w (canon_at s).1 (canon_at t).1 (by rw [(canon_at s).2]; exact hs.1) (by rw [(canon_at t).2]; exact ht.1) Mk.nil (fun _ _ _ h => by cases h) (by decide) (jenv_of hS hs.2 ht.2) hS2) (fun ⟨z1, hz1⟩ => ?_)
  refine WD.on (closed_of (by kernel_rfl)) (fun w hS => Sx.keep (hS.cell jM rfl) (Sx.gone rfl (Sx.gone rfl (Sx.none)))) ?_
  refine jA 11 rfl ?_
  obtain ⟨G1, l1, f1, r1⟩ := z1
  obtain ⟨j1, j2, j3, j4, j5⟩ := hz1
  dsimp only at j1 j2 j3 j4 j5 ⊢
  rw [(canon_at s).2, (canon_at t).2] at j4
  have hl1 : l1.length ≤ 16777216 := by
   have e : 2 ^ (24 - 0) = 16777216 := by decide
   simp only [List.length_nil] at j3
   omega
  refine WA.openB (fun G3 _ _ _ => ?_)
  simp only [jnCs, List.cons_append, List.nil_append]
  refine WL.callC (β := Option Addr × Nat) (res := fun z => dval (trs l1 r1) z.1 z.2) (cs := fun z => [dC z.1 z.2 (trs l1 r1)]) (Cs := [mkr G3 bm l1]) (C1 := [mpg enc2 bs (fun q => (f1 q).map encI), pt bp [pp bm, .slice aa (canon s).1.length ca, .int .i64 ((canon s).2 : Int), .slice ab (canon t).1.length cb, .int .i64 ((canon t).2 : Int), .map (some bs)] 246, pt b3 [.slice aa (canon s).1.length ca, .int .i64 ((canon s).2 : Int)] 33, pt b4 [.slice ab (canon t).1.length cb, .int .i64 ((canon t).2 : Int)] 33, pt b6 [.slice none 0 0, .int .i64 0] 33]) (O' := G3) F.fun24 (fun d h => by cases h; rfl) rfl (List.Perm.refl _) bun_O1 bun_O2 (fun w hS hS2 => done_c G3 bm l1 r1 w j1 j4.lt (j4.ok 0 hs.1 ht.1) hl1 hS2) (fun z3 => ?_)
  refine jG ?_
  refine jA 12 rfl ?_
  refine WL.storeN F.agg33 rfl rfl rfl jO jU jS ?_
  refine jG ?_
  refine jD ?_
  refine jN 2 ?_
  refine WQ.ret (rs := [.cell 6 33]) rfl (.cellN F.agg33 rfl jM rfl .nil) (fun w hS => ⟨⟨(trs l1 r1, z3), j4.ok 0 hs.1 ht.1, j4.ev⟩, rfl, (jK hS)⟩)
theorem And_c (s t : BT) (aa ab : Option Addr) (ca cb : Nat) (w : World) (hs : RdD w s aa) (ht : RdD w t ab) :
  Calls Tryz.prog 82 [dval s aa ca, dval t ab cb].toArray w (DPost (fun c => (fun p q : Bool => p && q) (s.ev c) (t.ev c)) w) := by
 refine enter Tryz.func82 rfl Tryz.ntmps82 rfl (St.init _) ?_
 refine jN 3 ?_
 refine WL.boxN rfl rfl (fun b2 => ?_)
 refine jN 1 ?_
 refine WL.boxN rfl rfl (fun b3 => ?_)
 refine jN 1 ?_
 refine WL.alloc F.zero33 rfl (fun b4 => ?_)
 refine jN 9 ?_
 refine WL.call0 (β := DRes (fun c => (fun p q : Bool => p && q) (s.ev c) (t.ev c))) (res := fun z => .returned z.v) (cs := fun z => [z.ch]) (ψ := fun _ => True) F.fun121 (fun d h => by cases h; rfl) rfl (fun w hS => (dwith_c _ _ _ both_ok s t aa ab ca cb w (hs.next0 hS) (ht.next0 hS)).mono (fun e w2 ⟨x, h1, h2⟩ => ⟨x, trivial, h1, h2⟩)) (fun z7 _ => ?_)
 refine WL.step ?_
 refine WL.storeN F.agg33 rfl rfl rfl (by simp [Value.oneCell']) (by repeat (first | exact Upd.here | apply Upd.there)) (by repeat constructor) ?_
 refine WL.nil ?_
 refine WQ.then_normal ?_
 refine WC.ret ?_
 refine WQ.ret (rs := [.cell 4 33]) rfl (.cellN F.agg33 rfl jM rfl .nil) (fun w hS => ⟨z7, rfl, (jK hS)⟩)
theorem Or_c (s t : BT) (aa ab : Option Addr) (ca cb : Nat) (w : World) (hs : RdD w s aa) (ht : RdD w t ab) :
  Calls Tryz.prog 84 [dval s aa ca, dval t ab cb].toArray w (DPost (fun c => (fun p q : Bool => p || q) (s.ev c) (t.ev c)) w) := by
 refine enter Tryz.func84 rfl Tryz.ntmps84 rfl (St.init _) ?_
 refine jN 3 ?_
 refine WL.boxN rfl rfl (fun b2 => ?_)
 refine jN 1 ?_
 refine WL.boxN rfl rfl (fun b3 => ?_)
 refine jN 1 ?_
 refine WL.alloc F.zero33 rfl (fun b4 => ?_)
 refine jN 9 ?_
 refine WL.call0 (β := DRes (fun c => (fun p q : Bool => p || q) (s.ev c) (t.ev c))) (res := fun z => .returned z.v) (cs := fun z => [z.ch]) (ψ := fun _ => True) F.fun121 (fun d h => by cases h; rfl) rfl (fun w hS => (dwith_c _ _ _ either_ok s t aa ab ca cb w (hs.next0 hS) (ht.next0 hS)).mono (fun e w2 ⟨x, h1, h2⟩ => ⟨x, trivial, h1, h2⟩)) (fun z7 _ => ?_)
 refine WL.step ?_
 refine WL.storeN F.agg33 rfl rfl rfl (by simp [Value.oneCell']) (by repeat (first | exact Upd.here | apply Upd.there)) (by repeat constructor) ?_
 refine WL.nil ?_
 refine WQ.then_normal ?_
 refine WC.ret ?_
 refine WQ.ret (rs := [.cell 4 33]) rfl (.cellN F.agg33 rfl jM rfl .nil) (fun w hS => ⟨z7, rfl, (jK hS)⟩)
end Go.Proofs.YtnldjikcnahioaaGreatDoor
namespace Dg
def notT : BT → BT
 | .lf b => .lf (!b)
 | .nd v lo hi => mkN v (notT lo) (notT hi)
theorem notT_ok : ∀ {t : BT} {m : Nat}, t.ok m → (notT t).ok m
 | .lf _, _, _ => trivial
 | .nd v lo hi, m, h => mkN_ok h.1 h.2.1 (notT_ok h.2.2.2.1) (notT_ok h.2.2.2.2)
theorem notT_ev : ∀ (t : BT) (c : Cf), (notT t).ev c = !t.ev c
 | .lf _, _ => rfl
 | .nd v lo hi, c => by
  rw [notT, mkN_ev, notT_ev lo, notT_ev hi]
  simp only [BT.ev]
  cases c v <;> rfl
def fixT (i : Int) (on : Bool) : BT → BT
 | .lf b => .lf b
 | .nd v lo hi => if (v : Int) = i then (if on then fixT i on hi else fixT i on lo) else mkN v (fixT i on lo) (fixT i on hi)
def updI (c : Cf) (i : Int) (b : Bool) : Cf := fun j => if (j : Int) = i then b else c j
structure FI (φ : BT → BT) (la : List Dec) (out : List Int) (l : List Dec) : Prop where
 ismk : Mk l
 len : l.length + 2 ≤ out.length
 at' : ∀ k z, out[k]? = some z → ∃ p : Nat, z = (p : Int) ∧ p < l.length + 2 ∧ trs l p = φ (trs la k)
theorem FI.nil {φ : BT → BT} {la : List Dec} {b0 b1 : Bool} (h0 : φ (.lf false) = .lf b0) (h1 : φ (.lf true) = .lf b1) : FI φ la [bif b0 then 1 else 0, bif b1 then 1 else 0] [] := by
 refine ⟨Mk.nil, by simp, fun k z hz => ?_⟩
 have e : ∀ b : Bool, trs [] (bif b then 1 else 0) = .lf b := fun b => by cases b <;> rfl
 rcases k with _ | _ | k
 ·simp only [List.getElem?_cons_zero, Option.some.injEq] at hz
  refine ⟨bif b0 then 1 else 0, by rw [← hz]; cases b0 <;> rfl, by cases b0 <;> simp, ?_⟩
  rw [e, (trs_zero la).1, h0]
 ·simp only [List.getElem?_cons_succ, List.getElem?_cons_zero, Option.some.injEq] at hz
  refine ⟨bif b1 then 1 else 0, by rw [← hz]; cases b1 <;> rfl, by cases b1 <;> simp, ?_⟩
  rw [e, (trs_zero la).2, h1]
 ·simp at hz
theorem FI.step {φ : BT → BT} {la : List Dec} (hla : Mk la) {out : List Int} {l l' : List Dec} (h : FI φ la out l) {x : Dec} (hx : la[out.length - 2]? = some x) {p : Nat} (hm : Mk l') (hpre : ∃ r, l' = l ++ r) (hlen : l'.length ≤ l.length + 1) (hp : p < l'.length + 2) (ht : trs l' p = φ (.nd x.1 (trs la x.2.1) (trs la x.2.2))) : FI φ la (out ++ [(p : Int)]) l' := by
 have h2 : 2 ≤ out.length := by have := h.len; omega
 refine ⟨hm, by rw [List.length_append, List.length_singleton]; have := h.len; omega, fun k z hz => ?_⟩
 by_cases hk : k < out.length
 ·rw [List.getElem?_append_left hk] at hz
  obtain ⟨q, e1, e2, e3⟩ := h.at' k z hz
  obtain ⟨r, rfl⟩ := hpre
  exact ⟨q, e1, by rw [List.length_append]; omega, by rw [trs_append e2]; exact e3⟩
 ·have hlt := (List.getElem?_eq_some_iff.1 hz).1
  rw [List.length_append, List.length_singleton] at hlt
  have e : k = out.length := by omega
  subst e
  simp at hz
  refine ⟨p, hz.symm, hp, ?_⟩
  rw [ht]
  have := hla.at hx
  rw [show out.length - 2 + 2 = out.length by omega] at this
  rw [this]
def cfg (n : Nat) : Cf := fun i => n.testBit i
def supT (l : List Dec) : Nat := l.foldl (fun s x => s ||| 2 ^ x.1) 0
end Dg
namespace Dg
def cubeB (on off m : Nat) (c : Cf) : Bool := (List.range 24).all fun j => decide (j < m) || ((!on.testBit j || c j) && (!off.testBit j || !c j))
end Dg
namespace Go.Proofs.YtnldjikcnahioaaGreatDoor
open Go Go.Eng Go.Proofs Dg
abbrev fcf (f : Cf → Bool) : Cf → Bool := f
open Fm
abbrev intsV (l : List Int) : List Value := l.map (Value.int .i64)
abbrev ptl : List Value := [.slice none 0 0, .int .i64 1]
def kd (o : Option (Nat × List UInt8)) : Nat := match o with | some t => t.1 | none => 0
def tx (o : Option (Nat × List UInt8)) : List UInt8 := match o with | some t => t.2 | none => []
theorem kt_eq (o : Option (Nat × List UInt8)) : kt o = .tuple #[.int .u8 (kd o : Int), .string (str (tx o))] := by cases o <;> rfl
def tryN (j : Nat) : FuncId := match j with | 0 => 32 | 1 => 34 | _ => 36
def tryC (j b1 b5 : Nat) : Nat := match j with | 0 => b5 | 1 => b5 | _ => b1
def tryF (j : Nat) (u : List UInt8) : Option (Nat × List UInt8) := match j with | 0 => namF u | 1 => numF u | _ => sgnF u
abbrev tryV (j b1 b5 : Nat) : Value := .func (.func (tryN j)) [].toArray [pp (tryC j b1 b5)].toArray
theorem tryN_fun : ∀ j, funB Tryz.prog (tryN j) = some true
 | 0 => F.fun32
 | 1 => F.fun34
 | _ + 2 => F.fun36
theorem try_at {j b1 b5 : Nat} (h : j < 3) : ([tryV 0 b1 b5, tryV 1 b1 b5, tryV 2 b1 b5] : List Value)[j]? = some (tryV j b1 b5) := by
 rcases j with _ | _ | _ | j
 ·rfl
 ·rfl
 ·rfl
 ·omega
theorem try_c (j : Nat) (s : List UInt8) (hs : s.length ≤ 1000000000) (i : Nat) (hi : i ≤ s.length) (b1 b5 : Nat) (w : World) (hl : LibW w) (hg : SgW w) (hb : w.heap[b1]? = some (.cells [Value.string (str s)].toArray 9 (0, 0))) (hr : w.heap[b5]? = some (.cells [.func (.func 30) [].toArray [pp b1].toArray].toArray 87 (0, 0))) :
  Pure Tryz.prog (tryN j) [.int .i64 (i : Int), pp (tryC j b1 b5)] w (.tuple #[.int .u8 (kd (tryF j (s.drop i)) : Int), .string (str (tx (tryF j (s.drop i))))]) := by
 rw [← kt_eq]
 rcases j with _ | _ | j
 ·exact name_c s hs i hi b1 b5 w hb hr
 ·exact number6_c s hs i hi b1 b5 w hl hb hr
 ·exact sign_c s hs i hi b1 w hg hb
theorem namF_kd {u : List UInt8} {t : Nat × List UInt8} (h : namF u = some t) : t.1 = 1 := by unfold namF at h; split at h <;> cases h; rfl
theorem numF_kd {u : List UInt8} {t : Nat × List UInt8} (h : numF u = some t) : t.1 = 2 := by unfold numF at h; split at h <;> cases h; rfl
theorem sgnF_kd {u : List UInt8} {t : Nat × List UInt8} (h : sgnF u = some t) : t.1 = 3 := by
 unfold sgnF at h
 cases hs : signF u with
 | none => rw [hs] at h; cases h
 | some x => rw [hs] at h; cases h; rfl
theorem tryF_kd {j : Nat} {u : List UInt8} {t : Nat × List UInt8} (h : tryF j u = some t) : 1 ≤ t.1 ∧ t.1 ≤ 3 := by
 rcases j with _ | _ | j
 ·have := namF_kd h; omega
 ·have := numF_kd h; omega
 ·have := sgnF_kd h; omega
theorem kd_ne {j : Nat} {u : List UInt8} (h : ((kd (tryF j u) : Int) != 0) = true) : ∃ t, tryF j u = some t := by
 cases ht : tryF j u with
 | none => rw [ht] at h; cases h
 | some t => exact ⟨t, rfl⟩
theorem kd_eq {j : Nat} {u : List UInt8} (h : ((kd (tryF j u) : Int) != 0) = false) : tryF j u = none := by
 cases ht : tryF j u with
 | none => rfl
 | some t =>
  have := tryF_kd ht
  rw [ht] at h
  simp only [kd, bne_eq_false_iff_eq] at h
  omega
theorem tok1_at {u : List UInt8} {j : Nat} {t : Nat × List UInt8} (hj : j < 3) (hno : ∀ k, k < j → tryF k u = none) (h : tryF j u = some t) : tok1 u = some t := by
 rw [tok1_or]
 rcases j with _ | _ | _ | j
 ·have h' : namF u = some t := h
  rw [h']
 ·have h0 : namF u = none := hno 0 (by omega)
  have h' : numF u = some t := h
  rw [h0, h']
 ·have h0 : namF u = none := hno 0 (by omega)
  have h1 : numF u = none := hno 1 (by omega)
  have h' : sgnF u = some t := h
  rw [h0, h1, h']
 ·omega
theorem tok1_no {u : List UInt8} {j : Nat} (hj : 3 ≤ j) (hno : ∀ k, k < j → tryF k u = none) : tok1 u = none := by
 rw [tok1_or]
 have h0 : namF u = none := hno 0 (by omega)
 have h1 : numF u = none := hno 1 (by omega)
 have h2 : sgnF u = none := hno 2 (by omega)
 rw [h0, h1, h2]
structure ScX (s : List UInt8) where
 ok : Bool
 L : List TK
 F : List Nat
 a : Option Addr
 c : Nat
 a2 : Option Addr
 c2 : Nat
 hok : toksL s = if ok then some (L.map (·.2)) else none
 hno : ok = false → L = []
structure ScG where
 i : Nat
 L : List TK
 F : List Nat
 a : Option Addr
 c : Nat
 a2 : Option Addr
 c2 : Nat
 at_ : List Int
theorem True0_c (w : World) : Pure Tryz.prog 11 [] w (.agg [.slice none 0 0, .int .i64 1].toArray) := by
 refine enter Tryz.func11 rfl Tryz.ntmps11 rfl (St.init _) ?_
 refine jN 3 ?_
 refine WL.alloc F.zero33 rfl (fun b0 => ?_)
 refine jN 11 ?_
 exact WQ.ret (rs := [.cell 0 33]) rfl (.cellN F.agg33 rfl jM rfl .nil) (fun w hS => ⟨rfl, hS.drop⟩)
theorem Full0_c (a : Option Addr) (n c : Nat) (r : Int) (w : World) : Pure Tryz.prog 7 [.agg [.slice a n c, .int .i64 r].toArray] w (.bool (r == 1)) := by
 refine enter Tryz.func7 rfl Tryz.ntmps7 rfl (St.init _) ?_
 refine jN 3 ?_
 refine WL.boxN rfl rfl (fun b1 => ?_)
 refine jN 17 ?_
 exact WQ.ret (rs := [.tmp 2]) rfl (.tmp rfl .nil) (fun w hS => ⟨rfl, hS.drop⟩)
theorem scan_c (s : List UInt8) (hs : s.length ≤ 5000) (w : World) (hl : LibW w) (hg : SgW w) :
  Calls Tryz.prog 16 [.string (str s)].toArray w fun e w' => ∃ x : ScX s, e = .returned (.tuple #[.slice x.a x.L.length x.c, .slice x.a2 x.L.length x.c2, .bool x.ok]) ∧ St w [] [rowc (.slice x.a x.L.length x.c) x.L.length 35 7 (tkv ptl x.L), tksC x.F x.L] w' := by
 refine enter Tryz.func16 rfl Tryz.ntmps16 rfl (St.init _) ?_
 refine jN 3 ?_
 refine WL.box1 rfl rfl rfl (fun b1 => ?_)
 refine jN 14 ?_
 refine WL.callV F.fun29 rfl rfl (fun w hS => allowed_c s (by omega) w) ?_
 refine jN 4 ?_
 refine WC.cond rfl (fun h16 => ?_) (fun h16 => ?_)
 ·have hall : s.all okC = false := by simpa using h16
  refine jN 12 ?_
  have hno : toksL s = none := by unfold toksL; rw [if_neg (by rw [hall]; simp)]
  exact WQ.ret (rs := [.tmp 2, .tmp 3, .tmp 4]) rfl (.tmp rfl (.tmp rfl (.tmp rfl .nil))) (fun w hS => ⟨⟨false, [], [], none, 0, none, 0, by rw [hno]; rfl, fun _ => rfl⟩, rfl, (((hS.tkNil).rowNil 35 7).sublist (List.Sublist.cons_cons _ (List.Sublist.cons_cons _ (List.nil_sublist _))))⟩)
 ·have hall : s.all okC = true := by simpa using h16
  refine jN 7 ?_
  refine WL.alloc F.zero87 rfl (fun b5 => ?_)
  refine jN 36 ?_
  refine WC.chunks (C' := [pt b1 [.string (str s)] 9, pt b5 [.func (.func 30) [].toArray [pp b1].toArray] 87, rowc (.slice none 0 0) 0 35 7 [], tksC [] [], rowc (.slice none 0 0) 0 3 1 []]) (fun w hS => (jK (((hS.tkNil).rowNil 3 1).rowNil 35 7))) ?_
  refine WC.loop (α := ScG) (fun g => g.i ≤ s.length ∧ Lexd s g.i (g.L.map (·.2)) ∧ g.L.length ≤ g.i ∧ g.at_.length = g.L.length) (fun g => [(1, pp b1), (2, .slice g.a g.L.length g.c), (3, .slice g.a2 g.L.length g.c2), (6, tryV 0 b1 b5), (7, tryV 1 b1 b5), (8, tryV 2 b1 b5), (9, .int .i64 (g.i : Int))]) (fun g => [pt b1 [.string (str s)] 9, pt b5 [.func (.func 30) [].toArray [pp b1].toArray] 87, rowc (.slice g.a g.L.length g.c) g.L.length 35 7 (tkv ptl g.L), tksC g.F g.L, rowc (.slice g.a2 g.L.length g.c2) g.L.length 3 1 (intsV g.at_)]) (fun g => s.length - g.i) (⟨0, [], [], none, 0, none, 0, []⟩) ?_ ?_ ?_ ?_
  ·exact ⟨Nat.zero_le _, Lexd.zero s, Nat.le_refl _, rfl⟩
  ·exact ⟨rfl, rfl, rfl, rfl, rfl, rfl, rfl, trivial⟩
  ·rfl
  rintro ⟨i, L, Fs, a, c, a2, c2, at_⟩ ⟨hi, hlx, hLi, hal⟩
  dsimp only at hi hlx hLi hal ⊢
  refine jN 13 ?_
  refine WC.cond rfl (fun h24 => ?_) (fun h24 => ?_)
  ·have hlt : i < s.length := by simpa using h24
   obtain ⟨ch, hch⟩ : ∃ c, s[i]? = some c := ⟨_, List.getElem?_eq_getElem hlt⟩
   refine jN 11 ?_
   refine WL.indexS (i := i) F.und9 rfl rfl rfl hch ?_
   refine jN 1 ?_
   refine WL.callV F.fun38 rfl rfl (fun w hS => isBlank_c ch w) ?_
   refine jN 2 ?_
   refine WC.cond rfl (fun h28 => ?_) (fun h28 => ?_)
   ·refine jN 13 ?_
    refine WQ.back (⟨i + 1, L, Fs, a, c, a2, c2, at_⟩) ?_ ?_ ?_ ?_
    ·exact ⟨hlt, hlx.blank hch h28, by show L.length ≤ i + 1; omega, hal⟩
    ·show s.length - (i + 1) < s.length - i; omega
    ·exact ⟨rfl, rfl, rfl, rfl, rfl, rfl, rfl, trivial⟩
    ·rfl
   ·refine jN 10 ?_
    refine WL.y (F := fun _ => True) (Yl.sliceFrom (n := i) F.und9 rfl rfl hi) rfl (fun _ _ => trivial) ?_
    refine jN 1 ?_
    refine WL.callV F.fun37 rfl rfl (fun w hS => hasPrefix_c (s.drop i) [47, 47] w) ?_
    refine jN 2 ?_
    refine WC.cond rfl (fun h34 => ?_) (fun h34 => ?_)
    ·have hcm : cmt (s.drop i) = true := by unfold cmt; rw [← pre_is]; exact h34
     refine jN 21 ?_
     have hgood : toksN s.length s = some (L.map (·.2)) := hlx.cmt hch h28 hcm
     have hyes : toksL s = some (L.map (·.2)) := by unfold toksL; rw [if_pos hall]; exact hgood
     exact WQ.ret (rs := [.tmp 2, .tmp 3, .tmp 4]) rfl (.tmp rfl (.tmp rfl (.tmp rfl .nil))) (fun w hS => ⟨⟨true, L, Fs, a, c, a2, c2, by rw [hyes]; rfl, fun h => (by cases h)⟩, rfl, (jK hS)⟩)
    ·have hcm : cmt (s.drop i) = false := by unfold cmt; rw [← pre_is]; exact h34
     refine jN 20 ?_
     refine WL.buildSlice F.sl91 F.ez91 rfl rfl rfl rfl jB rfl (fun b38 => ?_)
     refine jN 7 ?_
     refine WC.loop (α := Nat) (fun j => j ≤ 3 ∧ ∀ k, k < j → tryF k (s.drop i) = none) (fun j => [(1, pp b1), (2, .slice a L.length c), (3, .slice a2 L.length c2), (6, tryV 0 b1 b5), (7, tryV 1 b1 b5), (8, tryV 2 b1 b5), (9, .int .i64 (i : Int)), (10, .int .u8 0), (11, .string (str [])), (38, .slice (some ⟨b38, 0, none⟩) 3 3), (39, .int .i64 3), (40, .int .i64 (j : Int))]) (fun j => [pt b38 [tryV 0 b1 b5, tryV 1 b1 b5, tryV 2 b1 b5] 88, pt b1 [.string (str s)] 9, pt b5 [.func (.func 30) [].toArray [pp b1].toArray] 87, rowc (.slice a L.length c) L.length 35 7 (tkv ptl L), tksC Fs L, rowc (.slice a2 L.length c2) L.length 3 1 (intsV at_)]) (fun j => 3 - j) 0 ?_ ?_ ?_ ?_
     ·exact ⟨by omega, fun k hk => by omega⟩
     ·exact ⟨rfl, rfl, rfl, rfl, rfl, rfl, rfl, rfl, rfl, rfl, rfl, rfl, trivial⟩
     ·rfl
     rintro j ⟨hj, hno⟩
     refine jN 7 ?_
     refine WC.cond rfl (fun h41 => ?_) (fun h41 => ?_)
     ·have hj3 : j < 3 := by simp at h41; omega
      refine jN 7 ?_
      refine WL.indexAddr F.sl91 rfl rfl rfl hj3 ?_
      refine jN 1 ?_
      refine WL.loadP F.one88 rfl rfl jM (by simpa using try_at hj3) ?_
      refine jN 11 ?_
      refine WL.callFC (β := Unit) (res := fun _ => .tuple #[.int .u8 (kd (tryF j (s.drop i)) : Int), .string (str (tx (tryF j (s.drop i))))]) (cs := fun _ => []) (Cs := []) (O' := []) (us := []) (cap := [pp (tryC j b1 b5)]) (tryN_fun j) (fun d h => by cases h; rfl) rfl rfl (List.Perm.refl _) (by simp) (by simp) (fun w hS _ => (try_c j s (by omega) i hi b1 b5 w (hl.next hS) (hg.next hS) (hS.ok (pt b1 [.string (str s)] 9) jM) (hS.ok (pt b5 [.func (.func 30) [].toArray [pp b1].toArray] 87) jM)).mono (fun e w2 h => ⟨(), h⟩)) (fun _ => ?_)
      refine jN 20 ?_
      refine WC.cond rfl (fun h51 => ?_) (fun h51 => ?_)
      ·obtain ⟨t, ht⟩ := kd_ne h51
       have htok := tok1_at hj3 hno ht
       have htl := tok1_len htok
       have htk := tryF_kd ht
       have hdl : (s.drop i).length = s.length - i := List.length_drop
       have e10 : kd (tryF j (s.drop i)) = t.1 := by rw [ht]; rfl
       have e11 : tx (tryF j (s.drop i)) = t.2 := by rw [ht]; rfl
       simp only [e10, e11]
       refine jN 15 ?_
       refine WC.cond rfl (fun h54 => ?_) (fun h54 => ?_)
       ·exfalso; simp at h54; omega
       ·refine jN 15 ?_
        refine WL.buildSlice F.sl30 F.ez30 rfl rfl rfl rfl jB rfl (fun b60 => ?_)
        refine jN 1 ?_
        refine WL.callV F.fun11 rfl rfl (fun w hS => True0_c w) ?_
        refine jN 3 ?_
        refine WL.buildSlice F.sl23 F.ez23 rfl rfl rfl rfl jB rfl (fun b63 => ?_)
        refine jN 1 ?_
        refine WL.appendE (news := [.int .u8 (t.1 : Int), .string (str t.2), .slice (some ⟨b60, 0, none⟩) 1 1, .int .i64 0, .int .i64 0, .slice none 0 0, .int .i64 1]) F.el23 rfl rfl rfl jR (fun w hS jj u hu => by rw [Nat.zero_add]; exact hS.cell (cs := [.int .u8 (t.1 : Int), .string (str t.2), .slice (some ⟨b60, 0, none⟩) 1 1, .int .i64 0, .int .i64 0, .slice none 0 0, .int .i64 1]) jM hu) rfl jO (Nat.le_trans (m := 5001) (by omega) (by decide)) (by omega) (fun a9 c9 => ?_)
        refine jN 11 ?_
        refine WL.buildSlice F.sl30 F.ez30 rfl rfl rfl rfl jB rfl (fun b67 => ?_)
        refine jN 1 ?_
        refine WL.appendE (news := [.int .i64 (i : Int)]) F.el30 rfl rfl rfl jR (fun w hS jj u hu => by rw [Nat.zero_add]; exact hS.cell (cs := [.int .i64 (i : Int)]) jM hu) rfl jO (Nat.le_trans (m := 5001) (by omega) (by decide)) (by omega) (fun a8 c8 => ?_)
        refine jN 17 ?_
        refine WQ.chunks (C' := [pt b1 [.string (str s)] 9, pt b5 [.func (.func 30) [].toArray [pp b1].toArray] 87, rowc (.slice a9 (L.length + 1) c9) (L.length + 1) 35 7 (tkv ptl L ++ [.int .u8 (t.1 : Int), .string (str t.2), .slice (some ⟨b60, 0, none⟩) 1 1, .int .i64 0, .int .i64 0, .slice none 0 0, .int .i64 1]), tksC (Fs ++ [b60]) (L ++ [(b60, t.1, t.2)]), rowc (.slice a8 (L.length + 1) c8) (L.length + 1) 3 1 (intsV at_ ++ [.int .i64 (i : Int)])]) (fun w hS => (jK (St.tkSnoc (k := t.1) (t := t.2) (St.pick (St.pick hS (c := pt b60 [.int .i64 (L.length : Int)] 3) jR) (c := tksC Fs L) jR)))) ?_
        refine WQ.back (⟨i + t.2.length, L ++ [(b60, t.1, t.2)], Fs ++ [b60], a9, c9, a8, c8, at_ ++ [(i : Int)]⟩) ?_ ?_ ?_ ?_
        ·exact ⟨by show i + t.2.length ≤ s.length; omega, by show Lexd s _ ((L ++ [(b60, t.1, t.2)]).map (·.2)); rw [List.map_append]; exact hlx.tok hch h28 hcm htok, by show (L ++ [(b60, t.1, t.2)]).length ≤ i + t.2.length; simp; omega, by show (at_ ++ [(i : Int)]).length = (L ++ [(b60, t.1, t.2)]).length; simp [hal]⟩
        ·show s.length - (i + t.2.length) < s.length - i; omega
        ·simp only [List.length_append, List.length_cons, List.length_nil]; exact ⟨rfl, rfl, rfl, rfl, rfl, rfl, rfl, trivial⟩
        ·simp only [List.length_append, List.length_cons, List.length_nil, tkv_append, List.map_append]; rfl
      ·refine jN 9 ?_
       have hnone := kd_eq h51
       have e10 : kd (tryF j (s.drop i)) = 0 := by rw [hnone]; rfl
       have e11 : tx (tryF j (s.drop i)) = [] := by rw [hnone]; rfl
       simp only [e10, e11]
       refine WQ.back (j + 1) ?_ ?_ ?_ ?_
       ·exact ⟨by omega, fun k hk => by rcases Nat.lt_succ_iff_lt_or_eq.1 hk with h | h; exact hno k h; subst h; exact hnone⟩
       ·omega
       ·exact ⟨rfl, rfl, rfl, rfl, rfl, rfl, rfl, rfl, rfl, rfl, rfl, rfl, trivial⟩
       ·rfl
     ·have hj3 : 3 ≤ j := by simp at h41; omega
      have htok := tok1_no hj3 hno
      refine jN 14 ?_
      refine WC.cond rfl (fun h54 => ?_) (fun h54 => ?_)
      ·refine jN 16 ?_
       have hbad : toksN s.length s = none := hlx.bad hch h28 hcm htok
       have hno : toksL s = none := by unfold toksL; rw [if_pos hall]; exact hbad
       exact WQ.ret (rs := [.tmp 2, .tmp 3, .tmp 4]) rfl (.tmp rfl (.tmp rfl (.tmp rfl .nil))) (fun w hS => ⟨⟨false, [], [], none, 0, none, 0, by rw [hno]; rfl, fun _ => rfl⟩, rfl, (((hS.tkNil).rowNil 35 7).sublist (List.Sublist.cons_cons _ (List.Sublist.cons_cons _ (List.nil_sublist _))))⟩)
      ·exact absurd h54 (by decide)
  ·have hle : s.length ≤ i := by simpa using h24
   refine jN 20 ?_
   have hgood : toksN s.length s = some (L.map (·.2)) := hlx.stop hle
   have hyes : toksL s = some (L.map (·.2)) := by unfold toksL; rw [if_pos hall]; exact hgood
   exact WQ.ret (rs := [.tmp 2, .tmp 3, .tmp 4]) rfl (.tmp rfl (.tmp rfl (.tmp rfl .nil))) (fun w hS => ⟨⟨true, L, Fs, a, c, a2, c2, by rw [hyes]; rfl, fun h => (by cases h)⟩, rfl, (jK hS)⟩)
open Go Go.Eng Go.Proofs Dg
open Fm
def lexE (s : List UInt8) : Int × List (Nat × List UInt8) := match toksL s with
 | none => (4, [])
 | some l => if 256 < l.length then (5, []) else (0, l)
structure LxX (s : List UInt8) where
 e : Int
 L : List TK
 F : List Nat
 a : Option Addr
 c : Nat
 hok : lexE s = (e, L.map (·.2))
theorem lexE_no {s : List UInt8} (x : ScX s) (h : x.ok = false) : lexE s = (4, []) := by
 unfold lexE; rw [x.hok, h]; rfl
theorem lexE_long {s : List UInt8} (x : ScX s) (h : x.ok = true) (hl : 256 < x.L.length) : lexE s = (5, []) := by
 unfold lexE; rw [x.hok, h]; simp [hl]
theorem lexE_ok {s : List UInt8} (x : ScX s) (h : x.ok = true) (hl : ¬ 256 < x.L.length) : lexE s = (0, x.L.map (·.2)) := by
 unfold lexE; rw [x.hok, h]; simp [hl]
theorem Lex_c (s : List UInt8) (hs : s.length ≤ 5000) (w : World) (hl : LibW w) (hg : SgW w) :
  Calls Tryz.prog 5 [.string (str s)].toArray w fun e w' => ∃ x : LxX s, e = .returned (.tuple #[.slice x.a x.L.length x.c, .int .i64 x.e]) ∧ St w [] [rowc (.slice x.a x.L.length x.c) x.L.length 35 7 (tkv ptl x.L), tksC x.F x.L] w' := by
 refine enter Tryz.func5 rfl Tryz.ntmps5 rfl (St.init _) ?_
 refine jN 13 ?_
 refine jC (β := ScX s) (res := fun x => .tuple #[.slice x.a x.L.length x.c, .slice x.a2 x.L.length x.c2, .bool x.ok]) (cs := fun x => [rowc (.slice x.a x.L.length x.c) x.L.length 35 7 (tkv ptl x.L), tksC x.F x.L]) F.fun16 rfl (fun w hS _ => scan_c s hs w (hl.next hS) (hg.next hS)) (fun x => ?_)
 refine jN 28 ?_
 refine WC.cond rfl (fun h13 => ?_) (fun h13 => ?_)
 ·have hx : x.ok = false := by simpa using h13
  have he := lexE_no x hx
  refine jN 11 ?_
  exact WQ.ret (rs := [.tmp 2, .tmp 3]) rfl (.tmp rfl (.tmp rfl .nil)) (fun w hS => ⟨⟨4, [], [], none, 0, he⟩, rfl, (((hS.tkNil).rowNil 35 7).sublist (List.Sublist.cons_cons _ (List.Sublist.cons_cons _ (List.nil_sublist _))))⟩)
 ·have hx : x.ok = true := by simpa using h13
  refine jN 12 ?_
  refine WC.cond rfl (fun h16 => ?_) (fun h16 => ?_)
  ·have he := lexE_long x hx (by simp at h16; omega)
   refine jN 11 ?_
   exact WQ.ret (rs := [.tmp 2, .tmp 3]) rfl (.tmp rfl (.tmp rfl .nil)) (fun w hS => ⟨⟨5, [], [], none, 0, he⟩, rfl, (((hS.tkNil).rowNil 35 7).sublist (List.Sublist.cons_cons _ (List.Sublist.cons_cons _ (List.nil_sublist _))))⟩)
  ·have he := lexE_ok x hx (by simp at h16; omega)
   refine jN 14 ?_
   exact WQ.ret (rs := [.tmp 2, .tmp 3]) rfl (.tmp rfl (.tmp rfl .nil)) (fun w hS => ⟨⟨0, x.L, x.F, x.a, x.c, he⟩, rfl, (jK hS)⟩)
end Go.Proofs.YtnldjikcnahioaaGreatDoor
namespace Fm
open Go
theorem signsL_head : ∀ x ∈ signsL, ∃ c r, x = c :: r ∧ isPrt c = false := by
 have h : (signsL.all fun x => match x with | c :: _ => !isPrt c | [] => false) = true := by decide
 intro x hx
 have := List.all_eq_true.1 h x hx
 cases x with
 | nil => cases this
 | cons c r => exact ⟨c, r, rfl, by simpa using this⟩
theorem signF_part {c : UInt8} {r : List UInt8} (h : isPrt c = true) : signF (c :: r) = none := by
 cases hs : signF (c :: r) with
 | none => rfl
 | some x =>
  obtain ⟨h1, h2⟩ := signF_mem hs
  obtain ⟨d, q, rfl, h3⟩ := signsL_head x h1
  have : d = c := (List.cons_prefix_cons.1 h2).1
  subst this
  rw [h] at h3; cases h3
theorem runP_cons {c : UInt8} {r : List UInt8} (h : isPrt c = true) : runP (c :: r) = c :: runP r := by
 unfold runP; rw [List.takeWhile_cons, if_pos h]
theorem runP_none {c : UInt8} {r : List UInt8} (h : isPrt c = false) : runP (c :: r) = [] := by
 unfold runP; rw [List.takeWhile_cons, if_neg (by rw [h]; simp)]
theorem dig_part {c : UInt8} (h : isDig c = true) : isPrt c = true := by unfold isPrt; rw [h]; simp
theorem tok1_let {c : UInt8} {r : List UInt8} (h : isPrt c = true) (hd : isDig c = false) : tok1 (c :: r) = if namB (runP (c :: r)) then some (1, runP (c :: r)) else none := by
 unfold tok1
 have h2 : numB (runP (c :: r)) = false := by rw [runP_cons h]; exact numB_nodig (List.mem_cons_self ..) hd
 rw [h2, signF_part h]
 simp
theorem tok1_dig {c : UInt8} {r : List UInt8} (hd : isDig c = true) : tok1 (c :: r) = if numB (runP (c :: r)) then some (2, runP (c :: r)) else none := by
 unfold tok1
 have h := dig_part hd
 have h2 : namB (runP (c :: r)) = false := by rw [runP_cons h]; simp [namB, hd]
 rw [h2, signF_part h]
 simp
theorem tok1_sign {c : UInt8} {r : List UInt8} (h : isPrt c = false) : tok1 (c :: r) = (signF (c :: r)).map fun x => (3, x) := by
 unfold tok1
 rw [runP_none h]
 have h1 : namB [] = false := rfl
 have h2 : numB [] = false := by
  cases hb : numB [] with
  | false => rfl
  | true => exact absurd rfl (numB_ne hb)
 rw [h1, h2]
 simp
theorem signs_no {q : List UInt8 → Bool} (h2 : ∀ y ∈ signs2, q y = false) (h1 : ∀ c ∈ signs1, q [c] = false) : signsL.find? q = none := by
 rw [List.find?_eq_none]
 intro x hx
 unfold signsL at hx
 rcases List.mem_append.1 hx with hx | hx
 ·rw [h2 x hx]; simp
 ·obtain ⟨c, hc, rfl⟩ := List.mem_map.1 hx
  rw [h1 c hc]; simp
theorem signs_two {q : List UInt8 → Bool} {i : Nat} {x : List UInt8} (hx : signs2[i]? = some x) (hno : ∀ y ∈ signs2.take i, q y = false) (hq : q x = true) : signsL.find? q = some x := by
 unfold signsL
 rw [List.find?_append]
 have : signs2.find? q = some x := by
  rw [List.find?_eq_some_iff_getElem]
  obtain ⟨hi, he⟩ := List.getElem?_eq_some_iff.1 hx
  refine ⟨hq, i, hi, he, fun j hj => ?_⟩
  have hj2 : j < signs2.length := by omega
  have := hno signs2[j] (by
   rw [List.mem_take_iff_getElem]
   exact ⟨j, by omega, rfl⟩)
  rw [this]; rfl
 rw [this]; rfl
theorem signs_one {q : List UInt8 → Bool} {i : Nat} {c : UInt8} (h2 : ∀ y ∈ signs2, q y = false) (hc : signs1[i]? = some c) (hno : ∀ d ∈ signs1.take i, q [d] = false) (hq : q [c] = true) : signsL.find? q = some [c] := by
 unfold signsL
 rw [List.find?_append]
 have e : signs2.find? q = none := by
  rw [List.find?_eq_none]
  intro y hy
  rw [h2 y hy]; simp
 have : (signs1.map fun c => [c]).find? q = some [c] := by
  rw [List.find?_eq_some_iff_getElem]
  obtain ⟨hi, he⟩ := List.getElem?_eq_some_iff.1 hc
  refine ⟨hq, i, by simpa using hi, by simp [he], fun j hj => ?_⟩
  have hj2 : j < signs1.length := by omega
  have := hno signs1[j] (by
   rw [List.mem_take_iff_getElem]
   exact ⟨j, by omega, rfl⟩)
  simp [this]
 rw [e, this]; rfl
theorem pre_two {s x : List UInt8} (hx : x.length = 2) (h : 2 ≤ s.length) : x.isPrefixOf s = (s.take 2 == x) := by
 rw [Bool.eq_iff_iff, List.isPrefixOf_iff_prefix, List.prefix_iff_eq_take, hx, beq_iff_eq]
 exact eq_comm
theorem pre_short {s x : List UInt8} (h : s.length < x.length) : x.isPrefixOf s = false := by
 cases hb : x.isPrefixOf s with
 | false => rfl
 | true =>
  have := (List.isPrefixOf_iff_prefix.1 hb).length_le
  omega
theorem pre_one {c d : UInt8} {r : List UInt8} : ([c] : List UInt8).isPrefixOf (d :: r) = (d == c) := by
 simp only [List.isPrefixOf, Bool.and_true]
 rw [Bool.eq_iff_iff, beq_iff_eq, beq_iff_eq]
 exact eq_comm
theorem signs2_len : ∀ x ∈ signs2, x.length = 2 := by decide
end Fm
namespace Go.Proofs.YtnldjikcnahioaaGreatDoor
open Go Go.Eng Go.Proofs Dg
open Fm
def sgn2V : List Value := signs2.map fun x => Value.string (str x)
theorem sgn2V_at {k : Nat} {x : List UInt8} (h : signs2[k]? = some x) : sgn2V[k]? = some (Value.string (str x)) := by
 unfold sgn2V; rw [List.getElem?_map, h]; rfl
def sgT (s : List UInt8) : List UInt8 := (signF s).getD []
theorem one_pre {s : List UInt8} {c d : UInt8} (hd : s[0]? = some d) : ([c] : List UInt8).isPrefixOf s = ((d.toNat : Int) == (c.toNat : Int)) := by
 cases s with
 | nil => simp at hd
 | cons a r =>
  simp at hd; subst hd
  rw [pre_one, Bool.eq_iff_iff, beq_iff_eq, beq_iff_eq, ← UInt8.toNat_inj]
  omega
theorem one_take {s : List UInt8} {c : UInt8} (h : ([c] : List UInt8).isPrefixOf s = true) : s.take 1 = [c] := by
 have := List.prefix_iff_eq_take.1 (List.isPrefixOf_iff_prefix.1 h)
 exact this.symm
theorem take_no2 {q : List UInt8 → Bool} {l : List UInt8} {k : Nat} {x : UInt8} (h : l[k]? = some x) (hn : ∀ y ∈ l.take k, q [y] = false) (hx : q [x] = false) : ∀ y ∈ l.take (k + 1), q [y] = false := by
 intro y hy
 rw [List.take_add_one, h] at hy
 rcases List.mem_append.1 hy with hy | hy
 ·exact hn y hy
 ·simp at hy; subst hy; exact hx
theorem rsign_c (s : List UInt8) (hs : s.length ≤ 1000000000) (w : World) : Pure Tryz.prog 39 [.string (str s)] w (.string (str (sgT s))) := by
 refine enter Tryz.func39 rfl Tryz.ntmps39 rfl (St.init _) ?_
 refine jN 9 ?_
 refine WL.buildSlice F.sl48 F.ez48 rfl rfl rfl rfl jB rfl (fun b6 => ?_)
 refine jN 12 ?_
 refine WC.chunks (C' := [pt b6 sgn2V 9]) (fun w hS => hS) ?_
 refine WC.loop (α := Nat) (fun k => k ≤ 6 ∧ ∀ y ∈ signs2.take k, (fun x => x.isPrefixOf s) y = false) (fun k => [(0, .string (str s)), (3, .slice (some ⟨b6, 0, none⟩) 6 6), (4, .int .i64 (k : Int))]) (fun _ => [pt b6 sgn2V 9]) (fun k => 6 - k) (0) ?_ ?_ ?_ ?_
 ·exact ⟨by omega, by simp⟩
 ·exact ⟨rfl, rfl, rfl, trivial⟩
 ·rfl
 rintro k ⟨hk, hno⟩
 refine jN 13 ?_
 refine WC.cond rfl (fun h10 => ?_) (fun h10 => ?_)
 ·have h6 : signs2.length = 6 := rfl
  have hlt : k < signs2.length := by simp at h10; omega
  obtain ⟨x, hx⟩ : ∃ x, signs2[k]? = some x := ⟨_, List.getElem?_eq_getElem hlt⟩
  have hx2 := signs2_len x (List.mem_of_getElem? hx)
  rw [h6] at hlt
  refine jN 5 ?_
  refine WC.cutP [(24, .bool (x.isPrefixOf s)), (0, .string (str s)), (3, .slice (some ⟨b6, 0, none⟩) 6 6), (4, .int .i64 (k : Int))] (fun c a d v w h => by cases d <;> exact h) (fun Q' hP hQ => ?_) ?_
  ·refine WC.draws [([], fun w => w.cell? ⟨b6, 0 + k * 1, none⟩ = some (.string (str x)))] (by kernel_rfl) (fun w hS => facts_cons ((by rw [Nat.zero_add, Nat.mul_one]; exact hS.cell jM (sgn2V_at hx))) (facts_nil)) ?_
   refine jT 0 rfl (Yl.move rfl) ?_
   refine jT 1 rfl (Yl.lenS F.und9 rfl) ?_
   refine jT 2 rfl (Yl.geI rfl rfl) ?_
   refine jT 3 rfl (Yl.move rfl) ?_
   refine fun hcl => WA.splitB (i := 16) rfl (fun g16 => ?_) (fun g16 => ?_)
   ·refine (show WD _ _ _ _ _ _ _ _ _ _ _ _ from ?_) hcl
    refine WD.takeG (i := 4) rfl rfl rfl rfl rfl rfl (by kernel_rfl) (by kernel_rfl) (by kernel_rfl) (fun _ _ _ h => hP _ _ _ _ _ h) (by kernel_rfl) need_none (Yl.move rfl) ?_
    refine WD.takeG (i := 5) rfl rfl rfl rfl rfl rfl (by kernel_rfl) (by kernel_rfl) (by kernel_rfl) (fun _ _ _ h => hP _ _ _ _ _ h) (by kernel_rfl) need_none (Yl.sliceTo (n := 2) F.und9 rfl rfl (by simp at g16; omega)) ?_
    refine WD.takeG (i := 6) rfl rfl rfl rfl rfl rfl (by kernel_rfl) (by kernel_rfl) (by kernel_rfl) (fun _ _ _ h => hP _ _ _ _ _ h) (by kernel_rfl) need_none (Yl.move rfl) ?_
    refine WD.takeG (i := 7) rfl rfl rfl rfl rfl rfl (by kernel_rfl) (by kernel_rfl) (by kernel_rfl) (fun _ _ _ h => hP _ _ _ _ _ h) (by kernel_rfl) need_none (Yl.move rfl) ?_
    refine WD.takeG (i := 8) rfl rfl rfl rfl rfl rfl (by kernel_rfl) (by kernel_rfl) (by kernel_rfl) (fun _ _ _ h => hP _ _ _ _ _ h) (by kernel_rfl) need_none (Yl.indexAddr F.sl48 rfl rfl hlt) ?_
    refine WD.takeG (i := 9) rfl rfl rfl rfl rfl rfl (by kernel_rfl) (by kernel_rfl) (by kernel_rfl) (fun _ _ _ h => hP _ _ _ _ _ h) (by kernel_rfl) (need_at 0 12 rfl (by kernel_rfl)) (Yl.load1 F.one9 rfl) ?_
    refine WD.takeG (i := 10) rfl rfl rfl rfl rfl rfl (by kernel_rfl) (by kernel_rfl) (by kernel_rfl) (fun _ _ _ h => hP _ _ _ _ _ h) (by kernel_rfl) need_none (Yl.eqS rfl rfl) ?_
    refine jT 11 rfl (Yl.pickT rfl rfl) ?_
    refine jD ?_
    refine WQ.byCut hQ (subF_bool ?_ ⟨rfl, rfl, rfl, trivial⟩ rfl)
    first | (rw [pre_two hx2 (by simp at g16; omega)]; done) | (rw [pre_short (by simp at g16; omega)])
   ·refine (show WD _ _ _ _ _ _ _ _ _ _ _ _ from ?_) hcl
    refine WD.skip (i := 4) rfl rfl rfl rfl rfl rfl rfl (by kernel_rfl) (by kernel_rfl) (by kernel_rfl) (fun _ _ _ h => hP _ _ _ _ _ h) (by kernel_rfl) ?_
    refine WD.skip (i := 5) rfl rfl rfl rfl rfl rfl rfl (by kernel_rfl) (by kernel_rfl) (by kernel_rfl) (fun _ _ _ h => hP _ _ _ _ _ h) (by kernel_rfl) ?_
    refine WD.skip (i := 6) rfl rfl rfl rfl rfl rfl rfl (by kernel_rfl) (by kernel_rfl) (by kernel_rfl) (fun _ _ _ h => hP _ _ _ _ _ h) (by kernel_rfl) ?_
    refine WD.skip (i := 7) rfl rfl rfl rfl rfl rfl rfl (by kernel_rfl) (by kernel_rfl) (by kernel_rfl) (fun _ _ _ h => hP _ _ _ _ _ h) (by kernel_rfl) ?_
    refine WD.skip (i := 8) rfl rfl rfl rfl rfl rfl rfl (by kernel_rfl) (by kernel_rfl) (by kernel_rfl) (fun _ _ _ h => hP _ _ _ _ _ h) (by kernel_rfl) ?_
    refine WD.skip (i := 9) rfl rfl rfl rfl rfl rfl rfl (by kernel_rfl) (by kernel_rfl) (by kernel_rfl) (fun _ _ _ h => hP _ _ _ _ _ h) (by kernel_rfl) ?_
    refine WD.skip (i := 10) rfl rfl rfl rfl rfl rfl rfl (by kernel_rfl) (by kernel_rfl) (by kernel_rfl) (fun _ _ _ h => hP _ _ _ _ _ h) (by kernel_rfl) ?_
    refine jT 11 rfl (Yl.pickF rfl rfl) ?_
    refine jD ?_
    refine WQ.byCut hQ (subF_bool ?_ ⟨rfl, rfl, rfl, trivial⟩ rfl)
    first | (rw [pre_two hx2 (by simp at g16; omega)]; done) | (rw [pre_short (by simp at g16; omega)])
  refine jN 1 ?_
  refine WC.cond rfl (fun h24 => ?_) (fun h24 => ?_)
  ·have hs1 : signF s = some x := signs_two hx hno h24
   refine jN 7 ?_
   refine WL.indexAddr F.sl48 rfl rfl rfl hlt ?_
   refine jN 1 ?_
   refine WL.loadP F.one9 rfl rfl jM (by simpa using sgn2V_at hx) ?_
   refine jN 10 ?_
   exact WQ.ret (rs := [.tmp 2]) rfl (.tmp rfl .nil) (fun w hS => ⟨by unfold sgT; rw [hs1]; rfl, hS.drop⟩)
  ·refine jN 11 ?_
   refine WQ.back (k + 1) ?_ ?_ ?_ ?_
   ·exact ⟨by omega, take_no hx hno h24⟩
   ·omega
   ·exact ⟨rfl, rfl, rfl, trivial⟩
   ·rfl
 ·have hk6 : 6 ≤ k := by simp at h10; omega
  have hn2 : ∀ y ∈ signs2, (fun x => x.isPrefixOf s) y = false := fun y hy => hno y (by rw [List.take_of_length_le (show signs2.length ≤ k from hk6)]; exact hy)
  refine jN 13 ?_
  refine WC.loop (α := Nat) (fun k => k ≤ 16 ∧ ∀ c ∈ signs1.take k, (fun x => x.isPrefixOf s) [c] = false) (fun k => [(0, .string (str s)), (5, .int .i64 (k : Int))]) (fun _ => [pt b6 sgn2V 9]) (fun k => 16 - k) (0) ?_ ?_ ?_ ?_
  ·exact ⟨by omega, by simp⟩
  ·exact ⟨rfl, rfl, trivial⟩
  ·rfl
  rintro k ⟨hk2, hno2⟩
  refine jN 9 ?_
  refine WC.cond rfl (fun h30 => ?_) (fun h30 => ?_)
  ·have h16 : signs1.length = 16 := rfl
   have hlt : k < signs1.length := by simp at h30; omega
   obtain ⟨c, hc⟩ : ∃ c, signs1[k]? = some c := ⟨_, List.getElem?_eq_getElem hlt⟩
   rw [h16] at hlt
   refine jN 5 ?_
   refine WC.cutP [(42, .bool (([c] : List UInt8).isPrefixOf s)), (0, .string (str s)), (5, .int .i64 (k : Int))] (fun c a d v w h => by cases d <;> exact h) (fun Q' hP hQ => ?_) ?_
   ·refine WC.drawsL (by kernel_rfl) (FactsOk.nil) ?_
    refine jT 0 rfl (Yl.move rfl) ?_
    refine jT 1 rfl (Yl.lenS F.und9 rfl) ?_
    refine jT 2 rfl (Yl.geI rfl rfl) ?_
    refine jT 3 rfl (Yl.move rfl) ?_
    refine fun hcl => WA.splitB (i := 36) rfl (fun g36 => ?_) (fun g36 => ?_)
    ·refine (show WD _ _ _ _ _ _ _ _ _ _ _ _ from ?_) hcl
     have hpos : 0 < s.length := by simp at g36; omega
     obtain ⟨d0, hd0⟩ : ∃ d, s[0]? = some d := ⟨s[0], by simp [hpos]⟩
     refine WD.takeG (i := 4) rfl rfl rfl rfl rfl rfl (by kernel_rfl) (by kernel_rfl) (by kernel_rfl) (fun _ _ _ h => hP _ _ _ _ _ h) (by kernel_rfl) need_none (Yl.move rfl) ?_
     refine WD.takeG (i := 5) rfl rfl rfl rfl rfl rfl (by kernel_rfl) (by kernel_rfl) (by kernel_rfl) (fun _ _ _ h => hP _ _ _ _ _ h) (by kernel_rfl) need_none (Yl.indexS (i := 0) F.und9 rfl rfl hd0) ?_
     refine WD.takeG (i := 6) rfl rfl rfl rfl rfl rfl (by kernel_rfl) (by kernel_rfl) (by kernel_rfl) (fun _ _ _ h => hP _ _ _ _ _ h) (by kernel_rfl) need_none (Yl.move rfl) ?_
     refine WD.takeG (i := 7) rfl rfl rfl rfl rfl rfl (by kernel_rfl) (by kernel_rfl) (by kernel_rfl) (fun _ _ _ h => hP _ _ _ _ _ h) (by kernel_rfl) need_none (Yl.indexS (m := signs1) (i := k) F.und9 rfl rfl hc) ?_
     refine WD.takeG (i := 8) rfl rfl rfl rfl rfl rfl (by kernel_rfl) (by kernel_rfl) (by kernel_rfl) (fun _ _ _ h => hP _ _ _ _ _ h) (by kernel_rfl) need_none (Yl.eqI rfl rfl) ?_
     refine jT 9 rfl (Yl.pickT rfl rfl) ?_
     refine jD ?_
     refine WQ.byCut hQ (subF_bool ?_ ⟨rfl, rfl, trivial⟩ rfl)
     first | (rw [one_pre hd0]; done) | (rw [pre_short (show s.length < 1 by have := of_decide_eq_false g36; omega)])
    ·refine (show WD _ _ _ _ _ _ _ _ _ _ _ _ from ?_) hcl
     refine WD.skip (i := 4) rfl rfl rfl rfl rfl rfl rfl (by kernel_rfl) (by kernel_rfl) (by kernel_rfl) (fun _ _ _ h => hP _ _ _ _ _ h) (by kernel_rfl) ?_
     refine WD.skip (i := 5) rfl rfl rfl rfl rfl rfl rfl (by kernel_rfl) (by kernel_rfl) (by kernel_rfl) (fun _ _ _ h => hP _ _ _ _ _ h) (by kernel_rfl) ?_
     refine WD.skip (i := 6) rfl rfl rfl rfl rfl rfl rfl (by kernel_rfl) (by kernel_rfl) (by kernel_rfl) (fun _ _ _ h => hP _ _ _ _ _ h) (by kernel_rfl) ?_
     refine WD.skip (i := 7) rfl rfl rfl rfl rfl rfl rfl (by kernel_rfl) (by kernel_rfl) (by kernel_rfl) (fun _ _ _ h => hP _ _ _ _ _ h) (by kernel_rfl) ?_
     refine WD.skip (i := 8) rfl rfl rfl rfl rfl rfl rfl (by kernel_rfl) (by kernel_rfl) (by kernel_rfl) (fun _ _ _ h => hP _ _ _ _ _ h) (by kernel_rfl) ?_
     refine jT 9 rfl (Yl.pickF rfl rfl) ?_
     refine jD ?_
     refine WQ.byCut hQ (subF_bool ?_ ⟨rfl, rfl, trivial⟩ rfl)
     first | (rw [one_pre hd0]; done) | (rw [pre_short (show s.length < 1 by have := of_decide_eq_false g36; omega)])
   refine jN 1 ?_
   refine WC.cond rfl (fun h42 => ?_) (fun h42 => ?_)
   ·have hs1 : signF s = some [c] := signs_one hn2 hc hno2 h42
    have htk := one_take h42
    have h1l : 1 ≤ s.length := by have := (List.isPrefixOf_iff_prefix.1 h42).length_le; simpa using this
    refine jN 5 ?_
    refine WL.y (F := fun _ => True) (Yl.sliceTo (n := 1) F.und9 rfl rfl h1l) rfl (fun _ _ => trivial) ?_
    refine jN 10 ?_
    exact WQ.ret (rs := [.tmp 2]) rfl (.tmp rfl .nil) (fun w hS => ⟨by unfold sgT; rw [hs1, htk]; rfl, hS.drop⟩)
   ·refine jN 11 ?_
    refine WQ.back (k + 1) ?_ ?_ ?_ ?_
    ·exact ⟨by omega, take_no2 (q := fun x => x.isPrefixOf s) hc hno2 h42⟩
    ·omega
    ·exact ⟨rfl, rfl, trivial⟩
    ·rfl
  ·have hk16 : 16 ≤ k := by simp at h30; omega
   have hn1 : ∀ c ∈ signs1, (fun x => x.isPrefixOf s) [c] = false := fun c hc => hno2 c (by rw [List.take_of_length_le (show signs1.length ≤ k from hk16)]; exact hc)
   have hs1 : signF s = none := signs_no hn2 hn1
   refine jN 12 ?_
   exact WQ.ret (rs := [.tmp 2]) rfl (.tmp rfl .nil) (fun w hS => ⟨by unfold sgT; rw [hs1]; rfl, hS.drop⟩)
open Go Go.Eng Go.Proofs Dg
open Fm
abbrev rtl : List Value := [.slice none 0 0]
theorem cmt_take {s : List UInt8} {i : Nat} (h : i + 2 ≤ s.length) : ((s.drop i).take (i + 2 - i) == ([47, 47] : List UInt8)) = cmt (s.drop i) := by
 unfold cmt
 rw [show i + 2 - i = 2 by omega]
 exact (pre_two (x := [47, 47]) rfl (by rw [List.length_drop]; omega)).symm
theorem cmt_short {s : List UInt8} {i : Nat} (h : ¬ i + 2 ≤ s.length) : cmt (s.drop i) = false := by
 unfold cmt
 exact pre_short (by rw [List.length_drop]; show _ < 2; omega)
theorem isBlk_T {c : UInt8} (h : ((c.toNat : Int) == 32) = true) : isBlk c = true := by rw [isBlk_int, h]; rfl
theorem isBlk_F {c : UInt8} (h : ((c.toNat : Int) == 32) = false) : isBlk c = ((c.toNat : Int) == 9) := by rw [isBlk_int, h]; rfl
theorem run_ne {s : List UInt8} {i : Nat} {c : UInt8} (hc : s[i]? = some c) (h : isPrt c = true) : runP (s.drop i) ≠ [] := by
 rw [drop_at hc, runP_cons h]; simp
theorem rtok_dig {s : List UInt8} {i : Nat} {c : UInt8} (hc : s[i]? = some c) (hd : isDig c = true) : tok1 (s.drop i) = if numB (runP (s.drop i)) then some (2, runP (s.drop i)) else none := by
 rw [drop_at hc]; exact tok1_dig hd
theorem rtok_let {s : List UInt8} {i : Nat} {c : UInt8} (hc : s[i]? = some c) (h : isPrt c = true) (hd : isDig c = false) : tok1 (s.drop i) = if namB (runP (s.drop i)) then some (1, runP (s.drop i)) else none := by
 rw [drop_at hc]; exact tok1_let h hd
theorem rtok_sign {s : List UInt8} {i : Nat} {c : UInt8} (hc : s[i]? = some c) (h : isPrt c = false) : tok1 (s.drop i) = if sgT (s.drop i) = [] then none else some (3, sgT (s.drop i)) := by
 have e : tok1 (s.drop i) = (signF (s.drop i)).map fun x => (3, x) := by rw [drop_at hc]; exact tok1_sign h
 rw [e]
 unfold sgT
 cases hs : signF (s.drop i) with
 | none => rfl
 | some x =>
  have := (signsL_ne x (signF_mem hs).1).1
  simp [this]
theorem rScan_c (s : List UInt8) (hs : s.length ≤ 5000) (w : World) :
  Calls Tryz.prog 17 [.string (str s)].toArray w fun e w' => ∃ x : ScX s, e = .returned (.tuple #[.slice x.a x.L.length x.c, .slice x.a2 x.L.length x.c2, .bool x.ok]) ∧ St w [] [rowc (.slice x.a x.L.length x.c) x.L.length 38 6 (tkv rtl x.L), tksC x.F x.L] w' := by
 refine enter Tryz.func17 rfl Tryz.ntmps17 rfl (St.init _) ?_
 refine jN 18 ?_
 refine WC.loop (α := Nat) (fun k => k ≤ s.length ∧ (s.take k).all okC = true) (fun k => [(0, .string (str s)), (2, .slice none 0 0), (3, .slice none 0 0), (4, .bool false), (5, .int .i64 k)]) (fun _ => []) (fun k => s.length - k) (0) ?_ ?_ ?_ ?_
 ·exact ⟨by omega, by simp⟩
 ·exact ⟨rfl, rfl, rfl, rfl, rfl, trivial⟩
 ·rfl
 rintro k ⟨hk, hal⟩
 refine jN 13 ?_
 refine WC.cond rfl (fun h7 => ?_) (fun h7 => ?_)
 ·have hlt : k < s.length := by simpa using h7
  obtain ⟨c, hc⟩ : ∃ c, s[k]? = some c := ⟨s[k], by simp [hlt]⟩
  refine jN 5 ?_
  refine WC.cutF [(32, .bool (!okC c)), (0, .string (str s)), (2, .slice none 0 0), (3, .slice none 0 0), (4, .bool false), (5, .int .i64 k)] (fun Q' hQ => ?_) ?_
  ·refine jN 6 ?_
   refine WL.indexS (i := k) F.und9 rfl rfl rfl hc ?_
   refine jN 4 ?_
   refine WA.splitB (i := 21) rfl (fun g13 => ?_) (fun g13 => ?_)
   ·refine jN 8 ?_
    refine WL.indexS (i := k) F.und9 rfl rfl rfl hc ?_
    refine jN 6 ?_
    refine WA.splitB (i := 26) rfl (fun g18 => ?_) (fun g18 => ?_)
    ·refine jN 14 ?_
     refine WQ.byCut hQ (subF_bool ?_ ⟨rfl, rfl, rfl, rfl, rfl, trivial⟩ rfl)
     first | exact okC_a g13 g18 | exact okC_b g13 g18 | exact okC_c g13
    ·refine jN 8 ?_
     refine WL.indexS (i := k) F.und9 rfl rfl rfl hc ?_
     refine jN 9 ?_
     refine WQ.byCut hQ (subF_bool ?_ ⟨rfl, rfl, rfl, rfl, rfl, trivial⟩ rfl)
     first | exact okC_a g13 g18 | exact okC_b g13 g18 | exact okC_c g13
   ·refine jN 23 ?_
    refine WQ.byCut hQ (subF_bool ?_ ⟨rfl, rfl, rfl, rfl, rfl, trivial⟩ rfl)
    first | exact okC_a g13 g18 | exact okC_b g13 g18 | exact okC_c g13
  refine jN 1 ?_
  refine WC.cond rfl (fun h24 => ?_) (fun h24 => ?_)
  ·have hcw : okC c = false := by simpa using h24
   refine jN 16 ?_
   have hno : toksL s = none := by unfold toksL; rw [if_neg (by rw [show s.all okC = false from List.all_eq_false.2 ⟨c, List.mem_of_getElem? hc, by rw [hcw]; simp⟩]; simp)]
   exact WQ.ret (rs := [.tmp 2, .tmp 3, .tmp 4]) rfl (.tmp rfl (.tmp rfl (.tmp rfl .nil))) (fun w hS => ⟨⟨false, [], [], none, 0, none, 0, by rw [hno]; rfl, fun _ => rfl⟩, rfl, (((hS.tkNil).rowNil 38 6).sublist (List.Sublist.cons_cons _ (List.Sublist.cons_cons _ (List.nil_sublist _))))⟩)
  ·have hcw : okC c = true := by simpa using h24
   refine jN 11 ?_
   refine WQ.back (k + 1) ?_ ?_ ?_ ?_
   ·exact ⟨by omega, by rw [take_all2 hc, hal, hcw]; rfl⟩
   ·omega
   ·exact ⟨rfl, rfl, rfl, rfl, rfl, trivial⟩
   ·rfl
 ·have hkl : k = s.length := by simp at h7; omega
  subst hkl
  rw [List.take_length] at hal
  have hall := hal
  clear hal hk h7
  refine jN 25 ?_
  refine WC.chunks (C' := [rowc (.slice none 0 0) 0 38 6 [], tksC [] [], rowc (.slice none 0 0) 0 3 1 []]) (fun w hS => (jK (((hS.tkNil).rowNil 3 1).rowNil 38 6))) ?_
  refine WC.loop (α := ScG) (fun g => g.i ≤ s.length ∧ Lexd s g.i (g.L.map (·.2)) ∧ g.L.length ≤ g.i ∧ g.at_.length = g.L.length) (fun g => [(2, .slice none 0 0), (3, .slice none 0 0), (4, .bool false), (0, .string (str s)), (6, .slice g.a g.L.length g.c), (7, .slice g.a2 g.L.length g.c2), (8, .int .i64 (g.i : Int))]) (fun g => [rowc (.slice g.a g.L.length g.c) g.L.length 38 6 (tkv rtl g.L), tksC g.F g.L, rowc (.slice g.a2 g.L.length g.c2) g.L.length 3 1 (intsV g.at_)]) (fun g => s.length - g.i) (⟨0, [], [], none, 0, none, 0, []⟩) ?_ ?_ ?_ ?_
  ·exact ⟨Nat.zero_le _, Lexd.zero s, Nat.le_refl _, rfl⟩
  ·exact ⟨rfl, rfl, rfl, rfl, rfl, rfl, rfl, trivial⟩
  ·rfl
  rintro ⟨i, L, Fs, a, c, a2, c2, at_⟩ ⟨hi, hlx, hLi, hal⟩
  dsimp only at hi hlx hLi hal ⊢
  refine jN 13 ?_
  refine WC.cond rfl (fun h24 => ?_) (fun h24 => ?_)
  ·have hlt : i < s.length := by simpa using h24
   obtain ⟨ch, hch⟩ : ∃ c, s[i]? = some c := ⟨_, List.getElem?_eq_getElem hlt⟩
   refine jN 5 ?_
   refine WC.cutF [(46, .bool (isBlk ch)), (2, .slice none 0 0), (3, .slice none 0 0), (4, .bool false), (0, .string (str s)), (6, .slice a L.length c), (7, .slice a2 L.length c2), (8, .int .i64 (i : Int))] (fun Q' hQ => ?_) ?_
   ·refine jN 6 ?_
    refine WL.indexS (i := i) F.und9 rfl rfl rfl hch ?_
    refine jN 4 ?_
    refine WA.splitB (i := 41) rfl (fun g41 => ?_) (fun g41 => ?_)
    ·refine jN 11 ?_
     refine WQ.byCut hQ (subF_bool ?_ ⟨rfl, rfl, rfl, rfl, rfl, rfl, rfl, trivial⟩ rfl)
     first | exact (isBlk_T g41).symm | exact (isBlk_F g41).symm | exact isBlk_T g41 | exact isBlk_F g41
    ·refine jN 8 ?_
     refine WL.indexS (i := i) F.und9 rfl rfl rfl hch ?_
     refine jN 6 ?_
     refine WQ.byCut hQ (subF_bool ?_ ⟨rfl, rfl, rfl, rfl, rfl, rfl, rfl, trivial⟩ rfl)
     first | exact (isBlk_T g41).symm | exact (isBlk_F g41).symm | exact isBlk_T g41 | exact isBlk_F g41
   refine jN 1 ?_
   refine WC.cond rfl (fun h28 => ?_) (fun h28 => ?_)
   ·refine jN 13 ?_
    refine WQ.back (⟨i + 1, L, Fs, a, c, a2, c2, at_⟩) ?_ ?_ ?_ ?_
    ·exact ⟨hlt, hlx.blank hch h28, by show L.length ≤ i + 1; omega, hal⟩
    ·show s.length - (i + 1) < s.length - i; omega
    ·exact ⟨rfl, rfl, rfl, rfl, rfl, rfl, rfl, trivial⟩
    ·rfl
   ·refine jN 4 ?_
    refine WC.cutF [(61, .bool (cmt (s.drop i))), (2, .slice none 0 0), (3, .slice none 0 0), (4, .bool false), (0, .string (str s)), (6, .slice a L.length c), (7, .slice a2 L.length c2), (8, .int .i64 (i : Int))] (fun Q' hQ => ?_) ?_
    ·refine jN 13 ?_
     refine WA.splitB (i := 54) rfl (fun g54 => ?_) (fun g54 => ?_)
     ·have h2l : i + 2 ≤ s.length := by simp at g54; omega
      refine jN 14 ?_
      refine WL.y (F := fun _ => True) (Yl.sliceFT (m := i) (n := i + 2) F.und9 rfl rfl rfl (by omega) h2l) rfl (fun _ _ => trivial) ?_
      refine jN 6 ?_
      refine WQ.byCut hQ (subF_bool ?_ ⟨rfl, rfl, rfl, rfl, rfl, rfl, rfl, trivial⟩ rfl)
      first | exact (cmt_take h2l).symm | exact cmt_short h2n | exact cmt_take h2l | exact (cmt_short h2n).symm
     ·have h2n : ¬ i + 2 ≤ s.length := by simp at g54; omega
      refine jN 15 ?_
      refine WQ.byCut hQ (subF_bool ?_ ⟨rfl, rfl, rfl, rfl, rfl, rfl, rfl, trivial⟩ rfl)
      first | exact (cmt_take h2l).symm | exact cmt_short h2n | exact cmt_take h2l | exact (cmt_short h2n).symm
    refine jN 1 ?_
    refine WC.cond rfl (fun hcm => ?_) (fun hcm => ?_)
    ·refine jN 21 ?_
     have hgood : toksN s.length s = some (L.map (·.2)) := hlx.cmt hch h28 hcm
     have hyes : toksL s = some (L.map (·.2)) := by unfold toksL; rw [if_pos hall]; exact hgood
     exact WQ.ret (rs := [.tmp 2, .tmp 3, .tmp 4]) rfl (.tmp rfl (.tmp rfl (.tmp rfl .nil))) (fun w hS => ⟨⟨true, L, Fs, a, c, a2, c2, by rw [hyes]; rfl, fun h => (by cases h)⟩, rfl, (jK hS)⟩)
    ·refine jN 9 ?_
     refine WL.y (F := fun _ => True) (Yl.sliceFrom (n := i) F.und9 rfl rfl hi) rfl (fun _ _ => trivial) ?_
     refine jN 1 ?_
     refine WL.callV F.fun39 rfl rfl (fun w hS => rsign_c (s.drop i) (by rw [List.length_drop]; omega) w) ?_
     refine jN 5 ?_
     refine WL.buildSlice F.sl30 F.ez30 rfl rfl rfl rfl jB rfl (fun b68 => ?_)
     refine jN 3 ?_
     refine WL.alloc F.zero38 rfl (fun b9 => ?_)
     refine jN 12 ?_
     refine WL.indexS (i := i) F.und9 rfl rfl rfl hch ?_
     refine jN 1 ?_
     refine WL.callV F.fun40 rfl rfl (fun w hS => rPart_c ch w) ?_
     refine jN 2 ?_
     refine WC.cond rfl (fun hp => ?_) (fun hp => ?_)
     ·have hrne := run_ne hch hp
      refine jN 10 ?_
      refine WC.loop (α := Nat) (fun j => i + j ≤ s.length ∧ ((s.drop i).take j).all isPrt = true) (fun j => [(2, .slice none 0 0), (3, .slice none 0 0), (4, .bool false), (0, .string (str s)), (6, .slice a L.length c), (7, .slice a2 L.length c2), (8, .int .i64 (i : Int)), (9, pp b9), (10, .int .i64 ((i + j : Nat) : Int))]) (fun _ => [pt b9 [.int .u8 3, .string (str (sgT (s.drop i))), .slice (some ⟨b68, 0, none⟩) 1 1, .int .i64 0, .int .i64 0, .slice none 0 0] 38, pt b68 [.int .i64 (L.length : Int)] 3, rowc (.slice a L.length c) L.length 38 6 (tkv rtl L), tksC Fs L, rowc (.slice a2 L.length c2) L.length 3 1 (intsV at_)]) (fun j => s.length - (i + j)) (0) ?_ ?_ ?_ ?_
      ·exact ⟨by omega, by simp⟩
      ·exact ⟨rfl, rfl, rfl, rfl, rfl, rfl, rfl, rfl, rfl, trivial⟩
      ·rfl
      rintro j ⟨hj, haj⟩
      refine jN 2 ?_
      refine WC.cutF [(84, .bool (match s[i + j]? with | some c => isPrt c | none => false)), (2, .slice none 0 0), (3, .slice none 0 0), (4, .bool false), (0, .string (str s)), (6, .slice a L.length c), (7, .slice a2 L.length c2), (8, .int .i64 (i : Int)), (9, pp b9), (10, .int .i64 ((i + j : Nat) : Int))] (fun Q' hQ => ?_) ?_
      ·refine jN 11 ?_
       refine WA.splitB (i := 79) rfl (fun g10 => ?_) (fun g10 => ?_)
       ·have hlj : i + j < s.length := by simp at g10; omega
        obtain ⟨cj, hcj⟩ : ∃ c, s[i + j]? = some c := ⟨s[i + j], by simp [hlj]⟩
        refine jN 8 ?_
        refine WL.indexS (i := i + j) F.und9 rfl rfl rfl hcj ?_
        refine jN 2 ?_
        refine WL.callV F.fun40 rfl rfl (fun w hS => rPart_c cj w) ?_
        refine jN 3 ?_
        refine WQ.byCut hQ (subF_bool ?_ ⟨rfl, rfl, rfl, rfl, rfl, rfl, rfl, rfl, rfl, trivial⟩ rfl)
        first | (rw [hcj]; done) | (rw [List.getElem?_eq_none (show s.length ≤ i + j by simp at g10; omega)])
       ·refine jN 11 ?_
        refine WQ.byCut hQ (subF_bool ?_ ⟨rfl, rfl, rfl, rfl, rfl, rfl, rfl, rfl, rfl, trivial⟩ rfl)
        first | (rw [hcj]; done) | (rw [List.getElem?_eq_none (show s.length ≤ i + j by simp at g10; omega)])
      refine jN 1 ?_
      refine WC.cond rfl (fun h15 => ?_) (fun h15 => ?_)
      ·obtain ⟨cj, hcj, hcw⟩ : ∃ c, s[i + j]? = some c ∧ isPrt c = true := by cases hq : s[i + j]? with | none => rw [hq] at h15; cases h15 | some c => rw [hq] at h15; exact ⟨c, rfl, h15⟩
       have hlj : i + j < s.length := (List.getElem?_eq_some_iff.1 hcj).1
       refine jN 12 ?_
       refine WQ.back (j + 1) ?_ ?_ ?_ ?_
       ·exact ⟨by omega, take_drop_all hcj haj hcw⟩
       ·omega
       ·exact ⟨rfl, rfl, rfl, rfl, rfl, rfl, rfl, rfl, rfl, trivial⟩
       ·rfl
      ·have he : i + j = s.length ∨ ∃ c, s[i + j]? = some c ∧ isPrt c = false := by cases hq : s[i + j]? with | none => (have := List.getElem?_eq_none_iff.1 hq; left; omega) | some c => rw [hq] at h15; exact .inr ⟨c, rfl, h15⟩
       have hrun := runP_take haj he
       refine jN 14 ?_
       refine WL.y (F := fun _ => True) (Yl.sliceFT (m := i) (n := i + j) F.und9 rfl rfl rfl (by omega) (by omega)) rfl (fun _ _ => trivial) ?_
       rw [show i + j - i = j by omega, ← hrun]
       refine jN 22 ?_
       refine WL.indexS (i := i) F.und9 rfl rfl rfl hch ?_
       refine jN 1 ?_
       refine WL.callV F.fun41 rfl rfl (fun w hS => rDigit_c ch w) ?_
       refine jN 2 ?_
       refine WC.cond rfl (fun hd => ?_) (fun hd => ?_)
       ·have hsg := rtok_dig hch hd
        refine jN 8 ?_
        refine WC.cutF [(117, .bool (!numB (runP (s.drop i)))), (2, .slice none 0 0), (3, .slice none 0 0), (4, .bool false), (0, .string (str s)), (6, .slice a L.length c), (7, .slice a2 L.length c2), (8, .int .i64 (i : Int)), (9, pp b9)] (fun Q' hQ => ?_) ?_
        ·refine jN 9 ?_
         refine WA.splitB (i := 101) rfl (fun g101 => ?_) (fun g101 => ?_)
         ·exact absurd g101 (by decide)
         ·refine jN 24 ?_
          refine WA.splitB (i := 111) rfl (fun g111 => ?_) (fun g111 => ?_)
          ·refine jN 8 ?_
           refine WL.callV F.fun43 rfl rfl (fun w hS => rIsNumber_c (runP (s.drop i)) w) ?_
           refine jN 9 ?_
           refine WQ.byCut hQ (subF_bool ?_ ⟨rfl, rfl, rfl, rfl, rfl, rfl, rfl, rfl, trivial⟩ rfl)
           rfl
          ·exact absurd g111 (by decide)
        refine jN 1 ?_
        refine WC.cond rfl (fun hb => ?_) (fun hb => ?_)
        ·have hnb : numB (runP (s.drop i)) = false := by simpa using hb
         rw [hnb] at hsg
         refine jN 16 ?_
         have hbad : toksN s.length s = none := hlx.bad hch h28 hcm hsg
         have hno : toksL s = none := by unfold toksL; rw [if_pos hall]; exact hbad
         exact WQ.ret (rs := [.tmp 2, .tmp 3, .tmp 4]) rfl (.tmp rfl (.tmp rfl (.tmp rfl .nil))) (fun w hS => ⟨⟨false, [], [], none, 0, none, 0, by rw [hno]; rfl, fun _ => rfl⟩, rfl, (((hS.tkNil).rowNil 38 6).sublist (List.Sublist.cons_cons _ (List.Sublist.cons_cons _ (List.nil_sublist _))))⟩)
        ·have hnb : numB (runP (s.drop i)) = true := by simpa using hb
         rw [hnb] at hsg
         refine jN 13 ?_
         refine WC.cond rfl (fun he0 => ?_) (fun he0 => ?_)
         ·exact absurd (by simpa using he0) hrne
         ·have htok : tok1 (s.drop i) = some (2, runP (s.drop i)) := hsg
          refine jN 9 ?_
          refine WL.buildSlice F.sl27 F.ez27 rfl rfl rfl rfl jB rfl (fun b123 => ?_)
          refine jN 1 ?_
          refine WL.appendE (news := [.int .u8 2, .string (str (runP (s.drop i))), .slice (some ⟨b68, 0, none⟩) 1 1, .int .i64 0, .int .i64 0, .slice none 0 0]) F.el27 rfl rfl rfl jR (fun w hS jj u hu => by rw [Nat.zero_add]; exact hS.cell (cs := [.int .u8 2, .string (str (runP (s.drop i))), .slice (some ⟨b68, 0, none⟩) 1 1, .int .i64 0, .int .i64 0, .slice none 0 0]) jM hu) rfl jO (Nat.le_trans (m := 5001) (by omega) (by decide)) (by omega) (fun a9 c9 => ?_)
          refine jN 11 ?_
          refine WL.buildSlice F.sl30 F.ez30 rfl rfl rfl rfl jB rfl (fun b127 => ?_)
          refine jN 1 ?_
          refine WL.appendE (news := [.int .i64 (i : Int)]) F.el30 rfl rfl rfl jR (fun w hS jj u hu => by rw [Nat.zero_add]; exact hS.cell (cs := [.int .i64 (i : Int)]) jM hu) rfl jO (Nat.le_trans (m := 5001) (by omega) (by decide)) (by omega) (fun a8 c8 => ?_)
          refine jN 13 ?_
          have htl := tok1_len htok
          have hdl : (s.drop i).length = s.length - i := List.length_drop
          dsimp only at htl
          refine jN 6 ?_
          refine WQ.chunks (C' := [rowc (.slice a9 (L.length + 1) c9) (L.length + 1) 38 6 (tkv rtl L ++ [.int .u8 2, .string (str (runP (s.drop i))), .slice (some ⟨b68, 0, none⟩) 1 1, .int .i64 0, .int .i64 0, .slice none 0 0]), tksC (Fs ++ [b68]) (L ++ [(b68, 2, (runP (s.drop i)))]), rowc (.slice a8 (L.length + 1) c8) (L.length + 1) 3 1 (intsV at_ ++ [.int .i64 (i : Int)])]) (fun w hS => (jK (St.tkSnoc (k := 2) (t := (runP (s.drop i))) (St.pick (St.pick hS (c := pt b68 [.int .i64 (L.length : Int)] 3) jR) (c := tksC Fs L) jR)))) ?_
          refine WQ.back (⟨i + (runP (s.drop i)).length, L ++ [(b68, 2, (runP (s.drop i)))], Fs ++ [b68], a9, c9, a8, c8, at_ ++ [(i : Int)]⟩) ?_ ?_ ?_ ?_
          ·exact ⟨by show i + (runP (s.drop i)).length ≤ s.length; omega, by show Lexd s _ ((L ++ [(b68, 2, (runP (s.drop i)))] : List TK).map (fun x : TK => x.2)); rw [List.map_append]; exact hlx.tok hch h28 hcm htok, by show (L ++ [(b68, 2, (runP (s.drop i)))] : List TK).length ≤ i + (runP (s.drop i)).length; simp; omega, by show (at_ ++ [(i : Int)]).length = (L ++ [(b68, 2, (runP (s.drop i)))] : List TK).length; simp [hal]⟩
          ·show s.length - (i + (runP (s.drop i)).length) < s.length - i; omega
          ·simp only [List.length_append, List.length_cons, List.length_nil]; exact ⟨rfl, rfl, rfl, rfl, rfl, rfl, rfl, trivial⟩
          ·simp only [List.length_append, List.length_cons, List.length_nil, tkv_append, List.map_append]; rfl
       ·have hsg := rtok_let hch hp hd
        refine jN 3 ?_
        refine WC.cutF [(117, .bool (!namB (runP (s.drop i)))), (2, .slice none 0 0), (3, .slice none 0 0), (4, .bool false), (0, .string (str s)), (6, .slice a L.length c), (7, .slice a2 L.length c2), (8, .int .i64 (i : Int)), (9, pp b9)] (fun Q' hQ => ?_) ?_
        ·refine jN 9 ?_
         refine WA.splitB (i := 101) rfl (fun g101 => ?_) (fun g101 => ?_)
         ·refine jN 8 ?_
          refine WL.callV F.fun42 rfl rfl (fun w hS => rIsName_c (runP (s.drop i)) w) ?_
          refine jN 7 ?_
          refine WA.splitB (i := 107) rfl (fun g107 => ?_) (fun g107 => ?_)
          ·refine jN 21 ?_
           refine WQ.byCut hQ (subF_bool ?_ ⟨rfl, rfl, rfl, rfl, rfl, rfl, rfl, rfl, trivial⟩ rfl)
           first | (rw [g107]; done) | rfl
          ·refine jN 12 ?_
           refine WA.splitB (i := 111) rfl (fun g111 => ?_) (fun g111 => ?_)
           ·exact absurd g111 (by decide)
           ·refine jN 14 ?_
            refine WQ.byCut hQ (subF_bool ?_ ⟨rfl, rfl, rfl, rfl, rfl, rfl, rfl, rfl, trivial⟩ rfl)
            first | (rw [g107]; done) | rfl
         ·exact absurd g101 (by decide)
        refine jN 1 ?_
        refine WC.cond rfl (fun hb => ?_) (fun hb => ?_)
        ·have hnb : namB (runP (s.drop i)) = false := by simpa using hb
         rw [hnb] at hsg
         refine jN 16 ?_
         have hbad : toksN s.length s = none := hlx.bad hch h28 hcm hsg
         have hno : toksL s = none := by unfold toksL; rw [if_pos hall]; exact hbad
         exact WQ.ret (rs := [.tmp 2, .tmp 3, .tmp 4]) rfl (.tmp rfl (.tmp rfl (.tmp rfl .nil))) (fun w hS => ⟨⟨false, [], [], none, 0, none, 0, by rw [hno]; rfl, fun _ => rfl⟩, rfl, (((hS.tkNil).rowNil 38 6).sublist (List.Sublist.cons_cons _ (List.Sublist.cons_cons _ (List.nil_sublist _))))⟩)
        ·have hnb : namB (runP (s.drop i)) = true := by simpa using hb
         rw [hnb] at hsg
         refine jN 13 ?_
         refine WC.cond rfl (fun he0 => ?_) (fun he0 => ?_)
         ·exact absurd (by simpa using he0) hrne
         ·have htok : tok1 (s.drop i) = some (1, runP (s.drop i)) := hsg
          refine jN 9 ?_
          refine WL.buildSlice F.sl27 F.ez27 rfl rfl rfl rfl jB rfl (fun b123 => ?_)
          refine jN 1 ?_
          refine WL.appendE (news := [.int .u8 1, .string (str (runP (s.drop i))), .slice (some ⟨b68, 0, none⟩) 1 1, .int .i64 0, .int .i64 0, .slice none 0 0]) F.el27 rfl rfl rfl jR (fun w hS jj u hu => by rw [Nat.zero_add]; exact hS.cell (cs := [.int .u8 1, .string (str (runP (s.drop i))), .slice (some ⟨b68, 0, none⟩) 1 1, .int .i64 0, .int .i64 0, .slice none 0 0]) jM hu) rfl jO (Nat.le_trans (m := 5001) (by omega) (by decide)) (by omega) (fun a9 c9 => ?_)
          refine jN 11 ?_
          refine WL.buildSlice F.sl30 F.ez30 rfl rfl rfl rfl jB rfl (fun b127 => ?_)
          refine jN 1 ?_
          refine WL.appendE (news := [.int .i64 (i : Int)]) F.el30 rfl rfl rfl jR (fun w hS jj u hu => by rw [Nat.zero_add]; exact hS.cell (cs := [.int .i64 (i : Int)]) jM hu) rfl jO (Nat.le_trans (m := 5001) (by omega) (by decide)) (by omega) (fun a8 c8 => ?_)
          refine jN 13 ?_
          have htl := tok1_len htok
          have hdl : (s.drop i).length = s.length - i := List.length_drop
          dsimp only at htl
          refine jN 6 ?_
          refine WQ.chunks (C' := [rowc (.slice a9 (L.length + 1) c9) (L.length + 1) 38 6 (tkv rtl L ++ [.int .u8 1, .string (str (runP (s.drop i))), .slice (some ⟨b68, 0, none⟩) 1 1, .int .i64 0, .int .i64 0, .slice none 0 0]), tksC (Fs ++ [b68]) (L ++ [(b68, 1, (runP (s.drop i)))]), rowc (.slice a8 (L.length + 1) c8) (L.length + 1) 3 1 (intsV at_ ++ [.int .i64 (i : Int)])]) (fun w hS => (jK (St.tkSnoc (k := 1) (t := (runP (s.drop i))) (St.pick (St.pick hS (c := pt b68 [.int .i64 (L.length : Int)] 3) jR) (c := tksC Fs L) jR)))) ?_
          refine WQ.back (⟨i + (runP (s.drop i)).length, L ++ [(b68, 1, (runP (s.drop i)))], Fs ++ [b68], a9, c9, a8, c8, at_ ++ [(i : Int)]⟩) ?_ ?_ ?_ ?_
          ·exact ⟨by show i + (runP (s.drop i)).length ≤ s.length; omega, by show Lexd s _ ((L ++ [(b68, 1, (runP (s.drop i)))] : List TK).map (fun x : TK => x.2)); rw [List.map_append]; exact hlx.tok hch h28 hcm htok, by show (L ++ [(b68, 1, (runP (s.drop i)))] : List TK).length ≤ i + (runP (s.drop i)).length; simp; omega, by show (at_ ++ [(i : Int)]).length = (L ++ [(b68, 1, (runP (s.drop i)))] : List TK).length; simp [hal]⟩
          ·show s.length - (i + (runP (s.drop i)).length) < s.length - i; omega
          ·simp only [List.length_append, List.length_cons, List.length_nil]; exact ⟨rfl, rfl, rfl, rfl, rfl, rfl, rfl, trivial⟩
          ·simp only [List.length_append, List.length_cons, List.length_nil, tkv_append, List.map_append]; rfl
     ·have hsg := rtok_sign hch hp
      refine jN 13 ?_
      refine WC.cond rfl (fun he0 => ?_) (fun he0 => ?_)
      ·have hse : sgT (s.drop i) = [] := by simpa using he0
       rw [if_pos hse] at hsg
       refine jN 16 ?_
       have hbad : toksN s.length s = none := hlx.bad hch h28 hcm hsg
       have hno : toksL s = none := by unfold toksL; rw [if_pos hall]; exact hbad
       exact WQ.ret (rs := [.tmp 2, .tmp 3, .tmp 4]) rfl (.tmp rfl (.tmp rfl (.tmp rfl .nil))) (fun w hS => ⟨⟨false, [], [], none, 0, none, 0, by rw [hno]; rfl, fun _ => rfl⟩, rfl, (((hS.tkNil).rowNil 38 6).sublist (List.Sublist.cons_cons _ (List.Sublist.cons_cons _ (List.nil_sublist _))))⟩)
      ·have hse : sgT (s.drop i) ≠ [] := by simpa using he0
       rw [if_neg hse] at hsg
       have htok : tok1 (s.drop i) = some (3, sgT (s.drop i)) := hsg
       refine jN 9 ?_
       refine WL.buildSlice F.sl27 F.ez27 rfl rfl rfl rfl jB rfl (fun b123 => ?_)
       refine jN 1 ?_
       refine WL.appendE (news := [.int .u8 3, .string (str (sgT (s.drop i))), .slice (some ⟨b68, 0, none⟩) 1 1, .int .i64 0, .int .i64 0, .slice none 0 0]) F.el27 rfl rfl rfl jR (fun w hS jj u hu => by rw [Nat.zero_add]; exact hS.cell (cs := [.int .u8 3, .string (str (sgT (s.drop i))), .slice (some ⟨b68, 0, none⟩) 1 1, .int .i64 0, .int .i64 0, .slice none 0 0]) jM hu) rfl jO (Nat.le_trans (m := 5001) (by omega) (by decide)) (by omega) (fun a9 c9 => ?_)
       refine jN 11 ?_
       refine WL.buildSlice F.sl30 F.ez30 rfl rfl rfl rfl jB rfl (fun b127 => ?_)
       refine jN 1 ?_
       refine WL.appendE (news := [.int .i64 (i : Int)]) F.el30 rfl rfl rfl jR (fun w hS jj u hu => by rw [Nat.zero_add]; exact hS.cell (cs := [.int .i64 (i : Int)]) jM hu) rfl jO (Nat.le_trans (m := 5001) (by omega) (by decide)) (by omega) (fun a8 c8 => ?_)
       refine jN 13 ?_
       have htl := tok1_len htok
       have hdl : (s.drop i).length = s.length - i := List.length_drop
       dsimp only at htl
       refine jN 6 ?_
       refine WQ.chunks (C' := [rowc (.slice a9 (L.length + 1) c9) (L.length + 1) 38 6 (tkv rtl L ++ [.int .u8 3, .string (str (sgT (s.drop i))), .slice (some ⟨b68, 0, none⟩) 1 1, .int .i64 0, .int .i64 0, .slice none 0 0]), tksC (Fs ++ [b68]) (L ++ [(b68, 3, (sgT (s.drop i)))]), rowc (.slice a8 (L.length + 1) c8) (L.length + 1) 3 1 (intsV at_ ++ [.int .i64 (i : Int)])]) (fun w hS => (jK (St.tkSnoc (k := 3) (t := (sgT (s.drop i))) (St.pick (St.pick hS (c := pt b68 [.int .i64 (L.length : Int)] 3) jR) (c := tksC Fs L) jR)))) ?_
       refine WQ.back (⟨i + (sgT (s.drop i)).length, L ++ [(b68, 3, (sgT (s.drop i)))], Fs ++ [b68], a9, c9, a8, c8, at_ ++ [(i : Int)]⟩) ?_ ?_ ?_ ?_
       ·exact ⟨by show i + (sgT (s.drop i)).length ≤ s.length; omega, by show Lexd s _ ((L ++ [(b68, 3, (sgT (s.drop i)))] : List TK).map (fun x : TK => x.2)); rw [List.map_append]; exact hlx.tok hch h28 hcm htok, by show (L ++ [(b68, 3, (sgT (s.drop i)))] : List TK).length ≤ i + (sgT (s.drop i)).length; simp; omega, by show (at_ ++ [(i : Int)]).length = (L ++ [(b68, 3, (sgT (s.drop i)))] : List TK).length; simp [hal]⟩
       ·show s.length - (i + (sgT (s.drop i)).length) < s.length - i; omega
       ·simp only [List.length_append, List.length_cons, List.length_nil]; exact ⟨rfl, rfl, rfl, rfl, rfl, rfl, rfl, trivial⟩
       ·simp only [List.length_append, List.length_cons, List.length_nil, tkv_append, List.map_append]; rfl
  ·have hle : s.length ≤ i := by simpa using h24
   refine jN 20 ?_
   have hgood : toksN s.length s = some (L.map (·.2)) := hlx.stop hle
   have hyes : toksL s = some (L.map (·.2)) := by unfold toksL; rw [if_pos hall]; exact hgood
   exact WQ.ret (rs := [.tmp 2, .tmp 3, .tmp 4]) rfl (.tmp rfl (.tmp rfl (.tmp rfl .nil))) (fun w hS => ⟨⟨true, L, Fs, a, c, a2, c2, by rw [hyes]; rfl, fun h => (by cases h)⟩, rfl, (jK hS)⟩)
theorem rLex_c (s : List UInt8) (hs : s.length ≤ 5000) (w : World) :
  Calls Tryz.prog 6 [.string (str s)].toArray w fun e w' => ∃ x : LxX s, e = .returned (.tuple #[.slice x.a x.L.length x.c, .int .i64 x.e]) ∧ St w [] [rowc (.slice x.a x.L.length x.c) x.L.length 38 6 (tkv rtl x.L), tksC x.F x.L] w' := by
 refine enter Tryz.func6 rfl Tryz.ntmps6 rfl (St.init _) ?_
 refine jN 13 ?_
 refine jC (β := ScX s) (res := fun x => .tuple #[.slice x.a x.L.length x.c, .slice x.a2 x.L.length x.c2, .bool x.ok]) (cs := fun x => [rowc (.slice x.a x.L.length x.c) x.L.length 38 6 (tkv rtl x.L), tksC x.F x.L]) F.fun17 rfl (fun w hS _ => rScan_c s hs w) (fun x => ?_)
 refine jN 25 ?_
 refine WC.cond rfl (fun h13 => ?_) (fun h13 => ?_)
 ·have hx : x.ok = false := by simpa using h13
  have he := lexE_no x hx
  refine jN 10 ?_
  exact WQ.ret (rs := [.tmp 2, .tmp 3]) rfl (.tmp rfl (.tmp rfl .nil)) (fun w hS => ⟨⟨4, [], [], none, 0, he⟩, rfl, (((hS.tkNil).rowNil 38 6).sublist (List.Sublist.cons_cons _ (List.Sublist.cons_cons _ (List.nil_sublist _))))⟩)
 ·have hx : x.ok = true := by simpa using h13
  refine jN 13 ?_
  refine WC.cond rfl (fun h16 => ?_) (fun h16 => ?_)
  ·have he := lexE_long x hx (by simp at h16; omega)
   refine jN 10 ?_
   exact WQ.ret (rs := [.tmp 2, .tmp 3]) rfl (.tmp rfl (.tmp rfl .nil)) (fun w hS => ⟨⟨5, [], [], none, 0, he⟩, rfl, (((hS.tkNil).rowNil 38 6).sublist (List.Sublist.cons_cons _ (List.Sublist.cons_cons _ (List.nil_sublist _))))⟩)
  ·have he := lexE_ok x hx (by simp at h16; omega)
   refine jN 13 ?_
   exact WQ.ret (rs := [.tmp 2, .tmp 3]) rfl (.tmp rfl (.tmp rfl .nil)) (fun w hS => ⟨⟨0, x.L, x.F, x.a, x.c, he⟩, rfl, (jK hS)⟩)
open Go Go.Eng Go.Proofs Dg
open Fm
def cmpP : List Int → List Int → Int
 | a :: r, b :: s => if a = b then cmpP r s else if a < b then -1 else 1
 | l, m => (l.length : Int) - m.length
theorem cmpP_at {l m : List Int} {i : Nat} {x y : Int} (hx : l[i]? = some x) (hy : m[i]? = some y) (h : cmpP l m = cmpP (l.drop i) (m.drop i)) : cmpP l m = if x = y then cmpP (l.drop (i + 1)) (m.drop (i + 1)) else if x < y then -1 else 1 := by
 have e : ∀ {l : List Int} {x : Int}, l[i]? = some x → l.drop i = x :: l.drop (i + 1) := fun {l x} h => by
  rw [List.drop_eq_getElem_cons (List.getElem?_eq_some_iff.1 h).1]
  congr 1
  exact (List.getElem?_eq_some_iff.1 h).2
 rw [h, e hx, e hy, cmpP]
theorem cmpP_end {l m : List Int} {i : Nat} (hi : i ≤ l.length) (hj : i ≤ m.length) (he : ¬ (i < l.length ∧ i < m.length)) (h : cmpP l m = cmpP (l.drop i) (m.drop i)) : cmpP l m = (l.length : Int) - m.length := by
 rw [h]
 have e : cmpP (l.drop i) (m.drop i) = ((l.drop i).length : Int) - (m.drop i).length := by
  by_cases h1 : i < l.length
  ·have : m.drop i = [] := List.drop_eq_nil_of_le (by omega)
   rw [this]
   cases l.drop i <;> rfl
  ·have : l.drop i = [] := List.drop_eq_nil_of_le (by omega)
   rw [this]
   cases m.drop i <;> rfl
 rw [e, List.length_drop, List.length_drop]
 omega
theorem cmpP_self : ∀ l : List Int, cmpP l l = 0
 | [] => by simp [cmpP]
 | a :: r => by rw [cmpP, if_pos rfl]; exact cmpP_self r
theorem run_subL {m n : Nat} (hm : m ≤ 1000000000) (hn : n ≤ 1000000000) (t : TypeId) (x y : Operand) (w : World) :
  (do eqGuard .sub t x y (.int .i64 (m : Int)) (.int .i64 (n : Int)); binOp .sub t (.int .i64 (m : Int)) (.int .i64 (n : Int)) : Sem Value).run Tryz.prog w = .ok (.int .i64 ((m : Int) - n)) w := by
 have h2 : IntKind.i64.wrap ((m : Int) - (n : Int)) = (m : Int) - (n : Int) := by
  unfold IntKind.wrap
  simp [IntKind.signed, IntKind.bits]
  omega
 simp [eqGuard, binOp, Op.intArith, h2]
theorem rPaths_c (l m : List Int) (a a2 : Option Addr) (c c2 : Nat) (hll : l.length ≤ 1000000000) (hml : m.length ≤ 1000000000) (w : World) (h1 : RdC w l a) (h2 : RdC w m a2) :
  Pure Tryz.prog 18 [.slice a l.length c, .slice a2 m.length c2] w (.int .i64 (cmpP l m)) := by
 refine enter Tryz.func18 rfl Tryz.ntmps18 rfl (St.init _) ?_
 refine jN 14 ?_
 refine WC.loop (α := Nat) (fun i => i ≤ l.length ∧ i ≤ m.length ∧ cmpP l m = cmpP (l.drop i) (m.drop i)) (fun i => [(0, .slice a l.length c), (1, .slice a2 m.length c2), (5, .int .i64 (i : Int))]) (fun _ => []) (fun i => l.length - i) (0) ?_ ?_ ?_ ?_
 ·exact ⟨Nat.zero_le _, Nat.zero_le _, by simp⟩
 ·exact ⟨rfl, rfl, rfl, trivial⟩
 ·rfl
 rintro i ⟨hi, hj, hcm⟩
 refine jN 2 ?_
 refine WC.cutF [(15, .bool (decide (i < l.length) && decide (i < m.length))), (0, .slice a l.length c), (1, .slice a2 m.length c2), (5, .int .i64 (i : Int))] (fun Q' hQ => ?_) ?_
 ·refine jN 11 ?_
  refine WA.splitB (i := 10) rfl (fun g10 => ?_) (fun g10 => ?_)
  ·refine jN 15 ?_
   refine WQ.byCut hQ (subF_bool ?_ ⟨rfl, rfl, rfl, trivial⟩ rfl)
   first | (rw [show decide (i < l.length) = true from decide_eq_true (by simp at g10; omega), Bool.true_and]; exact decide_eq_decide.2 (by omega)) | (rw [show decide (i < l.length) = false from decide_eq_false (by simp at g10; omega)]; rfl)
  ·refine jN 11 ?_
   refine WQ.byCut hQ (subF_bool ?_ ⟨rfl, rfl, rfl, trivial⟩ rfl)
   first | (rw [show decide (i < l.length) = true from decide_eq_true (by simp at g10; omega), Bool.true_and]; exact decide_eq_decide.2 (by omega)) | (rw [show decide (i < l.length) = false from decide_eq_false (by simp at g10; omega)]; rfl)
 refine jN 1 ?_
 refine WC.cond rfl (fun h15 => ?_) (fun h15 => ?_)
 ·have hlt : i < l.length ∧ i < m.length := by simpa using h15
  obtain ⟨x, hx⟩ : ∃ x, l[i]? = some x := ⟨_, List.getElem?_eq_getElem hlt.1⟩
  obtain ⟨y, hy⟩ : ∃ x, m[i]? = some x := ⟨_, List.getElem?_eq_getElem hlt.2⟩
  obtain ⟨b, o, rfl, hcx⟩ := h1 i x hx
  obtain ⟨b2, o2, rfl, hcy⟩ := h2 i y hy
  refine jN 5 ?_
  refine WC.draws [([], fun w => w.cell? ⟨b, o + i * 1, none⟩ = some (.int .i64 x)), ([], fun w => w.cell? ⟨b2, o2 + i * 1, none⟩ = some (.int .i64 y))] (by kernel_rfl) (fun w hS => facts_cons ((by rw [Nat.mul_one]; exact hS.oldc hcx (by simp))) (facts_cons ((by rw [Nat.mul_one]; exact hS.oldc hcy (by simp))) (facts_nil))) ?_
  refine jT 0 rfl (Yl.move rfl) ?_
  refine jT 1 rfl (Yl.move rfl) ?_
  refine jT 2 rfl (Yl.indexAddr F.sl30 rfl rfl hlt.1) ?_
  refine jF 3 0 rfl rfl (Yl.load1 F.one3 rfl) ?_
  refine jT 4 rfl (Yl.move rfl) ?_
  refine jT 5 rfl (Yl.move rfl) ?_
  refine jT 6 rfl (Yl.indexAddr F.sl30 rfl rfl hlt.2) ?_
  refine jF 7 1 rfl rfl (Yl.load1 F.one3 rfl) ?_
  refine jT 8 rfl (Yl.neI rfl rfl) ?_
  refine jD ?_
  refine jN 1 ?_
  refine WC.cond rfl (fun h26 => ?_) (fun h26 => ?_)
  ·have hxy : x ≠ y := by simpa using h26
   have hc9 := cmpP_at hx hy hcm
   rw [if_neg hxy] at hc9
   refine jN 2 ?_
   refine WC.draws [([], fun w => w.cell? ⟨b, o + i * 1, none⟩ = some (.int .i64 x)), ([], fun w => w.cell? ⟨b2, o2 + i * 1, none⟩ = some (.int .i64 y))] (by kernel_rfl) (fun w hS => facts_cons ((by rw [Nat.mul_one]; exact hS.oldc hcx (by simp))) (facts_cons ((by rw [Nat.mul_one]; exact hS.oldc hcy (by simp))) (facts_nil))) ?_
   refine jT 0 rfl (Yl.move rfl) ?_
   refine jT 1 rfl (Yl.move rfl) ?_
   refine jT 2 rfl (Yl.indexAddr F.sl30 rfl rfl hlt.1) ?_
   refine jF 3 0 rfl rfl (Yl.load1 F.one3 rfl) ?_
   refine jT 4 rfl (Yl.move rfl) ?_
   refine jT 5 rfl (Yl.move rfl) ?_
   refine jT 6 rfl (Yl.indexAddr F.sl30 rfl rfl hlt.2) ?_
   refine jF 7 1 rfl rfl (Yl.load1 F.one3 rfl) ?_
   refine jT 8 rfl (Yl.ltI rfl rfl) ?_
   refine jD ?_
   refine jN 1 ?_
   refine WC.cond rfl (fun h35 => ?_) (fun h35 => ?_)
   ·rw [if_pos (show x < y by simpa using h35)] at hc9
    refine jN 13 ?_
    exact WQ.ret (rs := [.tmp 4]) rfl (.tmp rfl .nil) (fun w hS => ⟨by rw [hc9]; rfl, hS⟩)
   ·rw [if_neg (show ¬ x < y by simpa using h35)] at hc9
    refine jN 14 ?_
    exact WQ.ret (rs := [.tmp 4]) rfl (.tmp rfl .nil) (fun w hS => ⟨by rw [hc9]; rfl, hS⟩)
  ·have hxy : x = y := by simpa using h26
   refine jN 11 ?_
   refine WQ.back (i + 1) ?_ ?_ ?_ ?_
   ·exact ⟨by omega, by omega, by rw [cmpP_at hx hy hcm, if_pos hxy]⟩
   ·omega
   ·exact ⟨rfl, rfl, rfl, trivial⟩
   ·rfl
 ·have hend := cmpP_end hi hj (by simpa using h15) hcm
  refine jN 16 ?_
  refine WL.bin (v := .int .i64 ((l.length : Int) - m.length)) rfl rfl rfl (fun w => run_subL hll hml _ _ _ w) ?_
  refine jN 5 ?_
  exact WQ.ret (rs := [.tmp 4]) rfl (.tmp rfl .nil) (fun w hS => ⟨by rw [hend]; rfl, hS⟩)
theorem ints_c (l m : List Int) (a a2 : Option Addr) (c c2 : Nat) (hll : l.length ≤ 1000000000) (hml : m.length ≤ 1000000000) (w : World) (h1 : RdC w l a) (h2 : RdC w m a2) :
  Pure Tryz.prog 8 [.slice a l.length c, .slice a2 m.length c2] w (.bool (cmpP l m == 0)) := by
 refine enter Tryz.func8 rfl Tryz.ntmps8 rfl (St.init _) ?_
 refine jN 13 ?_
 refine WL.callV F.fun18 rfl rfl (fun w hS => rPaths_c l m a a2 c c2 hll hml w (h1.next hS) (h2.next hS)) ?_
 refine jN 7 ?_
 exact WQ.ret (rs := [.tmp 4]) rfl (.tmp rfl .nil) (fun w hS => ⟨rfl, hS⟩)
theorem lexE_len (s : List UInt8) : (lexE s).2.length ≤ 256 := by
 unfold lexE
 split
 ·simp
 ·split
  ·simp
  ·dsimp only; omega
theorem RdC.one {w : World} {b : Nat} {x : Int} (h : w.cell? ⟨b, 0, none⟩ = some (.int .i64 x)) : RdC w [x] (some ⟨b, 0, none⟩) := fun j y hy => by
 cases j with
 | zero => simp at hy; subst hy; exact ⟨b, 0, rfl, h⟩
 | succ j => simp at hy
set_option maxRecDepth 100000 in
theorem SourceLexes_c (s : List UInt8) (w : World) (hl : LibW w) (hg : SgW w) (haw : ∀ w, LibW w → SgW w → Pure Tryz.prog 4 [] w (.bool true)) :
  Pure Tryz.prog 3 [.string (str s)] w (.bool true) := by
 refine enter Tryz.func3 rfl Tryz.ntmps3 rfl (St.init _) ?_
 refine jN 17 ?_
 refine WC.cond rfl (fun h10 => ?_) (fun h10 => ?_)
 ·refine jN 3 ?_
  refine WL.callV F.fun4 rfl rfl (fun w hS => haw w (hl.next hS) (hg.next hS)) ?_
  refine jN 6 ?_
  exact WQ.ret (rs := [.tmp 2]) rfl (.tmp rfl .nil) (fun w hS => ⟨rfl, hS⟩)
 ·have hs : s.length ≤ 5000 := by simp at h10; omega
  refine jN 7 ?_
  refine jC (β := LxX s) (res := fun x => .tuple #[.slice x.a x.L.length x.c, .int .i64 x.e]) (cs := fun x => [rowc (.slice x.a x.L.length x.c) x.L.length 35 7 (tkv ptl x.L), tksC x.F x.L]) F.fun5 rfl (fun w hS _ => Lex_c s hs w (hl.next hS) (hg.next hS)) (fun x => ?_)
  refine jN 17 ?_
  refine jC (β := LxX s) (res := fun y => .tuple #[.slice y.a y.L.length y.c, .int .i64 y.e]) (cs := fun y => [rowc (.slice y.a y.L.length y.c) y.L.length 38 6 (tkv rtl y.L), tksC y.F y.L]) F.fun6 rfl (fun w hS _ => rLex_c s hs w) (fun y => ?_)
  have hxy := x.hok.symm.trans y.hok
  have hxe : x.e = y.e := congrArg Prod.fst hxy
  have hxm : x.L.map (·.2) = y.L.map (·.2) := congrArg Prod.snd hxy
  have hxl : x.L.length = y.L.length := by have := congrArg List.length hxm; simpa using this
  have hL256 : x.L.length ≤ 256 := by have h1 := lexE_len s; rw [x.hok] at h1; simpa using h1
  refine jN 23 ?_
  refine WA.splitB (i := 25) rfl (fun g25 => ?_) (fun g25 => ?_)
  ·exact absurd g25 (by rw [hxe]; simp)
  ·refine jN 19 ?_
   refine WC.cond rfl (fun h31 => ?_) (fun h31 => ?_)
   ·exact absurd h31 (by rw [hxl]; simp)
   ·refine jN 10 ?_
    refine WC.chunks (C' := [rowc (.slice x.a x.L.length x.c) x.L.length 35 7 (tkv ptl x.L), tksC x.F x.L, rowc (.slice y.a y.L.length y.c) y.L.length 38 6 (tkv rtl y.L), tksC y.F y.L]) (fun w hS => (jK hS)) ?_
    refine WC.loop (α := Nat) (fun i => i ≤ x.L.length) (fun i => [(3, .slice x.a x.L.length x.c), (5, .slice y.a y.L.length y.c), (7, .int .i64 (i : Int))]) (fun _ => [rowc (.slice x.a x.L.length x.c) x.L.length 35 7 (tkv ptl x.L), tksC x.F x.L, rowc (.slice y.a y.L.length y.c) y.L.length 38 6 (tkv rtl y.L), tksC y.F y.L]) (fun i => x.L.length - i) (0) ?_ ?_ ?_ ?_
    ·exact Nat.zero_le _
    ·exact ⟨rfl, rfl, rfl, trivial⟩
    ·rfl
    rintro i hi
    refine jN 13 ?_
    refine WC.cond rfl (fun h35 => ?_) (fun h35 => ?_)
    ·have hlt : i < x.L.length := by simpa using h35
     have hlty : i < y.L.length := by omega
     refine WC.know (φ := ∃ g, x.a = some ⟨g, 0, none⟩ ∧ x.L.length = x.L.length ∧ x.L.length ≤ x.c) (fun w hS => rowc_addr (hS.ok (rowc (.slice x.a x.L.length x.c) x.L.length 35 7 (tkv ptl x.L)) jM) (by omega)) (fun ⟨gx, hgx, _, _⟩ => ?_)
     refine WC.know (φ := ∃ g, y.a = some ⟨g, 0, none⟩ ∧ y.L.length = y.L.length ∧ y.L.length ≤ y.c) (fun w hS => rowc_addr (hS.ok (rowc (.slice y.a y.L.length y.c) y.L.length 38 6 (tkv rtl y.L)) jM) (by omega)) (fun ⟨gy, hgy, _, _⟩ => ?_)
     rw [hgx, hgy]
     obtain ⟨⟨bx, kx, tx⟩, hx⟩ : ∃ z, x.L[i]? = some z := ⟨_, List.getElem?_eq_getElem hlt⟩
     obtain ⟨⟨b9, ky, ty⟩, hy⟩ : ∃ z, y.L[i]? = some z := ⟨_, List.getElem?_eq_getElem hlty⟩
     have hkt : (kx, tx) = (ky, ty) := by have h1 : (x.L.map (·.2))[i]? = some (kx, tx) := (by rw [List.getElem?_map, hx]; rfl); have h2 : (y.L.map (·.2))[i]? = some (ky, ty) := (by rw [List.getElem?_map, hy]; rfl); rw [hxm, h2] at h1; exact (Option.some.inj h1).symm
     obtain ⟨rfl, rfl⟩ := Prod.mk.injEq .. ▸ hkt
     refine jN 5 ?_
     refine WC.draws [([5, 40, 41], fun w => ∀ j v, ([Value.slice none 0 0, .int .i64 1] : List Value)[j]? = some v → w.cell? ⟨gx, 0 + i * 7 + 5 + j, none⟩ = some v), ([40, 41], fun w => w.cell? ⟨gx, 0 + i * 7 + 0, none⟩ = some (.int .u8 (kx : Int))), ([40, 41], fun w => w.cell? ⟨gy, 0 + i * 6 + 0, none⟩ = some (.int .u8 (kx : Int))), ([40, 41], fun w => w.cell? ⟨gx, 0 + i * 7 + 1, none⟩ = some (.string (str tx))), ([40, 41], fun w => w.cell? ⟨gy, 0 + i * 6 + 1, none⟩ = some (.string (str tx))), ([41], fun w => w.cell? ⟨gx, 0 + i * 7 + 2, none⟩ = some (.slice (some ⟨bx, 0, none⟩) 1 1)), ([], fun w => w.cell? ⟨gx, 0 + i * 7 + 3, none⟩ = some (.int .i64 0)), ([], fun w => w.cell? ⟨gx, 0 + i * 7 + 4, none⟩ = some (.int .i64 0))] (by kernel_rfl) (fun w hS => facts_cons ((fun j v hv => by rw [Nat.zero_add, Nat.add_assoc]; exact rowc_cells (hS.ok (rowc (.slice (some ⟨gx, 0, none⟩) x.L.length x.c) x.L.length 35 7 (tkv ptl x.L)) jM) (tkv_at hx (5 + j) _ (by rw [List.getElem?_append_right (by simp)]; simpa using hv)))) (facts_cons ((by rw [Nat.zero_add]; exact rowc_cells (hS.ok (rowc (.slice (some ⟨gx, 0, none⟩) x.L.length x.c) x.L.length 35 7 (tkv ptl x.L)) jM) (tkv_at hx 0 _ rfl))) (facts_cons ((by rw [Nat.zero_add]; exact rowc_cells (hS.ok (rowc (.slice (some ⟨gy, 0, none⟩) y.L.length y.c) y.L.length 38 6 (tkv rtl y.L)) jM) (tkv_at hy 0 _ rfl))) (facts_cons ((by rw [Nat.zero_add]; exact rowc_cells (hS.ok (rowc (.slice (some ⟨gx, 0, none⟩) x.L.length x.c) x.L.length 35 7 (tkv ptl x.L)) jM) (tkv_at hx 1 _ rfl))) (facts_cons ((by rw [Nat.zero_add]; exact rowc_cells (hS.ok (rowc (.slice (some ⟨gy, 0, none⟩) y.L.length y.c) y.L.length 38 6 (tkv rtl y.L)) jM) (tkv_at hy 1 _ rfl))) (facts_cons ((by rw [Nat.zero_add]; exact rowc_cells (hS.ok (rowc (.slice (some ⟨gx, 0, none⟩) x.L.length x.c) x.L.length 35 7 (tkv ptl x.L)) jM) (tkv_at hx 2 _ rfl))) (facts_cons ((by rw [Nat.zero_add]; exact rowc_cells (hS.ok (rowc (.slice (some ⟨gx, 0, none⟩) x.L.length x.c) x.L.length 35 7 (tkv ptl x.L)) jM) (tkv_at hx 3 _ rfl))) (facts_cons ((by rw [Nat.zero_add]; exact rowc_cells (hS.ok (rowc (.slice (some ⟨gx, 0, none⟩) x.L.length x.c) x.L.length 35 7 (tkv ptl x.L)) jM) (tkv_at hx 4 _ rfl))) (facts_nil))))))))) ?_
     refine jT 0 rfl (Yl.move rfl) ?_
     refine jT 1 rfl (Yl.move rfl) ?_
     refine jT 2 rfl (Yl.indexAddr F.sl23 rfl rfl hlt) ?_
     refine jT 3 rfl (Yl.fieldAddr F.fld35_5 rfl) ?_
     refine jF 4 0 rfl rfl (Yl.loadN F.agg33 rfl rfl) ?_
     refine jA 5 rfl ?_
     refine WL.callV F.fun7 rfl rfl (fun w hS => Full0_c none 0 0 1 w) ?_
     refine WD.on (closed_of (by decide +kernel)) (fun w hS => Sx.gone rfl (Sx.keep ((by rw [Nat.zero_add]; exact rowc_cells (hS.ok (rowc (.slice (some ⟨gx, 0, none⟩) x.L.length x.c) x.L.length 35 7 (tkv ptl x.L)) jM) (tkv_at hx 0 _ rfl))) (Sx.keep ((by rw [Nat.zero_add]; exact rowc_cells (hS.ok (rowc (.slice (some ⟨gy, 0, none⟩) y.L.length y.c) y.L.length 38 6 (tkv rtl y.L)) jM) (tkv_at hy 0 _ rfl))) (Sx.keep ((by rw [Nat.zero_add]; exact rowc_cells (hS.ok (rowc (.slice (some ⟨gx, 0, none⟩) x.L.length x.c) x.L.length 35 7 (tkv ptl x.L)) jM) (tkv_at hx 1 _ rfl))) (Sx.keep ((by rw [Nat.zero_add]; exact rowc_cells (hS.ok (rowc (.slice (some ⟨gy, 0, none⟩) y.L.length y.c) y.L.length 38 6 (tkv rtl y.L)) jM) (tkv_at hy 1 _ rfl))) (Sx.keep ((by rw [Nat.zero_add]; exact rowc_cells (hS.ok (rowc (.slice (some ⟨gx, 0, none⟩) x.L.length x.c) x.L.length 35 7 (tkv ptl x.L)) jM) (tkv_at hx 2 _ rfl))) (Sx.keep ((by rw [Nat.zero_add]; exact rowc_cells (hS.ok (rowc (.slice (some ⟨gx, 0, none⟩) x.L.length x.c) x.L.length 35 7 (tkv ptl x.L)) jM) (tkv_at hx 3 _ rfl))) (Sx.keep ((by rw [Nat.zero_add]; exact rowc_cells (hS.ok (rowc (.slice (some ⟨gx, 0, none⟩) x.L.length x.c) x.L.length 35 7 (tkv ptl x.L)) jM) (tkv_at hx 4 _ rfl))) (Sx.none))))))))) ?_
     refine jT 6 rfl (Yl.not rfl) ?_
     refine jT 7 rfl (Yl.move rfl) ?_
     refine fun hcl => WA.splitB (i := 45) rfl (fun g45 => ?_) (fun g45 => ?_)
     ·refine (show WD _ _ _ _ _ _ _ _ _ _ _ _ from ?_) hcl
      exact absurd g45 (by decide)
     ·refine (show WD _ _ _ _ _ _ _ _ _ _ _ _ from ?_) hcl
      refine WD.takeG (i := 8) rfl rfl rfl rfl rfl rfl (by decide +kernel) (by decide +kernel) (by decide +kernel) (fun _ _ _ h => h) (by kernel_rfl) need_none (Yl.move rfl) ?_
      refine WD.takeG (i := 9) rfl rfl rfl rfl rfl rfl (by decide +kernel) (by decide +kernel) (by decide +kernel) (fun _ _ _ h => h) (by kernel_rfl) need_none (Yl.move rfl) ?_
      refine WD.takeG (i := 10) rfl rfl rfl rfl rfl rfl (by decide +kernel) (by decide +kernel) (by decide +kernel) (fun _ _ _ h => h) (by kernel_rfl) need_none (Yl.indexAddr F.sl23 rfl rfl hlt) ?_
      refine WD.takeG (i := 11) rfl rfl rfl rfl rfl rfl (by decide +kernel) (by decide +kernel) (by decide +kernel) (fun _ _ _ h => h) (by kernel_rfl) need_none (Yl.fieldAddr F.fld35_0 rfl) ?_
      refine WD.takeG (i := 12) rfl rfl rfl rfl rfl rfl (by decide +kernel) (by decide +kernel) (by decide +kernel) (fun _ _ _ h => h) (by kernel_rfl) (need_at2 1 rfl (by decide +kernel)) (Yl.load1 F.one5 rfl) ?_
      refine WD.takeG (i := 13) rfl rfl rfl rfl rfl rfl (by decide +kernel) (by decide +kernel) (by decide +kernel) (fun _ _ _ h => h) (by kernel_rfl) need_none (Yl.move rfl) ?_
      refine WD.takeG (i := 14) rfl rfl rfl rfl rfl rfl (by decide +kernel) (by decide +kernel) (by decide +kernel) (fun _ _ _ h => h) (by kernel_rfl) need_none (Yl.move rfl) ?_
      refine WD.takeG (i := 15) rfl rfl rfl rfl rfl rfl (by decide +kernel) (by decide +kernel) (by decide +kernel) (fun _ _ _ h => h) (by kernel_rfl) need_none (Yl.indexAddr F.sl27 rfl rfl hlty) ?_
      refine WD.takeG (i := 16) rfl rfl rfl rfl rfl rfl (by decide +kernel) (by decide +kernel) (by decide +kernel) (fun _ _ _ h => h) (by kernel_rfl) need_none (Yl.fieldAddr F.fld38_0 rfl) ?_
      refine WD.takeG (i := 17) rfl rfl rfl rfl rfl rfl (by decide +kernel) (by decide +kernel) (by decide +kernel) (fun _ _ _ h => h) (by kernel_rfl) (need_at2 2 rfl (by decide +kernel)) (Yl.load1 F.one5 rfl) ?_
      refine WD.takeG (i := 18) rfl rfl rfl rfl rfl rfl (by decide +kernel) (by decide +kernel) (by decide +kernel) (fun _ _ _ h => h) (by kernel_rfl) need_none (Yl.neI rfl rfl) ?_
      refine jT 19 rfl (Yl.pickF rfl rfl) ?_
      refine jT 20 rfl (Yl.move rfl) ?_
      refine fun hcl => WA.splitB (i := 58) rfl (fun g58 => ?_) (fun g58 => ?_)
      ·refine (show WD _ _ _ _ _ _ _ _ _ _ _ _ from ?_) hcl
       exact absurd g58 (by simp)
      ·refine (show WD _ _ _ _ _ _ _ _ _ _ _ _ from ?_) hcl
       refine WD.takeG (i := 21) rfl rfl rfl rfl rfl rfl (by decide +kernel) (by decide +kernel) (by decide +kernel) (fun _ _ _ h => h) (by kernel_rfl) need_none (Yl.move rfl) ?_
       refine WD.takeG (i := 22) rfl rfl rfl rfl rfl rfl (by decide +kernel) (by decide +kernel) (by decide +kernel) (fun _ _ _ h => h) (by kernel_rfl) need_none (Yl.move rfl) ?_
       refine WD.takeG (i := 23) rfl rfl rfl rfl rfl rfl (by decide +kernel) (by decide +kernel) (by decide +kernel) (fun _ _ _ h => h) (by kernel_rfl) need_none (Yl.indexAddr F.sl23 rfl rfl hlt) ?_
       refine WD.takeG (i := 24) rfl rfl rfl rfl rfl rfl (by decide +kernel) (by decide +kernel) (by decide +kernel) (fun _ _ _ h => h) (by kernel_rfl) need_none (Yl.fieldAddr F.fld35_1 rfl) ?_
       refine WD.takeG (i := 25) rfl rfl rfl rfl rfl rfl (by decide +kernel) (by decide +kernel) (by decide +kernel) (fun _ _ _ h => h) (by kernel_rfl) (need_at2 3 rfl (by decide +kernel)) (Yl.load1 F.one9 rfl) ?_
       refine WD.takeG (i := 26) rfl rfl rfl rfl rfl rfl (by decide +kernel) (by decide +kernel) (by decide +kernel) (fun _ _ _ h => h) (by kernel_rfl) need_none (Yl.move rfl) ?_
       refine WD.takeG (i := 27) rfl rfl rfl rfl rfl rfl (by decide +kernel) (by decide +kernel) (by decide +kernel) (fun _ _ _ h => h) (by kernel_rfl) need_none (Yl.move rfl) ?_
       refine WD.takeG (i := 28) rfl rfl rfl rfl rfl rfl (by decide +kernel) (by decide +kernel) (by decide +kernel) (fun _ _ _ h => h) (by kernel_rfl) need_none (Yl.indexAddr F.sl27 rfl rfl hlty) ?_
       refine WD.takeG (i := 29) rfl rfl rfl rfl rfl rfl (by decide +kernel) (by decide +kernel) (by decide +kernel) (fun _ _ _ h => h) (by kernel_rfl) need_none (Yl.fieldAddr F.fld38_1 rfl) ?_
       refine WD.takeG (i := 30) rfl rfl rfl rfl rfl rfl (by decide +kernel) (by decide +kernel) (by decide +kernel) (fun _ _ _ h => h) (by kernel_rfl) (need_at2 4 rfl (by decide +kernel)) (Yl.load1 F.one9 rfl) ?_
       refine WD.takeG (i := 31) rfl rfl rfl rfl rfl rfl (by decide +kernel) (by decide +kernel) (by decide +kernel) (fun _ _ _ h => h) (by kernel_rfl) need_none (Yl.neS rfl rfl) ?_
       refine jT 32 rfl (Yl.pickF rfl rfl) ?_
       refine jT 33 rfl (Yl.move rfl) ?_
       refine fun hcl => WA.splitB (i := 71) rfl (fun g71 => ?_) (fun g71 => ?_)
       ·refine (show WD _ _ _ _ _ _ _ _ _ _ _ _ from ?_) hcl
        exact absurd g71 (by simp)
       ·refine (show WD _ _ _ _ _ _ _ _ _ _ _ _ from ?_) hcl
        refine WD.takeG (i := 34) rfl rfl rfl rfl rfl rfl (by decide +kernel) (by decide +kernel) (by decide +kernel) (fun _ _ _ h => h) (by kernel_rfl) need_none (Yl.move rfl) ?_
        refine WD.takeG (i := 35) rfl rfl rfl rfl rfl rfl (by decide +kernel) (by decide +kernel) (by decide +kernel) (fun _ _ _ h => h) (by kernel_rfl) need_none (Yl.move rfl) ?_
        refine WD.takeG (i := 36) rfl rfl rfl rfl rfl rfl (by decide +kernel) (by decide +kernel) (by decide +kernel) (fun _ _ _ h => h) (by kernel_rfl) need_none (Yl.indexAddr F.sl23 rfl rfl hlt) ?_
        refine WD.takeG (i := 37) rfl rfl rfl rfl rfl rfl (by decide +kernel) (by decide +kernel) (by decide +kernel) (fun _ _ _ h => h) (by kernel_rfl) need_none (Yl.fieldAddr F.fld35_2 rfl) ?_
        refine WD.takeG (i := 38) rfl rfl rfl rfl rfl rfl (by decide +kernel) (by decide +kernel) (by decide +kernel) (fun _ _ _ h => h) (by kernel_rfl) (need_at2 5 rfl (by decide +kernel)) (Yl.load1 F.one30 rfl) ?_
        refine WD.takeG (i := 39) rfl rfl rfl rfl rfl rfl (by decide +kernel) (by decide +kernel) (by decide +kernel) (fun _ _ _ h => h) (by kernel_rfl) need_none (Yl.move rfl) ?_
        refine jA 40 rfl ?_
        refine WL.guardT rfl rfl rfl ?_
        refine WL.buildSlice F.sl30 F.ez30 rfl rfl rfl rfl jB rfl (fun b78 => ?_)
        refine WD.on (closed_of (by decide +kernel)) (fun w hS => Sx.gone rfl (Sx.gone rfl (Sx.gone rfl (Sx.gone rfl (Sx.gone rfl (Sx.keep ((by rw [Nat.zero_add]; exact rowc_cells (hS.ok (rowc (.slice (some ⟨gx, 0, none⟩) x.L.length x.c) x.L.length 35 7 (tkv ptl x.L)) jM) (tkv_at hx 2 _ rfl))) (Sx.keep ((by rw [Nat.zero_add]; exact rowc_cells (hS.ok (rowc (.slice (some ⟨gx, 0, none⟩) x.L.length x.c) x.L.length 35 7 (tkv ptl x.L)) jM) (tkv_at hx 3 _ rfl))) (Sx.keep ((by rw [Nat.zero_add]; exact rowc_cells (hS.ok (rowc (.slice (some ⟨gx, 0, none⟩) x.L.length x.c) x.L.length 35 7 (tkv ptl x.L)) jM) (tkv_at hx 4 _ rfl))) (Sx.none))))))))) ?_
        refine jA 41 rfl ?_
        refine WL.guardT rfl rfl rfl ?_
        refine WL.callV F.fun8 rfl rfl (fun w hS => ints_c [(i : Int)] [(i : Int)] (some ⟨bx, 0, none⟩) (some ⟨b78, 0, none⟩) 1 1 (by simp) (by simp) w (RdC.one ((hS.ok (tksC x.F x.L) jM) i _ hx).1) (RdC.one (cell_of_heap (hS.ok (pt b78 [.int .i64 (i : Int)] 3) jM) rfl))) ?_
        refine WD.on (closed_of (by decide +kernel)) (fun w hS => Sx.gone rfl (Sx.gone rfl (Sx.gone rfl (Sx.gone rfl (Sx.gone rfl (Sx.gone rfl (Sx.keep ((by rw [Nat.zero_add]; exact rowc_cells (hS.ok (rowc (.slice (some ⟨gx, 0, none⟩) x.L.length x.c) x.L.length 35 7 (tkv ptl x.L)) jM) (tkv_at hx 3 _ rfl))) (Sx.keep ((by rw [Nat.zero_add]; exact rowc_cells (hS.ok (rowc (.slice (some ⟨gx, 0, none⟩) x.L.length x.c) x.L.length 35 7 (tkv ptl x.L)) jM) (tkv_at hx 4 _ rfl))) (Sx.none))))))))) ?_
        refine WD.takeG (i := 42) rfl rfl rfl rfl rfl rfl (by decide +kernel) (by decide +kernel) (by decide +kernel) (fun _ _ _ h => h) (by kernel_rfl) need_none (Yl.not rfl) ?_
        refine jT 43 rfl (Yl.pickF rfl rfl) ?_
        refine jT 44 rfl (Yl.move rfl) ?_
        refine fun hcl => WA.splitB (i := 82) rfl (fun g82 => ?_) (fun g82 => ?_)
        ·refine (show WD _ _ _ _ _ _ _ _ _ _ _ _ from ?_) hcl
         exact absurd g82 (by rw [cmpP_self]; decide)
        ·refine (show WD _ _ _ _ _ _ _ _ _ _ _ _ from ?_) hcl
         refine WD.takeG (i := 45) rfl rfl rfl rfl rfl rfl (by decide +kernel) (by decide +kernel) (by decide +kernel) (fun _ _ _ h => h) (by kernel_rfl) need_none (Yl.move rfl) ?_
         refine WD.takeG (i := 46) rfl rfl rfl rfl rfl rfl (by decide +kernel) (by decide +kernel) (by decide +kernel) (fun _ _ _ h => h) (by kernel_rfl) need_none (Yl.move rfl) ?_
         refine WD.takeG (i := 47) rfl rfl rfl rfl rfl rfl (by decide +kernel) (by decide +kernel) (by decide +kernel) (fun _ _ _ h => h) (by kernel_rfl) need_none (Yl.indexAddr F.sl23 rfl rfl hlt) ?_
         refine WD.takeG (i := 48) rfl rfl rfl rfl rfl rfl (by decide +kernel) (by decide +kernel) (by decide +kernel) (fun _ _ _ h => h) (by kernel_rfl) need_none (Yl.fieldAddr F.fld35_3 rfl) ?_
         refine WD.takeG (i := 49) rfl rfl rfl rfl rfl rfl (by decide +kernel) (by decide +kernel) (by decide +kernel) (fun _ _ _ h => h) (by kernel_rfl) (need_at2 6 rfl (by decide +kernel)) (Yl.load1 F.one3 rfl) ?_
         refine WD.takeG (i := 50) rfl rfl rfl rfl rfl rfl (by decide +kernel) (by decide +kernel) (by decide +kernel) (fun _ _ _ h => h) (by kernel_rfl) need_none (Yl.neI rfl rfl) ?_
         refine jT 51 rfl (Yl.pickF rfl rfl) ?_
         refine jT 52 rfl (Yl.move rfl) ?_
         refine fun hcl => WA.splitB (i := 90) rfl (fun g90 => ?_) (fun g90 => ?_)
         ·refine (show WD _ _ _ _ _ _ _ _ _ _ _ _ from ?_) hcl
          exact absurd g90 (by decide)
         ·refine (show WD _ _ _ _ _ _ _ _ _ _ _ _ from ?_) hcl
          refine WD.takeG (i := 53) rfl rfl rfl rfl rfl rfl (by decide +kernel) (by decide +kernel) (by decide +kernel) (fun _ _ _ h => h) (by kernel_rfl) need_none (Yl.move rfl) ?_
          refine WD.takeG (i := 54) rfl rfl rfl rfl rfl rfl (by decide +kernel) (by decide +kernel) (by decide +kernel) (fun _ _ _ h => h) (by kernel_rfl) need_none (Yl.move rfl) ?_
          refine WD.takeG (i := 55) rfl rfl rfl rfl rfl rfl (by decide +kernel) (by decide +kernel) (by decide +kernel) (fun _ _ _ h => h) (by kernel_rfl) need_none (Yl.indexAddr F.sl23 rfl rfl hlt) ?_
          refine WD.takeG (i := 56) rfl rfl rfl rfl rfl rfl (by decide +kernel) (by decide +kernel) (by decide +kernel) (fun _ _ _ h => h) (by kernel_rfl) need_none (Yl.fieldAddr F.fld35_4 rfl) ?_
          refine WD.takeG (i := 57) rfl rfl rfl rfl rfl rfl (by decide +kernel) (by decide +kernel) (by decide +kernel) (fun _ _ _ h => h) (by kernel_rfl) (need_at2 7 rfl (by decide +kernel)) (Yl.load1 F.one3 rfl) ?_
          refine WD.takeG (i := 58) rfl rfl rfl rfl rfl rfl (by decide +kernel) (by decide +kernel) (by decide +kernel) (fun _ _ _ h => h) (by kernel_rfl) need_none (Yl.neI rfl rfl) ?_
          refine jT 59 rfl (Yl.pickF rfl rfl) ?_
          refine jD ?_
          refine jN 1 ?_
          refine WC.cond rfl (fun h97 => ?_) (fun h97 => ?_)
          ·exact absurd h97 (by decide)
          ·refine jN 11 ?_
           refine WQ.chunks (C' := [rowc (.slice x.a x.L.length x.c) x.L.length 35 7 (tkv ptl x.L), tksC x.F x.L, rowc (.slice y.a y.L.length y.c) y.L.length 38 6 (tkv rtl y.L), tksC y.F y.L]) (fun w hS => (by rw [hgx, hgy]; exact (jK hS))) ?_
           rw [← hgx, ← hgy]
           refine WQ.back (i + 1) ?_ ?_ ?_ ?_
           ·exact by omega
           ·omega
           ·exact ⟨rfl, rfl, rfl, trivial⟩
           ·rfl
    ·refine jN 8 ?_
     refine WL.callV F.fun4 rfl rfl (fun w hS => (haw w (hl.next hS) (hg.next hS))) ?_
     refine jN 5 ?_
     exact WQ.ret (rs := [.tmp 2]) rfl (.tmp rfl .nil) (fun w hS => ⟨rfl, hS.sublist (List.nil_sublist _)⟩)
end Go.Proofs.YtnldjikcnahioaaGreatDoor
namespace Go.Eng
open Go Go.RowKit
section
variable {P : Program} {kt : TypeId}
end
end Go.Eng
namespace Go.X
open Go Go.Eng
inductive Tq (β : Type) where
 | lf
 | nd (l : Tq β) (v : Option β) (r : Tq β)
namespace Tq
variable {β : Type}
noncomputable def bitsF (f : Nat) : Nat → List Bool := Nat.rec (fun _ => []) (fun _ ih k => Bool.rec (Nat.beq (Nat.mod k 2) 0 :: ih (Nat.div k 2)) [] (Nat.beq k 0)) f
noncomputable def bits (k : Nat) : List Bool := bitsF k k
theorem beq0 (k : Nat) : Nat.beq k 0 = decide (k = 0) := by cases k <;> rfl
theorem bitsF_succ (f k : Nat) : bitsF (f + 1) k = if k = 0 then [] else decide (k % 2 = 0) :: bitsF f (k / 2) := by
 show @Bool.rec (fun _ => List Bool) (Nat.beq (k % 2) 0 :: bitsF f (k / 2)) [] (Nat.beq k 0) = _
 rw [beq0 k, beq0 (k % 2)]
 by_cases h : k = 0
 ·subst h; rfl
 ·rw [decide_eq_false h, if_neg h]
theorem bitsF_eq : ∀ (f g k : Nat), k ≤ f → k ≤ g → bitsF f k = bitsF g k
 | 0, 0, k, _, _ => rfl
 | 0, g + 1, k, h, _ => by
  have : k = 0 := Nat.le_zero.1 h
  subst this; rw [bitsF_succ, if_pos rfl]; rfl
 | f + 1, 0, k, _, h => by
  have : k = 0 := Nat.le_zero.1 h
  subst this; rw [bitsF_succ, if_pos rfl]; rfl
 | f + 1, g + 1, k, h1, h2 => by
  rw [bitsF_succ, bitsF_succ]
  by_cases h : k = 0
  ·rw [if_pos h, if_pos h]
  ·rw [if_neg h, if_neg h, bitsF_eq f g (k / 2) (by omega) (by omega)]
theorem bits_pos {k : Nat} (h : k ≠ 0) : bits k = decide (k % 2 = 0) :: bits (k / 2) := by
 obtain ⟨f, rfl⟩ : ∃ f, k = f + 1 := ⟨k - 1, by omega⟩
 show bitsF (f + 1) (f + 1) = _
 rw [bitsF_succ, if_neg h, bitsF_eq f ((f + 1) / 2) _ (by omega) (Nat.le_refl _)]
 rfl
noncomputable def getB (t : Tq β) : List Bool → Option β := Tq.rec (fun _ => none) (fun _ v _ gl gr p => List.rec v (fun b r _ => Bool.rec (gr r) (gl r) b) p) t
noncomputable def get (t : Tq β) (k : Nat) : Option β := getB t (bits k)
noncomputable def oneB (x : β) (p : List Bool) : Tq β := List.rec (.nd .lf (some x) .lf) (fun b _ ih => Bool.rec (.nd .lf none ih) (.nd ih none .lf) b) p
noncomputable def one (f : Nat) (x : β) (k : Nat) : Tq β := oneB x (bits k)
noncomputable def setB (t : Tq β) (x : β) : List Bool → Tq β := Tq.rec (fun p => oneB x p) (fun l v r sl sr p => List.rec (.nd l (some x) r) (fun b q _ => Bool.rec (.nd l v (sr q)) (.nd (sl q) v r) b) p) t
noncomputable def set (t : Tq β) (x : β) (k : Nat) : Tq β := setB t x (bits k)
theorem get_lf (k : Nat) : (Tq.lf : Tq β).get k = none := rfl
theorem get_nd (l r : Tq β) (v : Option β) (k : Nat) : (Tq.nd l v r).get k = if k = 0 then v else if k % 2 = 0 then l.get (k / 2) else r.get (k / 2) := by
 unfold get
 by_cases h : k = 0
 ·subst h; rfl
 ·rw [if_neg h, bits_pos h]
  by_cases h2 : k % 2 = 0
  ·rw [decide_eq_true h2, if_pos h2]; rfl
  ·rw [decide_eq_false h2, if_neg h2]; rfl
theorem set_lf (x : β) (k : Nat) : (Tq.lf : Tq β).set x k = one 40 x k := rfl
theorem one_zero (f : Nat) (x : β) : one f x 0 = .nd .lf (some x) .lf := rfl
theorem one_succ (f : Nat) (x : β) (k : Nat) : one (f + 1) x k = if k = 0 then .nd .lf (some x) .lf else if k % 2 = 0 then .nd (one f x (k / 2)) none .lf else .nd .lf none (one f x (k / 2)) := by
 unfold one
 by_cases h : k = 0
 ·subst h; rfl
 ·rw [if_neg h, bits_pos h]
  by_cases h2 : k % 2 = 0
  ·rw [decide_eq_true h2, if_pos h2]; rfl
  ·rw [decide_eq_false h2, if_neg h2]; rfl
theorem set_nd (l r : Tq β) (v : Option β) (x : β) (k : Nat) : (Tq.nd l v r).set x k = if k = 0 then .nd l (some x) r else if k % 2 = 0 then .nd (l.set x (k / 2)) v r else .nd l v (r.set x (k / 2)) := by
 unfold set
 by_cases h : k = 0
 ·subst h; rfl
 ·rw [if_neg h, bits_pos h]
  by_cases h2 : k % 2 = 0
  ·rw [decide_eq_true h2, if_pos h2]; rfl
  ·rw [decide_eq_false h2, if_neg h2]; rfl
theorem get_one : ∀ (f : Nat) (x : β) (k j : Nat), k < 2 ^ f → (one f x k).get j = if j = k then some x else none
 | 0, x, k, j, h => by
  have : k = 0 := by simpa using h
  subst this
  rw [one_zero, get_nd]; simp only [get_lf]
  by_cases hj : j = 0 <;> simp [hj]
 | f + 1, x, k, j, h => by
  rw [one_succ]
  rw [Nat.pow_succ] at h
  have ih := get_one f x (k / 2)
  by_cases hk : k = 0
  ·subst hk
   rw [if_pos rfl, get_nd]; simp only [get_lf]
   split <;> simp_all
  ·rw [if_neg hk]
   by_cases h2 : k % 2 = 0
   ·rw [if_pos h2, get_nd, ih (j / 2) (by omega)]; simp only [get_lf]
    by_cases hj : j = 0
    ·subst hj; rw [if_pos rfl, if_neg (Ne.symm hk)]
    ·rw [if_neg hj]
     by_cases hj2 : j % 2 = 0
     ·rw [if_pos hj2]
      by_cases he : j = k
      ·subst he; rw [if_pos rfl, if_pos rfl]
      ·rw [if_neg he, if_neg (by omega)]
     ·rw [if_neg hj2, if_neg (by intro e; subst e; exact hj2 h2)]
   ·rw [if_neg h2, get_nd, ih (j / 2) (by omega)]; simp only [get_lf]
    by_cases hj : j = 0
    ·subst hj; rw [if_pos rfl, if_neg (Ne.symm hk)]
    ·rw [if_neg hj]
     by_cases hj2 : j % 2 = 0
     ·rw [if_pos hj2, if_neg (by intro e; subst e; exact h2 hj2)]
     ·rw [if_neg hj2]
      by_cases he : j = k
      ·subst he; rw [if_pos rfl, if_pos rfl]
      ·rw [if_neg he, if_neg (by omega)]
theorem get_set : ∀ (t : Tq β) (x : β) (k j : Nat), k < 2 ^ 40 → (t.set x k).get j = if j = k then some x else t.get j
 | .lf, x, k, j, h => by rw [set_lf, get_one 40 x k j h]; rfl
 | .nd l v r, x, k, j, h => by
  rw [set_nd, get_nd]
  have il := get_set l x (k / 2)
  have ir := get_set r x (k / 2)
  by_cases hk : k = 0
  ·subst hk
   rw [if_pos rfl, get_nd]
   by_cases hj : j = 0
   ·subst hj; rw [if_pos rfl, if_pos rfl]
   ·rw [if_neg hj, if_neg hj, if_neg hj]
  ·rw [if_neg hk]
   by_cases h2 : k % 2 = 0
   ·rw [if_pos h2, get_nd, il (j / 2) (by omega)]
    by_cases hj : j = 0
    ·subst hj; rw [if_pos rfl, if_neg (Ne.symm hk), if_pos rfl]
    ·rw [if_neg hj, if_neg hj]
     by_cases hj2 : j % 2 = 0
     ·rw [if_pos hj2, if_pos hj2]
      by_cases he : j = k
      ·subst he; rw [if_pos rfl, if_pos rfl]
      ·rw [if_neg he, if_neg (by omega)]
     ·rw [if_neg hj2, if_neg hj2, if_neg (by intro e; subst e; exact hj2 h2)]
   ·rw [if_neg h2, get_nd, ir (j / 2) (by omega)]
    by_cases hj : j = 0
    ·subst hj; rw [if_pos rfl, if_neg (Ne.symm hk), if_pos rfl]
    ·rw [if_neg hj, if_neg hj]
     by_cases hj2 : j % 2 = 0
     ·rw [if_pos hj2, if_pos hj2, if_neg (by intro e; subst e; exact h2 hj2)]
     ·rw [if_neg hj2, if_neg hj2]
      by_cases he : j = k
      ·subst he; rw [if_pos rfl, if_pos rfl]
      ·rw [if_neg he, if_neg (by omega)]
end Tq
inductive D8 where
 | d0 | d1 | d2 | d3 | d4 | d5 | d6 | d7
structure P8 (α : Type) where
 (a0 a1 a2 a3 a4 a5 a6 a7 : α)
def up0 {α : Type} (U : α → α) (t : P8 α) : P8 α := ⟨U t.a0, t.a1, t.a2, t.a3, t.a4, t.a5, t.a6, t.a7⟩
def up1 {α : Type} (U : α → α) (t : P8 α) : P8 α := ⟨t.a0, U t.a1, t.a2, t.a3, t.a4, t.a5, t.a6, t.a7⟩
def up2 {α : Type} (U : α → α) (t : P8 α) : P8 α := ⟨t.a0, t.a1, U t.a2, t.a3, t.a4, t.a5, t.a6, t.a7⟩
def up3 {α : Type} (U : α → α) (t : P8 α) : P8 α := ⟨t.a0, t.a1, t.a2, U t.a3, t.a4, t.a5, t.a6, t.a7⟩
def up4 {α : Type} (U : α → α) (t : P8 α) : P8 α := ⟨t.a0, t.a1, t.a2, t.a3, U t.a4, t.a5, t.a6, t.a7⟩
def up5 {α : Type} (U : α → α) (t : P8 α) : P8 α := ⟨t.a0, t.a1, t.a2, t.a3, t.a4, U t.a5, t.a6, t.a7⟩
def up6 {α : Type} (U : α → α) (t : P8 α) : P8 α := ⟨t.a0, t.a1, t.a2, t.a3, t.a4, t.a5, U t.a6, t.a7⟩
def up7 {α : Type} (U : α → α) (t : P8 α) : P8 α := ⟨t.a0, t.a1, t.a2, t.a3, t.a4, t.a5, t.a6, U t.a7⟩
def toN : D8 → Nat
 | .d0 => 0
 | .d1 => 1
 | .d2 => 2
 | .d3 => 3
 | .d4 => 4
 | .d5 => 5
 | .d6 => 6
 | .d7 => 7
noncomputable def toD (n : Nat) : D8 := @Bool.rec (fun _ => D8)
 (@Bool.rec (fun _ => D8) (@Bool.rec (fun _ => D8) .d7 .d6 (Nat.ble n 6)) (@Bool.rec (fun _ => D8) .d5 .d4 (Nat.ble n 4)) (Nat.ble n 5))
 (@Bool.rec (fun _ => D8) (@Bool.rec (fun _ => D8) .d3 .d2 (Nat.ble n 2)) (@Bool.rec (fun _ => D8) .d1 .d0 (Nat.ble n 0)) (Nat.ble n 1)) (Nat.ble n 3)
theorem toN_toD : ∀ {n : Nat}, n < 8 → toN (toD n) = n
 | 0, _ => rfl
 | 1, _ => rfl
 | 2, _ => rfl
 | 3, _ => rfl
 | 4, _ => rfl
 | 5, _ => rfl
 | 6, _ => rfl
 | 7, _ => rfl
 | n + 8, h => by omega
noncomputable def dg (m k : Nat) : D8 := toD (Nat.mod (Nat.div k m) 8)
theorem dg_eq {m j k : Nat} : dg m j = dg m k ↔ j / m % 8 = k / m % 8 := by
 constructor
 ·intro h
  have this : toN (toD (j / m % 8)) = toN (toD (k / m % 8)) := congrArg toN h
  rwa [toN_toD (Nat.mod_lt _ (by omega)), toN_toD (Nat.mod_lt _ (by omega))] at this
 ·intro h
  unfold dg
  exact congrArg toD h
noncomputable def sel8 {α : Type} (d : D8) : P8 α → α := @D8.rec (fun _ => P8 α → α) (@P8.a0 α) (@P8.a1 α) (@P8.a2 α) (@P8.a3 α) (@P8.a4 α) (@P8.a5 α) (@P8.a6 α) (@P8.a7 α) d
noncomputable def put8 {α : Type} (d : D8) : (α → α) → P8 α → P8 α := @D8.rec (fun _ => (α → α) → P8 α → P8 α) (@up0 α) (@up1 α) (@up2 α) (@up3 α) (@up4 α) (@up5 α) (@up6 α) (@up7 α) d
theorem sel_put {α : Type} (d e : D8) (U : α → α) (t : P8 α) : (d = e → sel8 d (put8 e U t) = U (sel8 d t)) ∧ (d ≠ e → sel8 d (put8 e U t) = sel8 d t) := by
 constructor
 ·rintro rfl; cases d <;> rfl
 ·intro h; cases d <;> cases e <;> first | rfl | exact absurd rfl h
def Fx (L : Type) : Nat → Type
 | 0 => L
 | n + 1 => P8 (Fx L n)
section
variable {L : Type}
noncomputable def leafN (m : Nat) : (n : Nat) → Fx L n → Nat → L
 | 0, t, _ => t
 | n + 1, t, k => leafN (m * 8) n (@sel8 (Fx L n) (dg m k) t) k
noncomputable def updN (f : L → L) (m : Nat) : (n : Nat) → Nat → Fx L n → Fx L n
 | 0, _ => f
 | n + 1, k => @put8 (Fx L n) (dg m k) (updN f (m * 8) n k)
def allN (x : L) : (n : Nat) → Fx L n
 | 0 => x
 | n + 1 => (⟨allN x n, allN x n, allN x n, allN x n, allN x n, allN x n, allN x n, allN x n⟩ : P8 (Fx L n))
def zip8 {α : Type} (f : α → α → α) (t u : P8 α) : P8 α := ⟨f t.a0 u.a0, f t.a1 u.a1, f t.a2 u.a2, f t.a3 u.a3, f t.a4 u.a4, f t.a5 u.a5, f t.a6 u.a6, f t.a7 u.a7⟩
def zipN (f : L → L → L) : (n : Nat) → Fx L n → Fx L n → Fx L n
 | 0, t, u => f t u
 | n + 1, t, u => @zip8 (Fx L n) (zipN f n) t u
theorem leaf_all (x : L) : ∀ (n m k : Nat), leafN m n (allN x n) k = x
 | 0, _, _ => rfl
 | n + 1, m, k => by
  show leafN (m * 8) n (@sel8 (Fx L n) (dg m k) (⟨allN x n, allN x n, allN x n, allN x n, allN x n, allN x n, allN x n, allN x n⟩ : P8 (Fx L n))) k = x
  have e : @sel8 (Fx L n) (dg m k) (⟨allN x n, allN x n, allN x n, allN x n, allN x n, allN x n, allN x n, allN x n⟩ : P8 (Fx L n)) = allN x n := by cases dg m k <;> rfl
  rw [e]; exact leaf_all x n _ _
theorem leaf_zip (f : L → L → L) : ∀ (n m : Nat) (t u : Fx L n) (k : Nat), leafN m n (zipN f n t u) k = f (leafN m n t k) (leafN m n u k)
 | 0, _, _, _, _ => rfl
 | n + 1, m, t, u, k => by
  show leafN (m * 8) n (@sel8 (Fx L n) (dg m k) (@zip8 (Fx L n) (zipN f n) t u)) k = f (leafN (m * 8) n (@sel8 (Fx L n) (dg m k) t) k) (leafN (m * 8) n (@sel8 (Fx L n) (dg m k) u) k)
  have e : @sel8 (Fx L n) (dg m k) (@zip8 (Fx L n) (zipN f n) t u) = zipN f n (@sel8 (Fx L n) (dg m k) t) (@sel8 (Fx L n) (dg m k) u) := by cases dg m k <;> rfl
  rw [e]; exact leaf_zip f n _ _ _ _
theorem mod_eight (n a b : Nat) : (a % 8 ^ (n + 1) = b % 8 ^ (n + 1)) ↔ (a % 8 = b % 8 ∧ a / 8 % 8 ^ n = b / 8 % 8 ^ n) := by
 have h := fun x : Nat => show x % 8 ^ (n + 1) = x % 8 + 8 * (x / 8 % 8 ^ n) by rw [Nat.pow_succ, Nat.mul_comm, Nat.mod_mul]
 rw [h a, h b]
 omega
theorem leaf_upd (f : L → L) : ∀ (n m : Nat) (t : Fx L n) (k j : Nat), leafN m n (updN f m n k t) j = if j / m % 8 ^ n = k / m % 8 ^ n then f (leafN m n t j) else leafN m n t j
 | 0, m, t, k, j => by simp [Nat.mod_one]; rfl
 | n + 1, m, t, k, j => by
  have hd : ∀ x, x / (m * 8) = x / m / 8 := fun x => (Nat.div_div_eq_div_mul x m 8).symm
  show leafN (m * 8) n (@sel8 (Fx L n) (dg m j) (@put8 (Fx L n) (dg m k) (updN f (m * 8) n k) t)) j = if j / m % 8 ^ (n + 1) = k / m % 8 ^ (n + 1) then f (leafN (m * 8) n (@sel8 (Fx L n) (dg m j) t) j) else leafN (m * 8) n (@sel8 (Fx L n) (dg m j) t) j
  obtain ⟨h1, h2⟩ := @sel_put (Fx L n) (dg m j) (dg m k) (updN f (m * 8) n k) t
  by_cases hj : j / m % 8 = k / m % 8
  ·rw [h1 (dg_eq.2 hj), leaf_upd f n (m * 8), hd, hd]
   by_cases he : j / m / 8 % 8 ^ n = k / m / 8 % 8 ^ n
   ·rw [if_pos he, if_pos ((mod_eight ..).2 ⟨hj, he⟩)]
   ·rw [if_neg he, if_neg (fun h => he ((mod_eight ..).1 h).2)]
  ·rw [h2 (fun h => hj (dg_eq.1 h)), if_neg (fun h => hj ((mod_eight ..).1 h).1)]
theorem ble_lt (k m : Nat) : Nat.ble k m = decide (k < m + 1) := by
 by_cases h : k < m + 1
 ·rw [decide_eq_true h]; exact Nat.ble_eq_true_of_le (by omega)
 ·rw [decide_eq_false h]
  cases hb : Nat.ble k m with
  | false => rfl
  | true => exact absurd (Nat.le_of_ble_eq_true hb) (by omega)
end
def fam (c : Nat → Option Chunk) : Chunk where
 fp k := ∃ s x, c s = some x ∧ x.fp k
 ok w := (∀ s x, c s = some x → x.ok w) ∧ ∀ s t x y, c s = some x → c t = some y → s ≠ t → ∀ k, x.fp k → ¬ y.fp k
 loc w w' h hw := ⟨fun s x hs => x.loc w w' (fun k hk => h k ⟨s, x, hs, hk⟩) (hw.1 s x hs), hw.2⟩
section
variable {w0 w : World} {O : List Nat} {C : List Chunk} {c : Nat → Option Chunk}
theorem fam_get (h : St w0 O (fam c :: C) w) {s : Nat} {x : Chunk} (hs : c s = some x) : x.ok w := (h.ok _ (List.mem_cons_self ..)).1 s x hs
theorem fam_split (h : St w0 O (fam c :: C) w) {s : Nat} {x : Chunk} (hs : c s = some x) : St w0 O (x :: fam (fun t => if t = s then none else c t) :: C) w := by
 have hf := h.ok _ (List.mem_cons_self ..)
 have hd := List.pairwise_cons.1 h.disj
 refine ⟨h.os, h.tape, h.output, h.size, h.old, fun y hy => ?_, fun y hy k hk => ?_, ?_⟩
 ·rcases List.mem_cons.1 hy with rfl | hy
  ·exact hf.1 s _ hs
  ·rcases List.mem_cons.1 hy with rfl | hy
   ·refine ⟨fun t z ht => ?_, fun t u y z ht hu hne => ?_⟩
    ·dsimp only at ht; split at ht
     ·cases ht
     ·exact hf.1 t z ht
    ·dsimp only at ht hu
     split at ht
     ·cases ht
     ·split at hu
      ·cases hu
      ·exact hf.2 t u y z ht hu hne
   ·exact h.ok y (List.mem_cons_of_mem _ hy)
 ·rcases List.mem_cons.1 hy with rfl | hy
  ·exact h.bnd _ (List.mem_cons_self ..) k ⟨s, _, hs, hk⟩
  ·rcases List.mem_cons.1 hy with rfl | hy
   ·obtain ⟨t, z, ht, hz⟩ := hk
    dsimp only at ht; split at ht
    ·cases ht
    ·exact h.bnd _ (List.mem_cons_self ..) k ⟨t, z, ht, hz⟩
   ·exact h.bnd y (List.mem_cons_of_mem _ hy) k hk
 ·refine List.pairwise_cons.2 ⟨fun y hy k hk => ?_, List.pairwise_cons.2 ⟨fun y hy k hk => ?_, hd.2⟩⟩
  ·rcases List.mem_cons.1 hy with rfl | hy
   ·rintro ⟨t, z, ht, hz⟩
    dsimp only at ht; split at ht
    ·cases ht
    ·rename_i hne
     exact hf.2 s t x z hs ht (Ne.symm hne) k hk hz
   ·exact hd.1 y hy k ⟨s, x, hs, hk⟩
  ·obtain ⟨t, z, ht, hz⟩ := hk
   dsimp only at ht; split at ht
   ·cases ht
   ·exact hd.1 y hy k ⟨t, z, ht, hz⟩
theorem fam_join {s : Nat} {x : Chunk} (hs : c s = none) (h : St w0 O (x :: fam c :: C) w) : St w0 O (fam (fun t => if t = s then some x else c t) :: C) w := by
 have hx := h.ok x (List.mem_cons_self ..)
 have hf := h.ok _ (List.mem_cons_of_mem _ (List.mem_cons_self ..))
 obtain ⟨hd1, hd2⟩ := List.pairwise_cons.1 h.disj
 obtain ⟨hd3, hd4⟩ := List.pairwise_cons.1 hd2
 have hap := hd1 _ (List.mem_cons_self ..)
 refine ⟨h.os, h.tape, h.output, h.size, h.old, fun y hy => ?_, fun y hy k hk => ?_, ?_⟩
 ·rcases List.mem_cons.1 hy with rfl | hy
  ·refine ⟨fun t z ht => ?_, fun t u y z ht hu hne k hky hkz => ?_⟩
   ·dsimp only at ht; split at ht
    ·cases ht; exact hx
    ·exact hf.1 t z ht
   ·dsimp only at ht hu
    split at ht
    ·cases ht
     split at hu
     ·rename_i e1 e2; exact hne (e1.trans e2.symm)
     ·exact hap k hky ⟨u, z, hu, hkz⟩
    ·split at hu
     ·cases hu; exact hap k hkz ⟨t, y, ht, hky⟩
     ·exact hf.2 t u y z ht hu hne k hky hkz
  ·exact h.ok y (List.mem_cons_of_mem _ (List.mem_cons_of_mem _ hy))
 ·rcases List.mem_cons.1 hy with rfl | hy
  ·obtain ⟨t, z, ht, hz⟩ := hk
   dsimp only at ht; split at ht
   ·cases ht; exact h.bnd _ (List.mem_cons_self ..) k hz
   ·exact h.bnd _ (List.mem_cons_of_mem _ (List.mem_cons_self ..)) k ⟨t, z, ht, hz⟩
  ·exact h.bnd y (List.mem_cons_of_mem _ (List.mem_cons_of_mem _ hy)) k hk
 ·refine List.pairwise_cons.2 ⟨fun y hy k hk => ?_, hd4⟩
  obtain ⟨t, z, ht, hz⟩ := hk
  dsimp only at ht; split at ht
  ·cases ht; exact hd1 y (List.mem_cons_of_mem _ hy) k hz
  ·exact hd3 y hy k ⟨t, z, ht, hz⟩
theorem fam_eq {c d : Nat → Option Chunk} (h : ∀ s, c s = d s) (hS : St w0 O (fam c :: C) w) : St w0 O (fam d :: C) w := by
 rw [← show c = d from funext h]; exact hS
end
end Go.X
namespace Go.Eng
open Go Go.RowKit
section
variable {P : Program} {w0 : World} {O : List Nat} {ops : Array Oper} {Q : Exit → Act → World → Prop} {N : Nat} {D : List Deferred} {L : FL} {C : List Chunk} {K : Act → World → Prop}
variable {d : Nat} {ty : TypeId} {pos : String} {af : Array Edge}
theorem Yl.convert {F : World → Prop} {t1 t2 : TypeId} {x : Operand} {vx v : Value} (hx : ev L x = some vx) (hr : ∀ w, (Go.convert t1 t2 vx).run P w = .ok v w) :
  Yl P N D L F ⟨some d, .convert t1 t2 x, ty, pos, af, none⟩ v := fun a w hF _ => by
 simp [execOp, hF.ev hx, hr w]
def fldTB (P : Program) (t : TypeId) (f : Nat) : Option (TypeId × Nat) := match P.underlying t with
 | some (.struct fields) => (fields[f]?).map fun fd => (fd.type, fd.offset)
 | _ => none
theorem fldTB_some {t ft : TypeId} {f off : Nat} (h : fldTB P t f = some (ft, off)) : ∃ (fields : Array Field) (fd : Field), P.underlying t = some (.struct fields) ∧ fields[f]? = some fd ∧ fd.type = ft ∧ fd.offset = off := by
 unfold fldTB at h
 split at h
 ·rename_i fields hu
  cases hq : fields[f]? with
  | none => rw [hq] at h; cases h
  | some fd =>
   rw [hq] at h
   simp only [Option.map_some, Option.some.injEq, Prod.mk.injEq] at h
   exact ⟨fields, fd, hu, hq, h.1, h.2⟩
 ·cases h
end
end Go.Eng
namespace Go.X
open Go Go.Eng Go.RowKit Dg Go.Proofs.YtnldjikcnahioaaGreatDoor
inductive SV where
 | int (k : IntKind) (i : Int)
 | bool (b : Bool)
 | str (l : List Nat)
 | ptr (s off : Nat)
 | nilp
 | sl (s i n sz : Nat)        -- of a row, from element i on
 | slx (s off n cap : Nat)    -- its capacity is known
 | nils
 | dg (t : BT) (s : Nat)      -- a diagram's nodes
 | mp (s : Nat)
 | nilm
 | fn (f : Nat) (us cs : List SV)
 | nilf
 | ifc (t : Nat) (v : SV)
 | nili
 | agg (l : List SV)
 | tup (l : List SV)
 | opq (s : Nat)              -- not known
 | yl (s : Nat)               -- yield, of a loop's record
noncomputable def gAS (t : Fx (Option SV) 3) (k : Nat) : Option SV := @D8.rec (fun _ => Fx (Option SV) 1 → Fx (Option SV) 0) (@P8.a0 (Fx (Option SV) 0)) (@P8.a1 (Fx (Option SV) 0)) (@P8.a2 (Fx (Option SV) 0)) (@P8.a3 (Fx (Option SV) 0)) (@P8.a4 (Fx (Option SV) 0)) (@P8.a5 (Fx (Option SV) 0)) (@P8.a6 (Fx (Option SV) 0)) (@P8.a7 (Fx (Option SV) 0)) (dg 64 k) (@D8.rec (fun _ => Fx (Option SV) 2 → Fx (Option SV) 1) (@P8.a0 (Fx (Option SV) 1)) (@P8.a1 (Fx (Option SV) 1)) (@P8.a2 (Fx (Option SV) 1)) (@P8.a3 (Fx (Option SV) 1)) (@P8.a4 (Fx (Option SV) 1)) (@P8.a5 (Fx (Option SV) 1)) (@P8.a6 (Fx (Option SV) 1)) (@P8.a7 (Fx (Option SV) 1)) (dg 8 k) (@D8.rec (fun _ => Fx (Option SV) 3 → Fx (Option SV) 2) (@P8.a0 (Fx (Option SV) 2)) (@P8.a1 (Fx (Option SV) 2)) (@P8.a2 (Fx (Option SV) 2)) (@P8.a3 (Fx (Option SV) 2)) (@P8.a4 (Fx (Option SV) 2)) (@P8.a5 (Fx (Option SV) 2)) (@P8.a6 (Fx (Option SV) 2)) (@P8.a7 (Fx (Option SV) 2)) (dg 1 k) t))
noncomputable def uAS (x : SV) (k : Nat) (t : Fx (Option SV) 3) : Fx (Option SV) 3 := (@D8.rec (fun _ => (Fx (Option SV) 2 → Fx (Option SV) 2) → Fx (Option SV) 3 → Fx (Option SV) 3) (@up0 (Fx (Option SV) 2)) (@up1 (Fx (Option SV) 2)) (@up2 (Fx (Option SV) 2)) (@up3 (Fx (Option SV) 2)) (@up4 (Fx (Option SV) 2)) (@up5 (Fx (Option SV) 2)) (@up6 (Fx (Option SV) 2)) (@up7 (Fx (Option SV) 2)) (dg 1 k) (@D8.rec (fun _ => (Fx (Option SV) 1 → Fx (Option SV) 1) → Fx (Option SV) 2 → Fx (Option SV) 2) (@up0 (Fx (Option SV) 1)) (@up1 (Fx (Option SV) 1)) (@up2 (Fx (Option SV) 1)) (@up3 (Fx (Option SV) 1)) (@up4 (Fx (Option SV) 1)) (@up5 (Fx (Option SV) 1)) (@up6 (Fx (Option SV) 1)) (@up7 (Fx (Option SV) 1)) (dg 8 k) (@D8.rec (fun _ => (Fx (Option SV) 0 → Fx (Option SV) 0) → Fx (Option SV) 1 → Fx (Option SV) 1) (@up0 (Fx (Option SV) 0)) (@up1 (Fx (Option SV) 0)) (@up2 (Fx (Option SV) 0)) (@up3 (Fx (Option SV) 0)) (@up4 (Fx (Option SV) 0)) (@up5 (Fx (Option SV) 0)) (@up6 (Fx (Option SV) 0)) (@up7 (Fx (Option SV) 0)) (dg 64 k) (fun _ => some x)))) t
theorem gAS_eq (t : Fx (Option SV) 3) (k : Nat) : gAS t k = leafN 1 3 t k := rfl
theorem uAS_eq (x : SV) (k : Nat) (t : Fx (Option SV) 3) : uAS x k t = updN (fun _ => some x) 1 3 k t := rfl
noncomputable def gBS (t : Fx (Option SV) 5) (k : Nat) : Option SV := @D8.rec (fun _ => Fx (Option SV) 1 → Fx (Option SV) 0) (@P8.a0 (Fx (Option SV) 0)) (@P8.a1 (Fx (Option SV) 0)) (@P8.a2 (Fx (Option SV) 0)) (@P8.a3 (Fx (Option SV) 0)) (@P8.a4 (Fx (Option SV) 0)) (@P8.a5 (Fx (Option SV) 0)) (@P8.a6 (Fx (Option SV) 0)) (@P8.a7 (Fx (Option SV) 0)) (dg 4096 k) (@D8.rec (fun _ => Fx (Option SV) 2 → Fx (Option SV) 1) (@P8.a0 (Fx (Option SV) 1)) (@P8.a1 (Fx (Option SV) 1)) (@P8.a2 (Fx (Option SV) 1)) (@P8.a3 (Fx (Option SV) 1)) (@P8.a4 (Fx (Option SV) 1)) (@P8.a5 (Fx (Option SV) 1)) (@P8.a6 (Fx (Option SV) 1)) (@P8.a7 (Fx (Option SV) 1)) (dg 512 k) (@D8.rec (fun _ => Fx (Option SV) 3 → Fx (Option SV) 2) (@P8.a0 (Fx (Option SV) 2)) (@P8.a1 (Fx (Option SV) 2)) (@P8.a2 (Fx (Option SV) 2)) (@P8.a3 (Fx (Option SV) 2)) (@P8.a4 (Fx (Option SV) 2)) (@P8.a5 (Fx (Option SV) 2)) (@P8.a6 (Fx (Option SV) 2)) (@P8.a7 (Fx (Option SV) 2)) (dg 64 k) (@D8.rec (fun _ => Fx (Option SV) 4 → Fx (Option SV) 3) (@P8.a0 (Fx (Option SV) 3)) (@P8.a1 (Fx (Option SV) 3)) (@P8.a2 (Fx (Option SV) 3)) (@P8.a3 (Fx (Option SV) 3)) (@P8.a4 (Fx (Option SV) 3)) (@P8.a5 (Fx (Option SV) 3)) (@P8.a6 (Fx (Option SV) 3)) (@P8.a7 (Fx (Option SV) 3)) (dg 8 k) (@D8.rec (fun _ => Fx (Option SV) 5 → Fx (Option SV) 4) (@P8.a0 (Fx (Option SV) 4)) (@P8.a1 (Fx (Option SV) 4)) (@P8.a2 (Fx (Option SV) 4)) (@P8.a3 (Fx (Option SV) 4)) (@P8.a4 (Fx (Option SV) 4)) (@P8.a5 (Fx (Option SV) 4)) (@P8.a6 (Fx (Option SV) 4)) (@P8.a7 (Fx (Option SV) 4)) (dg 1 k) t))))
noncomputable def uBS (x : SV) (k : Nat) (t : Fx (Option SV) 5) : Fx (Option SV) 5 := (@D8.rec (fun _ => (Fx (Option SV) 4 → Fx (Option SV) 4) → Fx (Option SV) 5 → Fx (Option SV) 5) (@up0 (Fx (Option SV) 4)) (@up1 (Fx (Option SV) 4)) (@up2 (Fx (Option SV) 4)) (@up3 (Fx (Option SV) 4)) (@up4 (Fx (Option SV) 4)) (@up5 (Fx (Option SV) 4)) (@up6 (Fx (Option SV) 4)) (@up7 (Fx (Option SV) 4)) (dg 1 k) (@D8.rec (fun _ => (Fx (Option SV) 3 → Fx (Option SV) 3) → Fx (Option SV) 4 → Fx (Option SV) 4) (@up0 (Fx (Option SV) 3)) (@up1 (Fx (Option SV) 3)) (@up2 (Fx (Option SV) 3)) (@up3 (Fx (Option SV) 3)) (@up4 (Fx (Option SV) 3)) (@up5 (Fx (Option SV) 3)) (@up6 (Fx (Option SV) 3)) (@up7 (Fx (Option SV) 3)) (dg 8 k) (@D8.rec (fun _ => (Fx (Option SV) 2 → Fx (Option SV) 2) → Fx (Option SV) 3 → Fx (Option SV) 3) (@up0 (Fx (Option SV) 2)) (@up1 (Fx (Option SV) 2)) (@up2 (Fx (Option SV) 2)) (@up3 (Fx (Option SV) 2)) (@up4 (Fx (Option SV) 2)) (@up5 (Fx (Option SV) 2)) (@up6 (Fx (Option SV) 2)) (@up7 (Fx (Option SV) 2)) (dg 64 k) (@D8.rec (fun _ => (Fx (Option SV) 1 → Fx (Option SV) 1) → Fx (Option SV) 2 → Fx (Option SV) 2) (@up0 (Fx (Option SV) 1)) (@up1 (Fx (Option SV) 1)) (@up2 (Fx (Option SV) 1)) (@up3 (Fx (Option SV) 1)) (@up4 (Fx (Option SV) 1)) (@up5 (Fx (Option SV) 1)) (@up6 (Fx (Option SV) 1)) (@up7 (Fx (Option SV) 1)) (dg 512 k) (@D8.rec (fun _ => (Fx (Option SV) 0 → Fx (Option SV) 0) → Fx (Option SV) 1 → Fx (Option SV) 1) (@up0 (Fx (Option SV) 0)) (@up1 (Fx (Option SV) 0)) (@up2 (Fx (Option SV) 0)) (@up3 (Fx (Option SV) 0)) (@up4 (Fx (Option SV) 0)) (@up5 (Fx (Option SV) 0)) (@up6 (Fx (Option SV) 0)) (@up7 (Fx (Option SV) 0)) (dg 4096 k) (fun _ => some x)))))) t
theorem gBS_eq (t : Fx (Option SV) 5) (k : Nat) : gBS t k = leafN 1 5 t k := rfl
theorem uBS_eq (x : SV) (k : Nat) (t : Fx (Option SV) 5) : uBS x k t = updN (fun _ => some x) 1 5 k t := rfl
structure TrS where
 a : Fx (Option SV) 3
 b : Fx (Option SV) 5
 c : Tq SV
namespace TrS
def lf : TrS := ⟨allN none 3, allN none 5, .lf⟩
noncomputable def get (t : TrS) (k : Nat) : Option SV := @Bool.rec (fun _ => Option SV) (@Bool.rec (fun _ => Option SV) (t.c.get k) (gBS t.b k) (Nat.ble k 32767)) (gAS t.a k) (Nat.ble k 511)
noncomputable def set (t : TrS) (x : SV) (k : Nat) : TrS := @Bool.rec (fun _ => TrS) (@Bool.rec (fun _ => TrS) ⟨t.a, t.b, t.c.set x k⟩ ⟨t.a, uBS x k t.b, t.c⟩ (Nat.ble k 32767)) ⟨uAS x k t.a, t.b, t.c⟩ (Nat.ble k 511)
theorem get_eq (t : TrS) (k : Nat) : t.get k = if k < 512 then leafN 1 3 t.a k else if k < 32768 then leafN 1 5 t.b k else t.c.get k := by
 unfold get
 rw [ble_lt k 511, ble_lt k 32767]
 by_cases h : k < 512
 ·rw [decide_eq_true h, if_pos h]; exact gAS_eq _ _
 ·rw [decide_eq_false h, if_neg h]
  by_cases h2 : k < 32768
  ·rw [decide_eq_true h2, if_pos h2]; exact gBS_eq _ _
  ·rw [decide_eq_false h2, if_neg h2]
theorem set_eq (t : TrS) (x : SV) (k : Nat) : t.set x k = if k < 512 then ⟨updN (fun _ => some x) 1 3 k t.a, t.b, t.c⟩ else if k < 32768 then ⟨t.a, updN (fun _ => some x) 1 5 k t.b, t.c⟩ else ⟨t.a, t.b, t.c.set x k⟩ := by
 unfold set
 rw [ble_lt k 511, ble_lt k 32767]
 by_cases h : k < 512
 ·rw [decide_eq_true h, if_pos h, ← uAS_eq]
 ·rw [decide_eq_false h, if_neg h]
  by_cases h2 : k < 32768
  ·rw [decide_eq_true h2, if_pos h2, ← uBS_eq]
  ·rw [decide_eq_false h2, if_neg h2]
theorem get_lf (k : Nat) : lf.get k = none := by
 rw [get_eq]
 split
 ·exact leaf_all ..
 ·split
  ·exact leaf_all ..
  ·exact Tq.get_lf k
theorem get_set (t : TrS) (x : SV) (k j : Nat) (h : k < 2 ^ 40) : (t.set x k).get j = if j = k then some x else t.get j := by
 rw [get_eq, get_eq, set_eq]
 by_cases hk : k < 512
 ·rw [if_pos hk]
  by_cases hj : j < 512
  ·rw [if_pos hj, if_pos hj, leaf_upd, Nat.div_one, Nat.div_one, Nat.mod_eq_of_lt (a := j) (by omega), Nat.mod_eq_of_lt (a := k) (by omega)]
  ·rw [if_neg hj, if_neg hj, if_neg (show ¬ j = k by omega)]
 ·rw [if_neg hk]
  by_cases hk2 : k < 32768
  ·rw [if_pos hk2]
   by_cases hj : j < 512
   ·rw [if_pos hj, if_pos hj, if_neg (show ¬ j = k by omega)]
   ·rw [if_neg hj, if_neg hj]
    by_cases hj2 : j < 32768
    ·rw [if_pos hj2, if_pos hj2, leaf_upd, Nat.div_one, Nat.div_one, Nat.mod_eq_of_lt (a := j) (by omega), Nat.mod_eq_of_lt (a := k) (by omega)]
    ·rw [if_neg hj2, if_neg hj2, if_neg (show ¬ j = k by omega)]
  ·rw [if_neg hk2]
   by_cases hj : j < 512
   ·rw [if_pos hj, if_pos hj, if_neg (show ¬ j = k by omega)]
   ·rw [if_neg hj, if_neg hj]
    by_cases hj2 : j < 32768
    ·rw [if_pos hj2, if_pos hj2, if_neg (show ¬ j = k by omega)]
    ·rw [if_neg hj2, if_neg hj2, Tq.get_set _ _ _ _ h]
end TrS
structure As where
 b : Option Nat
 c : Nat
 v : Value
 o : Option Obj
 one : v.oneCell' = true
abbrev Rho := Nat → As
def bl (ρ : Rho) (s : Nat) : Nat := (ρ s).b.getD 0
def ad (ρ : Rho) (s : Nat) : Option Addr := (ρ s).b.map fun b => ⟨b, 0, none⟩
mutual
def dv (ρ : Rho) : SV → Value
 | .int k i => .int k i
 | .bool b => .bool b
 | .str l => .string (str (l.map UInt8.ofNat))
 | .ptr s off => .pointer (some ⟨bl ρ s, off, none⟩)
 | .nilp => .pointer none
 | .sl s i n sz => .slice ((ρ s).b.map fun b => ⟨b, i * sz, none⟩) n ((ρ s).c - i)
 | .slx s off n cap => .slice (some ⟨bl ρ s, off, none⟩) n cap
 | .nils => .slice none 0 0
 | .dg t s => .slice (ad ρ s) (canon t).1.length (ρ s).c
 | .mp s => .map (some (bl ρ s))
 | .nilm => .map none
 | .fn f us cs => .func (.func f) (dvs ρ us).toArray (dvs ρ cs).toArray
 | .nilf => .nilFunc
 | .ifc t v => .iface t (dv ρ v)
 | .nili => .nilIface
 | .agg l => .agg (dvs ρ l).toArray
 | .tup l => .tuple (dvs ρ l).toArray
 | .opq s => (ρ s).v
 | .yl s => .func (.yield (bl ρ s)) #[] #[]
def dvs (ρ : Rho) : List SV → List Value
 | [] => []
 | x :: r => dv ρ x :: dvs ρ r
end
theorem dvs_map (ρ : Rho) : ∀ l : List SV, dvs ρ l = l.map (dv ρ)
 | [] => rfl
 | x :: r => by rw [dvs, dvs_map ρ r]; rfl
theorem dvs_len (ρ : Rho) (l : List SV) : (dvs ρ l).length = l.length := by rw [dvs_map, List.length_map]
theorem dvs_get {ρ : Rho} {l : List SV} {i : Nat} {x : SV} (h : l[i]? = some x) : (dvs ρ l)[i]? = some (dv ρ x) := by rw [dvs_map, List.getElem?_map, h]; rfl
theorem dvs_append (ρ : Rho) (l m : List SV) : dvs ρ (l ++ m) = dvs ρ l ++ dvs ρ m := by simp [dvs_map]
inductive KK where
 | str | int | two | three
@[reducible] def KK.T : KK → Type
 | .str => List UInt8
 | .int => Nat
 | .two => Nat × Nat
 | .three => Nat × Nat × Nat
instance KK.dec : (k : KK) → DecidableEq k.T
 | .str => inferInstanceAs (DecidableEq (List UInt8))
 | .int => inferInstanceAs (DecidableEq Nat)
 | .two => inferInstanceAs (DecidableEq (Nat × Nat))
 | .three => inferInstanceAs (DecidableEq (Nat × Nat × Nat))
def KK.beq : KK → KK → Bool
 | .str, .str | .int, .int | .two, .two | .three, .three => true
 | _, _ => false
theorem KK.beq_ok {k k' : KK} (h : KK.beq k k' = true) : k = k' := by cases k <;> cases k' <;> first | rfl | cases h
inductive Blk where
 | cells (cs : List SV) (e : TypeId)
 | row (xs : List SV) (n : Nat) (e : TypeId) (sz : Nat)
 | dgr (t : BT)
 | kv (k : KK) (l : List (List Nat × SV))    -- a map
 | ro (cs : List SV)                -- a variable of the program's, to be read
 | dead
 | lp (N : Nat) (T : TrS) (ps : List Nat) (asg body : Code) (busy : Bool)    -- the record of a loop over a function
 | dfd                              -- the block for deferred calls of such a loop's rounds
 | itr (t : Nat) (k : KK) (l : List (List Nat × SV)) (left : List (List Nat)) (cur : Option (List Nat))   -- an iterator over the map t
 | sit (l : List Nat) (pos : Nat)   -- one over a string
 | rd (xs : List SV)                -- cells to be read
 | hol (cs : List (Option SV)) (e : TypeId)    -- cells of which some are not known
noncomputable def gAB (t : Fx (Option Blk) 3) (k : Nat) : Option Blk := @D8.rec (fun _ => Fx (Option Blk) 1 → Fx (Option Blk) 0) (@P8.a0 (Fx (Option Blk) 0)) (@P8.a1 (Fx (Option Blk) 0)) (@P8.a2 (Fx (Option Blk) 0)) (@P8.a3 (Fx (Option Blk) 0)) (@P8.a4 (Fx (Option Blk) 0)) (@P8.a5 (Fx (Option Blk) 0)) (@P8.a6 (Fx (Option Blk) 0)) (@P8.a7 (Fx (Option Blk) 0)) (dg 64 k) (@D8.rec (fun _ => Fx (Option Blk) 2 → Fx (Option Blk) 1) (@P8.a0 (Fx (Option Blk) 1)) (@P8.a1 (Fx (Option Blk) 1)) (@P8.a2 (Fx (Option Blk) 1)) (@P8.a3 (Fx (Option Blk) 1)) (@P8.a4 (Fx (Option Blk) 1)) (@P8.a5 (Fx (Option Blk) 1)) (@P8.a6 (Fx (Option Blk) 1)) (@P8.a7 (Fx (Option Blk) 1)) (dg 8 k) (@D8.rec (fun _ => Fx (Option Blk) 3 → Fx (Option Blk) 2) (@P8.a0 (Fx (Option Blk) 2)) (@P8.a1 (Fx (Option Blk) 2)) (@P8.a2 (Fx (Option Blk) 2)) (@P8.a3 (Fx (Option Blk) 2)) (@P8.a4 (Fx (Option Blk) 2)) (@P8.a5 (Fx (Option Blk) 2)) (@P8.a6 (Fx (Option Blk) 2)) (@P8.a7 (Fx (Option Blk) 2)) (dg 1 k) t))
noncomputable def uAB (x : Blk) (k : Nat) (t : Fx (Option Blk) 3) : Fx (Option Blk) 3 := (@D8.rec (fun _ => (Fx (Option Blk) 2 → Fx (Option Blk) 2) → Fx (Option Blk) 3 → Fx (Option Blk) 3) (@up0 (Fx (Option Blk) 2)) (@up1 (Fx (Option Blk) 2)) (@up2 (Fx (Option Blk) 2)) (@up3 (Fx (Option Blk) 2)) (@up4 (Fx (Option Blk) 2)) (@up5 (Fx (Option Blk) 2)) (@up6 (Fx (Option Blk) 2)) (@up7 (Fx (Option Blk) 2)) (dg 1 k) (@D8.rec (fun _ => (Fx (Option Blk) 1 → Fx (Option Blk) 1) → Fx (Option Blk) 2 → Fx (Option Blk) 2) (@up0 (Fx (Option Blk) 1)) (@up1 (Fx (Option Blk) 1)) (@up2 (Fx (Option Blk) 1)) (@up3 (Fx (Option Blk) 1)) (@up4 (Fx (Option Blk) 1)) (@up5 (Fx (Option Blk) 1)) (@up6 (Fx (Option Blk) 1)) (@up7 (Fx (Option Blk) 1)) (dg 8 k) (@D8.rec (fun _ => (Fx (Option Blk) 0 → Fx (Option Blk) 0) → Fx (Option Blk) 1 → Fx (Option Blk) 1) (@up0 (Fx (Option Blk) 0)) (@up1 (Fx (Option Blk) 0)) (@up2 (Fx (Option Blk) 0)) (@up3 (Fx (Option Blk) 0)) (@up4 (Fx (Option Blk) 0)) (@up5 (Fx (Option Blk) 0)) (@up6 (Fx (Option Blk) 0)) (@up7 (Fx (Option Blk) 0)) (dg 64 k) (fun _ => some x)))) t
theorem gAB_eq (t : Fx (Option Blk) 3) (k : Nat) : gAB t k = leafN 1 3 t k := rfl
theorem uAB_eq (x : Blk) (k : Nat) (t : Fx (Option Blk) 3) : uAB x k t = updN (fun _ => some x) 1 3 k t := rfl
noncomputable def gBB (t : Fx (Option Blk) 5) (k : Nat) : Option Blk := @D8.rec (fun _ => Fx (Option Blk) 1 → Fx (Option Blk) 0) (@P8.a0 (Fx (Option Blk) 0)) (@P8.a1 (Fx (Option Blk) 0)) (@P8.a2 (Fx (Option Blk) 0)) (@P8.a3 (Fx (Option Blk) 0)) (@P8.a4 (Fx (Option Blk) 0)) (@P8.a5 (Fx (Option Blk) 0)) (@P8.a6 (Fx (Option Blk) 0)) (@P8.a7 (Fx (Option Blk) 0)) (dg 4096 k) (@D8.rec (fun _ => Fx (Option Blk) 2 → Fx (Option Blk) 1) (@P8.a0 (Fx (Option Blk) 1)) (@P8.a1 (Fx (Option Blk) 1)) (@P8.a2 (Fx (Option Blk) 1)) (@P8.a3 (Fx (Option Blk) 1)) (@P8.a4 (Fx (Option Blk) 1)) (@P8.a5 (Fx (Option Blk) 1)) (@P8.a6 (Fx (Option Blk) 1)) (@P8.a7 (Fx (Option Blk) 1)) (dg 512 k) (@D8.rec (fun _ => Fx (Option Blk) 3 → Fx (Option Blk) 2) (@P8.a0 (Fx (Option Blk) 2)) (@P8.a1 (Fx (Option Blk) 2)) (@P8.a2 (Fx (Option Blk) 2)) (@P8.a3 (Fx (Option Blk) 2)) (@P8.a4 (Fx (Option Blk) 2)) (@P8.a5 (Fx (Option Blk) 2)) (@P8.a6 (Fx (Option Blk) 2)) (@P8.a7 (Fx (Option Blk) 2)) (dg 64 k) (@D8.rec (fun _ => Fx (Option Blk) 4 → Fx (Option Blk) 3) (@P8.a0 (Fx (Option Blk) 3)) (@P8.a1 (Fx (Option Blk) 3)) (@P8.a2 (Fx (Option Blk) 3)) (@P8.a3 (Fx (Option Blk) 3)) (@P8.a4 (Fx (Option Blk) 3)) (@P8.a5 (Fx (Option Blk) 3)) (@P8.a6 (Fx (Option Blk) 3)) (@P8.a7 (Fx (Option Blk) 3)) (dg 8 k) (@D8.rec (fun _ => Fx (Option Blk) 5 → Fx (Option Blk) 4) (@P8.a0 (Fx (Option Blk) 4)) (@P8.a1 (Fx (Option Blk) 4)) (@P8.a2 (Fx (Option Blk) 4)) (@P8.a3 (Fx (Option Blk) 4)) (@P8.a4 (Fx (Option Blk) 4)) (@P8.a5 (Fx (Option Blk) 4)) (@P8.a6 (Fx (Option Blk) 4)) (@P8.a7 (Fx (Option Blk) 4)) (dg 1 k) t))))
noncomputable def uBB (x : Blk) (k : Nat) (t : Fx (Option Blk) 5) : Fx (Option Blk) 5 := (@D8.rec (fun _ => (Fx (Option Blk) 4 → Fx (Option Blk) 4) → Fx (Option Blk) 5 → Fx (Option Blk) 5) (@up0 (Fx (Option Blk) 4)) (@up1 (Fx (Option Blk) 4)) (@up2 (Fx (Option Blk) 4)) (@up3 (Fx (Option Blk) 4)) (@up4 (Fx (Option Blk) 4)) (@up5 (Fx (Option Blk) 4)) (@up6 (Fx (Option Blk) 4)) (@up7 (Fx (Option Blk) 4)) (dg 1 k) (@D8.rec (fun _ => (Fx (Option Blk) 3 → Fx (Option Blk) 3) → Fx (Option Blk) 4 → Fx (Option Blk) 4) (@up0 (Fx (Option Blk) 3)) (@up1 (Fx (Option Blk) 3)) (@up2 (Fx (Option Blk) 3)) (@up3 (Fx (Option Blk) 3)) (@up4 (Fx (Option Blk) 3)) (@up5 (Fx (Option Blk) 3)) (@up6 (Fx (Option Blk) 3)) (@up7 (Fx (Option Blk) 3)) (dg 8 k) (@D8.rec (fun _ => (Fx (Option Blk) 2 → Fx (Option Blk) 2) → Fx (Option Blk) 3 → Fx (Option Blk) 3) (@up0 (Fx (Option Blk) 2)) (@up1 (Fx (Option Blk) 2)) (@up2 (Fx (Option Blk) 2)) (@up3 (Fx (Option Blk) 2)) (@up4 (Fx (Option Blk) 2)) (@up5 (Fx (Option Blk) 2)) (@up6 (Fx (Option Blk) 2)) (@up7 (Fx (Option Blk) 2)) (dg 64 k) (@D8.rec (fun _ => (Fx (Option Blk) 1 → Fx (Option Blk) 1) → Fx (Option Blk) 2 → Fx (Option Blk) 2) (@up0 (Fx (Option Blk) 1)) (@up1 (Fx (Option Blk) 1)) (@up2 (Fx (Option Blk) 1)) (@up3 (Fx (Option Blk) 1)) (@up4 (Fx (Option Blk) 1)) (@up5 (Fx (Option Blk) 1)) (@up6 (Fx (Option Blk) 1)) (@up7 (Fx (Option Blk) 1)) (dg 512 k) (@D8.rec (fun _ => (Fx (Option Blk) 0 → Fx (Option Blk) 0) → Fx (Option Blk) 1 → Fx (Option Blk) 1) (@up0 (Fx (Option Blk) 0)) (@up1 (Fx (Option Blk) 0)) (@up2 (Fx (Option Blk) 0)) (@up3 (Fx (Option Blk) 0)) (@up4 (Fx (Option Blk) 0)) (@up5 (Fx (Option Blk) 0)) (@up6 (Fx (Option Blk) 0)) (@up7 (Fx (Option Blk) 0)) (dg 4096 k) (fun _ => some x)))))) t
theorem gBB_eq (t : Fx (Option Blk) 5) (k : Nat) : gBB t k = leafN 1 5 t k := rfl
theorem uBB_eq (x : Blk) (k : Nat) (t : Fx (Option Blk) 5) : uBB x k t = updN (fun _ => some x) 1 5 k t := rfl
structure TrB where
 a : Fx (Option Blk) 3
 b : Fx (Option Blk) 5
 c : Tq Blk
namespace TrB
def lf : TrB := ⟨allN none 3, allN none 5, .lf⟩
noncomputable def get (t : TrB) (k : Nat) : Option Blk := @Bool.rec (fun _ => Option Blk) (@Bool.rec (fun _ => Option Blk) (t.c.get k) (gBB t.b k) (Nat.ble k 32767)) (gAB t.a k) (Nat.ble k 511)
noncomputable def set (t : TrB) (x : Blk) (k : Nat) : TrB := @Bool.rec (fun _ => TrB) (@Bool.rec (fun _ => TrB) ⟨t.a, t.b, t.c.set x k⟩ ⟨t.a, uBB x k t.b, t.c⟩ (Nat.ble k 32767)) ⟨uAB x k t.a, t.b, t.c⟩ (Nat.ble k 511)
theorem get_eq (t : TrB) (k : Nat) : t.get k = if k < 512 then leafN 1 3 t.a k else if k < 32768 then leafN 1 5 t.b k else t.c.get k := by
 unfold get
 rw [ble_lt k 511, ble_lt k 32767]
 by_cases h : k < 512
 ·rw [decide_eq_true h, if_pos h]; exact gAB_eq _ _
 ·rw [decide_eq_false h, if_neg h]
  by_cases h2 : k < 32768
  ·rw [decide_eq_true h2, if_pos h2]; exact gBB_eq _ _
  ·rw [decide_eq_false h2, if_neg h2]
theorem set_eq (t : TrB) (x : Blk) (k : Nat) : t.set x k = if k < 512 then ⟨updN (fun _ => some x) 1 3 k t.a, t.b, t.c⟩ else if k < 32768 then ⟨t.a, updN (fun _ => some x) 1 5 k t.b, t.c⟩ else ⟨t.a, t.b, t.c.set x k⟩ := by
 unfold set
 rw [ble_lt k 511, ble_lt k 32767]
 by_cases h : k < 512
 ·rw [decide_eq_true h, if_pos h, ← uAB_eq]
 ·rw [decide_eq_false h, if_neg h]
  by_cases h2 : k < 32768
  ·rw [decide_eq_true h2, if_pos h2, ← uBB_eq]
  ·rw [decide_eq_false h2, if_neg h2]
theorem get_lf (k : Nat) : lf.get k = none := by
 rw [get_eq]
 split
 ·exact leaf_all ..
 ·split
  ·exact leaf_all ..
  ·exact Tq.get_lf k
theorem get_set (t : TrB) (x : Blk) (k j : Nat) (h : k < 2 ^ 40) : (t.set x k).get j = if j = k then some x else t.get j := by
 rw [get_eq, get_eq, set_eq]
 by_cases hk : k < 512
 ·rw [if_pos hk]
  by_cases hj : j < 512
  ·rw [if_pos hj, if_pos hj, leaf_upd, Nat.div_one, Nat.div_one, Nat.mod_eq_of_lt (a := j) (by omega), Nat.mod_eq_of_lt (a := k) (by omega)]
  ·rw [if_neg hj, if_neg hj, if_neg (show ¬ j = k by omega)]
 ·rw [if_neg hk]
  by_cases hk2 : k < 32768
  ·rw [if_pos hk2]
   by_cases hj : j < 512
   ·rw [if_pos hj, if_pos hj, if_neg (show ¬ j = k by omega)]
   ·rw [if_neg hj, if_neg hj]
    by_cases hj2 : j < 32768
    ·rw [if_pos hj2, if_pos hj2, leaf_upd, Nat.div_one, Nat.div_one, Nat.mod_eq_of_lt (a := j) (by omega), Nat.mod_eq_of_lt (a := k) (by omega)]
    ·rw [if_neg hj2, if_neg hj2, if_neg (show ¬ j = k by omega)]
  ·rw [if_neg hk2]
   by_cases hj : j < 512
   ·rw [if_pos hj, if_pos hj, if_neg (show ¬ j = k by omega)]
   ·rw [if_neg hj, if_neg hj]
    by_cases hj2 : j < 32768
    ·rw [if_pos hj2, if_pos hj2, if_neg (show ¬ j = k by omega)]
    ·rw [if_neg hj2, if_neg hj2, Tq.get_set _ _ _ _ h]
end TrB
def noC : Chunk where
 fp _ := False
 ok _ := True
 loc _ _ _ h := h
def sk (l : List Nat) : List UInt8 := l.map UInt8.ofNat
abbrev encS (l : List UInt8) : Value := .string (str l)
def KK.enc : (k : KK) → k.T → Value
 | .str => encS
 | .int => encI
 | .two => enc2
 | .three => enc3
def KK.key : (k : KK) → List Nat → k.T
 | .str => sk
 | .int => fun l => l.headD 0
 | .two => fun l => (l.headD 0, l.tail.headD 0)
 | .three => fun l => (l.headD 0, l.tail.headD 0, l.tail.tail.headD 0)
noncomputable def kvf (ρ : Rho) (k : KK) (l : List (List Nat × SV)) : k.T → Option Value := fun q => (l.find? fun p => decide (k.key p.1 = q)).map fun p => dv ρ p.2
def ItrOk {κ : Type} [DecidableEq κ] (bi bm : Nat) (enc : κ → Value) (f : κ → Option Value) (left : List κ) (cur : Option κ) (w : World) : Prop :=
 bi ≠ bm ∧ ∃ (es : Array MapEntry) (clock : Nat) (kvs : List (κ × Value)) (since c0 : Nat) (seen : Array Nat), w.heap[bm]? = some (.map es clock) ∧ es.toList.map (fun e => (e.key, e.val)) = kvs.map (fun p => (enc p.1, p.2)) ∧ (∀ k, f k = kfind kvs k) ∧ MapInv es.toList clock (kvs.map Prod.fst) ∧
  w.heap[bi]? = some (.mapIter (some bm) since seen c0) ∧ (∀ e ∈ es.toList, e.born < since) ∧ since ≤ c0 ∧ since ≤ clock ∧ (∀ (i : Nat) e p, es.toList[i]? = some e → kvs[i]? = some p → (e.born ∈ seen ↔ p.1 ∉ left)) ∧ (∀ q, cur = some q → ∃ (i : Nat) (e : MapEntry) (p : κ × Value) (s0 : Array Nat), es.toList[i]? = some e ∧ kvs[i]? = some p ∧ p.1 = q ∧ seen = s0.push e.born ∧ c0 = clock)
theorem ItrOk.loc {κ : Type} [DecidableEq κ] {bi bm : Nat} {enc : κ → Value} {f : κ → Option Value} {left : List κ} {cur : Option κ} {w w' : World} (h : ItrOk bi bm enc f left cur w) (h1 : w'.heap[bi]? = w.heap[bi]?) (h2 : w'.heap[bm]? = w.heap[bm]?) : ItrOk bi bm enc f left cur w' := by
 obtain ⟨hn, es, clock, kvs, since, c0, seen, g1, g2, g3, g4, g5, g6⟩ := h
 exact ⟨hn, es, clock, kvs, since, c0, seen, h2.trans g1, g2, g3, g4, h1.trans g5, g6⟩
noncomputable def bch (ρ : Rho) (s : Nat) : Blk → Chunk
 | .cells cs e => pt (bl ρ s) (dvs ρ cs) e
 | .row xs n e sz => rowc (.slice (ad ρ s) n (ρ s).c) n e sz (dvs ρ xs)
 | .dgr t => dC (ad ρ s) (ρ s).c t
 | .kv k l => mpg k.enc (bl ρ s) (kvf ρ k l)
 | .ro cs => { fp := fun k => k = bl ρ s, ok := fun w => w.heap[bl ρ s]? = (ρ s).o ∧ ∀ (j : Nat) (x : SV), cs[j]? = some x → w.cell? ⟨bl ρ s, j, none⟩ = some (dv ρ x), loc := fun w w' h ⟨h1, h2⟩ => ⟨(h _ rfl).trans h1, fun j x hx => by rw [World.cell?_of_block (w := w) (w' := w') (a := ⟨bl ρ s, j, none⟩) (h _ rfl)]; exact h2 j x hx⟩ }
 | .dead => noC
 | .lp N T ps asg body busy => { fp := fun k => k = bl ρ s, ok := fun w => ∃ r : Loop, w.heap[bl ρ s]? = some (.loop r) ∧ r.state = (if busy then .busy else .ready) ∧ r.pending = none ∧ r.params = ps.toArray ∧ r.assign = asg ∧ r.body = body ∧ r.tmps.size = N ∧ ∀ i x, T.get i = some x → r.tmps[i]? = some (dv ρ x), loc := fun w w' h ⟨r, h1, h2⟩ => ⟨r, (h _ rfl).trans h1, h2⟩ }
 | .dfd => ob1 (bl ρ s) (.deferred (some []))
 | .itr t k l left cur => { fp := fun q => q = bl ρ s ∨ q = bl ρ t, ok := fun w => ItrOk (bl ρ s) (bl ρ t) k.enc (kvf ρ k l) (left.map k.key) (cur.map k.key) w, loc := fun w w' h hw => hw.loc (h _ (.inl rfl)) (h _ (.inr rfl)) }
 | .sit l pos => ob1 (bl ρ s) (.stringIter (str (l.map UInt8.ofNat)) pos)
 | .rd xs => { fp := fun k => k = bl ρ s, ok := fun w => (ρ s).b = some (bl ρ s) ∧ ∀ (j : Nat) (x : SV), xs[j]? = some x → w.cell? ⟨bl ρ s, j, none⟩ = some (dv ρ x), loc := fun w w' h ⟨h1, h2⟩ => ⟨h1, fun j x hx => by rw [World.cell?_of_block (w := w) (w' := w') (a := ⟨bl ρ s, j, none⟩) (h _ rfl)]; exact h2 j x hx⟩ }
 | .hol cs e => { fp := fun k => k = bl ρ s, ok := fun w => ∃ vs : List Value, w.heap[bl ρ s]? = some (.cells vs.toArray e (0, 0)) ∧ vs.length = cs.length ∧ ∀ (j : Nat) (x : SV), cs[j]? = some (some x) → vs[j]? = some (dv ρ x), loc := fun w w' h ⟨vs, h1, h2⟩ => ⟨vs, (h _ rfl).trans h1, h2⟩ }
noncomputable abbrev memC (ρ : Rho) (M : TrB) : Chunk := fam fun s => (M.get s).map (bch ρ s)
abbrev Asg := Nat → Option As
def Ext (σ : Asg) (ρ : Rho) : Prop := ∀ s p, σ s = some p → ρ s = p
def Asg.le (σ τ : Asg) : Prop := ∀ s p, σ s = some p → τ s = some p
theorem Asg.le.refl (σ : Asg) : σ.le σ := fun _ _ h => h
theorem Asg.le.trans {σ τ υ : Asg} (h : σ.le τ) (h2 : τ.le υ) : σ.le υ := fun s p hs => h2 s p (h s p hs)
theorem Ext.le {σ τ : Asg} {ρ : Rho} (h : σ.le τ) (hE : Ext τ ρ) : Ext σ ρ := fun s p hs => hE s p (h s p hs)
instance : Inhabited As := ⟨⟨none, 0, .bool false, none, rfl⟩⟩
def Asg.rho (σ : Asg) : Rho := fun s => (σ s).getD default
theorem Asg.rho_ext (σ : Asg) : Ext σ σ.rho := fun s p h => by unfold Asg.rho; rw [h]; rfl
def Asg.put (σ : Asg) (s : Nat) (p : As) : Asg := fun t => if t = s then some p else σ t
theorem Asg.put_le {σ : Asg} {s : Nat} {p : As} (h : σ s = none) : σ.le (σ.put s p) := fun t q ht => by
 unfold Asg.put
 split
 ·rename_i e; subst e; rw [h] at ht; cases ht
 ·exact ht
theorem Asg.put_at {σ : Asg} {s : Nat} {p : As} {ρ : Rho} (h : Ext (σ.put s p) ρ) : ρ s = p := h s p (by unfold Asg.put; rw [if_pos rfl])
structure MemS (w0 : World) (O : List Nat) (σ : Asg) (M : TrB) (w : World) : Prop where
 st : ∀ ρ, Ext σ ρ → St w0 O [memC ρ M] w
 dom : ∀ s, M.get s = none ↔ σ s = none
inductive SD where
 | col (s : Nat)
 | fn (g : Nat) (us cs : List SV)
def dD (ρ : Rho) : SD → Deferred
 | .col s => { target := .collected (bl ρ s), args := #[] }
 | .fn g us cs => { target := .fn (.func g) (dvs ρ cs).toArray, args := (dvs ρ us).toArray }
structure FrS (N : Nat) (D : List SD) (σ : Asg) (T : TrS) (a : Act) : Prop where
 defers : ∀ ρ, Ext σ ρ → a.defers = D.map (dD ρ)
 size : a.tmps.size = N
 get : ∀ ρ, Ext σ ρ → ∀ i x, T.get i = some x → a.tmps[i]? = some (dv ρ x)
theorem FrS.le {N : Nat} {D : List SD} {σ τ : Asg} {T : TrS} {a : Act} (h : FrS N D σ T a) (hl : σ.le τ) : FrS N D τ T a := ⟨fun ρ hE => h.defers ρ (hE.le hl), h.size, fun ρ hE => h.get ρ (hE.le hl)⟩
theorem FrS.put {N : Nat} {D : List SD} {σ : Asg} {T : TrS} {a : Act} (h : FrS N D σ T a) {d : Nat} {v : Value} {x : SV} (hd : Nat.blt d N = true) (hN : Nat.ble N 1000000 = true) (hv : ∀ ρ, Ext σ ρ → v = dv ρ x) : FrS N D σ (T.set x d) (a.put (some d) v) := by
 have hd' : d < N := Nat.le_of_ble_eq_true hd
 have hN' : N ≤ 1000000 := Nat.le_of_ble_eq_true hN
 refine ⟨h.defers, by simp [Act.put, h.size], fun ρ hE i y hy => ?_⟩
 rw [TrS.get_set _ _ _ _ (by omega)] at hy
 by_cases hi : i = d
 ·subst hi
  rw [if_pos rfl] at hy
  cases hy
  have : i < a.tmps.size := by rw [h.size]; exact hd'
  simp [Act.put, this, hv ρ hE]
 ·rw [if_neg hi] at hy
  simp [Act.put, Array.getElem?_setIfInBounds_ne (Ne.symm hi), h.get ρ hE i y hy]
def full (a : Act) : FL := (List.range a.tmps.size).map fun i => (i, a.tmps.getD i undef)
theorem lk_map (f : Nat → Value) : ∀ (l : List Nat) (i : Nat), lk (l.map fun j => (j, f j)) i = if i ∈ l then some (f i) else none
 | [], i => rfl
 | j :: l, i => by
  simp only [List.map_cons, lk, lk_map f l i, List.mem_cons]
  by_cases h : j = i
  ·subst h; simp
  ·have : Nat.beq j i = false := by
    cases hb : Nat.beq j i with
    | true => exact absurd (Nat.eq_of_beq_eq_true hb) h
    | false => rfl
   rw [this]
   simp [Ne.symm h]
theorem lk_full {a : Act} {i : Nat} {v : Value} (h : a.tmps[i]? = some v) : lk (full a) i = some v := by
 have hi := (Array.getElem?_eq_some_iff.1 h).1
 unfold full
 rw [lk_map, if_pos (List.mem_range.2 hi), Array.getD_eq_getD_getElem?, h]; rfl
theorem Fr.full (a : Act) : Fr a.tmps.size a.defers (full a) a := ⟨rfl, rfl, fun i v h => by
 unfold X.full at h
 rw [lk_map] at h
 split at h
 ·rename_i hm
  have hi := List.mem_range.1 hm
  cases h
  rw [Array.getD_eq_getD_getElem?, Array.getElem?_eq_getElem hi]; rfl
 ·cases h⟩
end Go.X
namespace Go.X
open Go Go.Eng Go.RowKit Dg Go.Proofs.YtnldjikcnahioaaGreatDoor
def still {α : Type} (P : Program) : Sem α → Option α
 | .pure a => some a
 | .program k => still P (k P)
 | _ => none
theorem still_ok {α : Type} {P : Program} : ∀ {e : Sem α} {a : α}, still P e = some a → ∀ w, e.run P w = .ok a w
 | .pure b, a, h, w => by
  simp only [still, Option.some.injEq] at h
  subst h
  rfl
 | .program k, a, h, w => still_ok (e := k P) h w
 | .load .., _, h, _ | .store .., _, h, _ | .new .., _, h, _ | .shape .., _, h, _ | .freeze .., _, h, _ | .frozen .., _, h, _ | .getObj .., _, h, _ | .setObj .., _, h, _ | .choose .., _, h, _ | .sys .., _, h, _ | .mark .., _, h, _ | .halt _, _, h, _ => by simp [still] at h
def cv1 (v : Value) : Option SV := match v with
 | .int k i => some (.int k i)
 | .bool b => some (.bool b)
 | .string s => some (.str (s.data.toList.map UInt8.toNat))
 | .pointer a => match a with | none => some .nilp | some _ => none
 | .slice a n c => match a with | none => (bif Nat.beq n 0 && Nat.beq c 0 then some .nils else none) | some _ => none
 | .map r => match r with | none => some .nilm | some _ => none
 | .nilFunc => some .nilf
 | .nilIface => some .nili
 | .func f us cs => match f with | .func k => (match us.toList, cs.toList with | [], [] => some (.fn k [] []) | _, _ => none) | _ => none
 | _ => none
def cvs : List Value → Option (List SV)
 | [] => some []
 | v :: r => match cv1 v with | none => none | some x => match cvs r with | none => none | some l => some (x :: l)
def cv (v : Value) : Option SV := match v with
 | .agg cs => (match cvs cs.toList with | some l => some (.agg l) | none => none)
 | .tuple cs => (match cvs cs.toList with | some l => some (.tup l) | none => none)
 | .int k i => some (.int k i)
 | .bool b => some (.bool b)
 | v => cv1 v
theorem bytes_back (l : List UInt8) : (l.map UInt8.toNat).map UInt8.ofNat = l := by
 rw [List.map_map]
 have : (UInt8.ofNat ∘ UInt8.toNat) = id := by funext c; simp
 rw [this, List.map_id]
theorem cv1_ok {v : Value} {x : SV} (h : cv1 v = some x) (ρ : Rho) : dv ρ x = v := by
 unfold cv1 at h
 split at h
 ·cases h; rfl
 ·cases h; rfl
 ·cases h; rw [dv, bytes_back]; rename_i s; cases s; rfl
 ·split at h
  ·cases h; rfl
  ·cases h
 ·split at h
  ·rename_i n c _
   cases hb : (Nat.beq n 0 && Nat.beq c 0) with
   | false => rw [hb] at h; cases h
   | true =>
    rw [hb] at h
    rw [Bool.and_eq_true] at hb
    have h1 := Nat.eq_of_beq_eq_true hb.1
    have h2 := Nat.eq_of_beq_eq_true hb.2
    subst h1; subst h2
    cases h; rfl
  ·cases h
 ·split at h
  ·cases h; rfl
  ·cases h
 ·cases h; rfl
 ·cases h; rfl
 ·rename_i f us cs
  cases f with
  | func k =>
   simp only at h
   split at h
   ·rename_i h1 h2
    cases h
    have e1 : us = #[] := by apply Array.ext'; simpa using h1
    have e2 : cs = #[] := by apply Array.ext'; simpa using h2
    rw [e1, e2]; rfl
   ·cases h
  | _ => cases h
 ·cases h
theorem cvs_ok : ∀ {vs : List Value} {l : List SV}, cvs vs = some l → ∀ ρ, dvs ρ l = vs
 | [], l, h, ρ => by simp only [cvs, Option.some.injEq] at h; subst h; rfl
 | v :: r, l, h, ρ => by
  simp only [cvs] at h
  split at h
  ·cases h
  ·rename_i x hx
   split at h
   ·cases h
   ·rename_i m hm
    cases h
    rw [dvs, cv1_ok hx, cvs_ok hm]
theorem cv_ok {v : Value} {x : SV} (h : cv v = some x) (ρ : Rho) : dv ρ x = v := by
 unfold cv at h
 split at h
 ·split at h
  ·rename_i l hl
   cases h; rw [dv, cvs_ok hl]
  ·cases h
 ·split at h
  ·rename_i l hl
   cases h; rw [dv, cvs_ok hl]
  ·cases h
 ·cases h; rfl
 ·cases h; rfl
 ·exact cv1_ok h ρ
def gr1 (x : SV) : Option Value := match x with
 | .int k i => some (.int k i)
 | .bool b => some (.bool b)
 | .str l => some (.string (str (l.map UInt8.ofNat)))
 | .nilp => some (.pointer none)
 | .nils => some (.slice none 0 0)
 | .nilm => some (.map none)
 | .nilf => some .nilFunc
 | .nili => some .nilIface
 | _ => none
theorem gr1_ok {x : SV} {v : Value} (h : gr1 x = some v) (ρ : Rho) : dv ρ x = v := by
 unfold gr1 at h
 split at h <;> first | (cases h; rfl) | cases h
def grl : List SV → Option (List Value)
 | [] => some []
 | x :: r => match gr1 x with | none => none | some v => match grl r with | none => none | some l => some (v :: l)
theorem grl_ok : ∀ {l : List SV} {vs : List Value}, grl l = some vs → ∀ ρ, dvs ρ l = vs
 | [], vs, h, ρ => by simp only [grl, Option.some.injEq] at h; subst h; rfl
 | x :: r, vs, h, ρ => by
  simp only [grl] at h
  split at h
  ·cases h
  ·rename_i v hv
   split at h
   ·cases h
   ·rename_i l hl
    cases h
    rw [dvs, gr1_ok hv, grl_ok hl]
def gr (x : SV) : Option Value := match x with
 | .agg l => (match grl l with | some vs => some (.agg vs.toArray) | none => none)
 | x => gr1 x
theorem gr_ok {x : SV} {v : Value} (h : gr x = some v) (ρ : Rho) : dv ρ x = v := by
 unfold gr at h
 split at h
 ·split at h
  ·rename_i vs hvs
   cases h; rw [dv, grl_ok hvs]
  ·cases h
 ·exact gr1_ok h ρ
noncomputable def evG (M : TrB) (g : Nat) : Option SV := match M.get g with
 | some (.ro _) => some (.ptr g 0)
 | _ => none
noncomputable def evS (T : TrS) (M : TrB) (x : Operand) : Option SV := Operand.rec (motive := fun _ => Option SV) (tmp := fun t => T.get t) (const := fun v => cv v) (global := fun g => evG M g) (func := fun f => some (.fn f [] [])) x
theorem evS_eq (T : TrS) (M : TrB) (x : Operand) : evS T M x = match x with
 | .tmp t => T.get t
 | .const v => cv v
 | .func f => some (.fn f [] [])
 | .global g => evG M g := by cases x <;> rfl
structure MemG (σ : Asg) (M : TrB) : Prop where
 glo : ∀ s cs, M.get s = some (.ro cs) → ∃ p, σ s = some p ∧ p.b = some s
section
variable {P : Program} {w0 w : World} {O : List Nat} {N : Nat} {D : List SD} {σ : Asg} {T : TrS} {M : TrB} {a : Act} {ρ : Rho}
theorem evS_ok (hF : FrS N D σ T a) (hG : MemG σ M) (hE : Ext σ ρ) {x : Operand} {v : SV} (h : evS T M x = some v) : Eng.ev (full a) x = some (dv ρ v) := by
 rw [evS_eq] at h
 split at h
 ·exact lk_full (hF.get ρ hE _ _ h)
 ·show some _ = _
  rw [cv_ok h]
 ·cases h; rfl
 ·unfold evG at h
  split at h
  ·rename_i g _ cs hg
   cases h
   obtain ⟨p, h1, h2⟩ := hG.glo g cs hg
   have := hE g p h1
   show some (Value.pointer (some ⟨g, 0, none⟩)) = _
   rw [dv, bl, this, h2]; rfl
  ·cases h
theorem evS_eval (hF : FrS N D σ T a) (hG : MemG σ M) (hE : Ext σ ρ) {x : Operand} {v : SV} (h : evS T M x = some v) : a.eval x = dv ρ v := (Fr.full a).ev (evS_ok hF hG hE h)
def Sl (P : Program) (op : Op) (ty : TypeId) (a : Act) (w : World) (v : Value) : Prop := ∀ dst pos af g, (execOp a.eval ⟨dst, op, ty, pos, af, g⟩).run P w = .ok (.value v) w
theorem Sl.of {op : Op} {ty : TypeId} {v : Value} {F : World → Prop} (h : ∀ d pos af, Yl P a.tmps.size a.defers (full a) F ⟨some d, op, ty, pos, af, none⟩ v) (hF : F w) : Sl P op ty a w v :=
 fun dst pos af g => h 0 pos af a w (Fr.full a) hF
theorem Sl.one {op : Op} {ty : TypeId} {v u : Value} (h : Sl P op ty a w v) (h2 : Sl P op ty a w u) : v = u := by
 have := (h none "" #[] none).symm.trans (h2 none "" #[] none)
 injection this with e _
 injection e
end
end Go.X
namespace Go.X
open Go Go.Eng Go.RowKit Dg Go.Proofs.YtnldjikcnahioaaGreatDoor
noncomputable def nthS {α : Type} (l : List α) : Nat → Option α := List.rec (fun _ => none) (fun v _ ih i => Nat.rec (some v) (fun j _ => ih j) i) l
theorem nthS_eq {α : Type} : ∀ (l : List α) (i : Nat), nthS l i = l[i]?
 | [], i => by cases i <;> rfl
 | v :: l, 0 => rfl
 | v :: l, i + 1 => by
  rw [List.getElem?_cons_succ, ← nthS_eq l i]; rfl
section
variable {P : Program} {w0 w : World} {O : List Nat} {N : Nat} {D : List SD} {σ : Asg} {T : TrS} {M : TrB} {a : Act} {ρ : Rho} {ty : TypeId}
def blkCells (b : Blk) : Option (List SV) := match b with
 | .cells cs _ => some cs
 | .row xs _ _ _ => some xs
 | .ro cs => some cs
 | .rd cs => some cs
 | _ => none
theorem MemS.ok (h : MemS w0 O σ M w) (hE : Ext σ ρ) {s : Nat} {b : Blk} (hb : M.get s = some b) : (bch ρ s b).ok w := fam_get (h.st ρ hE) (by rw [hb]; rfl)
theorem row_len {s : Nat} {xs : List SV} {n : Nat} {e : TypeId} {sz : Nat} (h : (bch ρ s (.row xs n e sz)).ok w) : xs.length = n * sz := by
 have := (show w.ownsRow 0 e sz (.slice (ad ρ s) n (ρ s).c) n (dvs ρ xs) from h).1
 rwa [dvs_len] at this
theorem row_blk {s : Nat} {xs : List SV} {n : Nat} {e : TypeId} {sz : Nat} (h : (bch ρ s (.row xs n e sz)).ok w) (hn : 0 < n) : (ρ s).b = some (bl ρ s) ∧ n ≤ (ρ s).c := by
 obtain ⟨g, hg, _, hc⟩ := rowc_addr (show (rowc (.slice (ad ρ s) n (ρ s).c) n e sz (dvs ρ xs)).ok w from h) hn
 unfold ad at hg
 cases hb : (ρ s).b with
 | none => rw [hb] at hg; cases hg
 | some b => unfold bl; rw [hb]; exact ⟨rfl, hc⟩
theorem blk_cell {s : Nat} {b : Blk} {cs : List SV} (h : (bch ρ s b).ok w) (hc : blkCells b = some cs) {j : Nat} {x : SV} (hx : cs[j]? = some x) : w.cell? ⟨bl ρ s, j, none⟩ = some (dv ρ x) := by
 unfold blkCells at hc
 split at hc
 ·cases hc
  rename_i e
  have h' : w.heap[bl ρ s]? = some (.cells (dvs ρ cs).toArray e (0, 0)) := h
  have := dvs_get (ρ := ρ) hx
  simp [World.cell?, h', this]
 ·cases hc
  rename_i n e sz
  have hl := row_len h
  have hj := (List.getElem?_eq_some_iff.1 hx).1
  have hn : 0 < n := by
   rcases Nat.eq_zero_or_pos n with h0 | h0
   ·rw [h0, Nat.zero_mul] at hl; omega
   ·exact h0
  obtain ⟨hb, _⟩ := row_blk h hn
  have h2 : (rowc (.slice (some ⟨bl ρ s, 0, none⟩) n (ρ s).c) n e sz (dvs ρ cs)).ok w := by
   have h3 : (rowc (.slice (ad ρ s) n (ρ s).c) n e sz (dvs ρ cs)).ok w := h
   unfold ad at h3
   rw [hb] at h3
   exact h3
  exact rowc_cells h2 (dvs_get hx)
 ·cases hc
  exact h.2 j x hx
 ·cases hc
  exact h.2 j x hx
 ·cases hc
theorem hol_cell {s : Nat} {cs : List (Option SV)} {e : TypeId} (h : (bch ρ s (.hol cs e)).ok w) {j : Nat} {x : SV} (hx : cs[j]? = some (some x)) : w.cell? ⟨bl ρ s, j, none⟩ = some (dv ρ x) := by
 obtain ⟨vs, h1, h2, h3⟩ := h
 have := h3 j x hx
 simp [World.cell?, h1, this]
noncomputable def mapO {α β : Type} (f : α → Option β) (l : List α) : Option (List β) := List.rec (some []) (fun x _ ih => match f x with | none => none | some y => (match ih with | none => none | some m => some (y :: m))) l
theorem mapO_cons {α β : Type} (f : α → Option β) (x : α) (l : List α) : mapO f (x :: l) = match f x with | none => none | some y => (match mapO f l with | none => none | some m => some (y :: m)) := rfl
theorem mapO_at {α β : Type} {f : α → Option β} : ∀ {l : List α} {m : List β}, mapO f l = some m → ∀ {j : Nat} {y : β}, m[j]? = some y → ∃ x, l[j]? = some x ∧ f x = some y
 | [], m, h, j, y, hy => by
  have h' : some [] = some m := h
  cases h'
  simp at hy
 | z :: l, m, h, j, y, hy => by
  rw [mapO_cons] at h
  split at h
  ·cases h
  ·rename_i y1 h1
   split at h
   ·cases h
   ·rename_i m2 h2
    cases h
    cases j with
    | zero =>
     simp only [List.getElem?_cons_zero, Option.some.injEq] at hy
     subst hy
     exact ⟨z, by simp, h1⟩
    | succ j =>
     simp only [List.getElem?_cons_succ] at hy ⊢
     exact mapO_at h2 hy
theorem mapO_ok {α β : Type} {f : α → Option β} : ∀ {l : List α} {m : List β}, mapO f l = some m → ∀ x ∈ l, ∃ y ∈ m, f x = some y
 | [], m, h, x, hx => by cases hx
 | z :: l, m, h, x, hx => by
  rw [mapO_cons] at h
  split at h
  ·cases h
  ·rename_i y hy
   split at h
   ·cases h
   ·rename_i m2 hm
    cases h
    rcases List.mem_cons.1 hx with rfl | hx
    ·exact ⟨y, List.mem_cons_self .., hy⟩
    ·obtain ⟨y2, h1, h2⟩ := mapO_ok hm x hx
     exact ⟨y2, List.mem_cons_of_mem _ h1, h2⟩
def holGet (b : Blk) : Option (List (Option SV)) := match b with
 | .hol cs _ => some cs
 | _ => none
theorem holGet_ok {b : Blk} {cs : List (Option SV)} (h : holGet b = some cs) : ∃ e, b = .hol cs e := by
 cases b <;> first | (cases h; done) | skip
 cases h
 exact ⟨_, rfl⟩
def idO (x : Option SV) : Option SV := x
noncomputable def sLoad (P : Program) (M : TrB) (t : TypeId) (x : SV) : Option SV := match x with
 | .ptr s off => match M.get s with
  | some b => match blkCells b with
   | some cs => match aggB P t with
    | some true => match sizeB P t with
     | some n => let l := (cs.drop off).take n; bif Nat.beq l.length n then some (.agg l) else none
     | none => none
    | some false => match sizeB P t with
     | some 1 => nthS cs off
     | _ => none
    | none => none
   | none => match holGet b with
    | some cs => match aggB P t with
     | some true => match sizeB P t with
      | some n => (match mapO idO ((cs.drop off).take n) with | some l => bif Nat.beq l.length n then some (.agg l) else none | none => none)
      | none => none
     | some false => match sizeB P t with
      | some 1 => (match nthS cs off with | some (some x) => some x | _ => none)
      | _ => none
     | none => none
    | none => none
  | none => none
 | _ => none
theorem beq_true {a b : Nat} {α : Type} {x y : α} (h : (bif Nat.beq a b then some x else none) = some y) : a = b ∧ x = y := by
 cases hb : Nat.beq a b with
 | true => rw [hb] at h; cases h; exact ⟨Nat.eq_of_beq_eq_true hb, rfl⟩
 | false => rw [hb] at h; cases h
theorem sLoad_run (hM : MemS w0 O σ M w) (hE : Ext σ ρ) {t : TypeId} {x v : SV} (h : sLoad P M t x = some v) : (Instr.loadAt t (dv ρ x)).run P w = .ok (dv ρ v) w := by
 unfold sLoad at h
 split at h
 ·rename_i s off
  split at h
  ·rename_i b hb
   have hok := hM.ok hE hb
   split at h
   ·rename_i cs hc
    split at h
    ·rename_i hag
     split at h
     ·rename_i n hn
      obtain ⟨hl, rfl⟩ := beq_true h
      have e : dv ρ (.agg ((cs.drop off).take n)) = .agg (dvs ρ ((cs.drop off).take n)).toArray := by rw [dv]
      rw [e]
      refine run_loadN ⟨hag, hn⟩ (by rw [dvs_len]; exact hl) (fun j u hj => ?_)
      rw [add_blk]
      rw [dvs_map, List.getElem?_map] at hj
      cases hq : ((cs.drop off).take n)[j]? with
      | none => rw [hq] at hj; cases hj
      | some y =>
       rw [hq] at hj
       simp only [Option.map_some, Option.some.injEq] at hj
       rw [← hj]
       refine blk_cell hok hc ?_
       have h2 := hq
       rw [List.getElem?_take] at h2
       split at h2
       ·rwa [List.getElem?_drop] at h2
       ·cases h2
     ·cases h
    ·rename_i hag
     split at h
     ·rename_i hn
      rw [nthS_eq] at h
      exact run_load1 ⟨hag, hn⟩ (blk_cell hok hc h)
     ·cases h
    ·cases h
   ·split at h
    ·rename_i cs hc
     obtain ⟨e9, rfl⟩ := holGet_ok hc
     split at h
     ·rename_i hag
      split at h
      ·rename_i n hn
       split at h
       ·rename_i l hl0
        obtain ⟨hl, rfl⟩ := beq_true h
        have e : dv ρ (.agg l) = .agg (dvs ρ l).toArray := by rw [dv]
        rw [e]
        refine run_loadN ⟨hag, hn⟩ (by rw [dvs_len]; exact hl) (fun j u hj => ?_)
        rw [add_blk]
        rw [dvs_map, List.getElem?_map] at hj
        cases hq : l[j]? with
        | none => rw [hq] at hj; cases hj
        | some y =>
         rw [hq] at hj
         simp only [Option.map_some, Option.some.injEq] at hj
         rw [← hj]
         obtain ⟨z, h2, hz⟩ := mapO_at hl0 hq
         have hz : z = some y := hz
         subst hz
         refine hol_cell hok ?_
         rw [List.getElem?_take] at h2
         split at h2
         ·rwa [List.getElem?_drop] at h2
         ·cases h2
       ·cases h
      ·cases h
     ·rename_i hag
      split at h
      ·rename_i hn
       split at h
       ·rename_i x hx
        rw [nthS_eq] at hx
        cases h
        exact run_load1 ⟨hag, hn⟩ (hol_cell hok hx)
       ·cases h
      ·cases h
     ·cases h
    ·cases h
  ·cases h
 ·cases h
theorem Sl.load {t : TypeId} {x : Operand} {vx v : SV} (hM : MemS w0 O σ M w) (hE : Ext σ ρ) (hx : a.eval x = dv ρ vx) (h : sLoad P M t vx = some v) : Sl P (.load t x) ty a w (dv ρ v) := fun dst pos af g => by
 have := sLoad_run (P := P) hM hE h
 simp [execOp, hx, this]
end
end Go.X
