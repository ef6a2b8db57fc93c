/- Parts of the walk, put together by a program. By an AI agent. -/
import Derived.Test.YtkgllhkhdjodeaaGreatPaFormulaOf3
import Derived.RangeFuncOwn
import Derived.RangeFuncLeaves
import Derived.RangeFuncSeq
import Derived.OrdersIn
import Derived.TacticsIn
set_option linter.unusedSimpArgs false
set_option linter.unusedVariables false
namespace Go.Proofs.YtkgllhkhdjodeaaGreat
open Go Go.Eng Go.Proofs Dg
theorem keyPair : KeyT Tryz.prog 243 enc2 := KeyT.twoOf (by kernel_rfl)
theorem undMP : Tryz.prog.underlying 221 = some (.map 243 3) := by kernel_rfl
abbrev jnCs (bm bs : Nat) (l : List Dec) (f : Nat × Nat → Option Nat) (F1 : List Nat) : List Chunk := [mkr F1 bm l,mpg enc2 bs (fun q => (f q).map encI)]
def jns (F : List Nat) (bm bs : Nat) (l : List Dec) (f : Nat × Nat → Option Nat) : Chunk := bun F (jnCs bm bs l f) (fun _ => True)
theorem St.jnsClose {w0 w : World} {O : List Nat} {C : List Chunk} {F1 : List Nat} {bm bs : Nat} {l : List Dec} {f : Nat × Nat → Option Nat} (h : St w0 O (mkr F1 bm l :: mpg enc2 bs (fun q => (f q).map encI) :: C) w) : St w0 O (jns (F1 ++ ([bs] ++ [])) bm bs l f :: C) w :=
 St.bunClose' (Cs := jnCs bm bs l f) F1 trivial (.cons FpIs.bun (.cons FpIs.mpg .nil)) h
theorem pair_map {f : Nat × Nat → Option Nat} {k : Nat × Nat} {n : Nat} {z : Int} (hz : z = (n : Int)) : (fun q : Nat × Nat => if q = k then some (Value.int .i64 z) else (f q).map encI) = (fun y => (if y = k then some n else f y).map encI) := by
 funext q
 by_cases h : q = k
 ·rw [if_pos h,if_pos h,hz]; rfl
 rw [if_neg h,if_neg h]
theorem RdDecO.now {w0 w : World} {F : List Nat} {C : List Chunk} {l : List Dec} {a : Option Addr} (h : RdDecO w0 l a F) (hS : St w0 F C w) : RdDec w l a := fun j u hu => by
 obtain ⟨b,off,e1,e2,e3⟩ := h j u hu
 exact ⟨b,off,e1,hS.oldc e2 e3⟩
structure JEnv (w : World) (F : List Nat) (bp bm bs : Nat) (la lb : List Dec) (aa ab : Option Addr) (ca cb ra rb : Nat) : Prop where
 ce : ∀ j v,[pp bm,.slice aa la.length ca,.int .i64 (ra : Int),.slice ab lb.length cb,.int .i64 (rb : Int),.map (some bs)][j]? = some v → w.cell? ⟨bp,j,none⟩ = some v
 ce' : bp ∉ F
 rda : RdDecO w la aa F
 rdb : RdDecO w lb ab F
theorem JEnv.next {w0 w : World} {F F' : List Nat} {C1 : List Chunk} {bp bm bs ca cb ra rb : Nat} {la lb l : List Dec} {aa ab : Option Addr} {f : Nat × Nat → Option Nat} (h : JEnv w0 F bp bm bs la lb aa ab ca cb ra rb) (hS : St w0 F ([jns F' bm bs l f] ++ C1) w) : JEnv w F' bp bm bs la lb aa ab ca cb ra rb := by
 have hap := fun {z : Nat} (h1 : z < w0.heap.size) (h2 : z ∉ F) => hS.apart (F := F') bun_O2 h1 h2
 refine ⟨fun j v hv => hS.oldc (h.ce j v hv) h.ce',hap (World.block_lt_of_cell? w0 _ (h.ce 0 _ rfl)) h.ce',fun j u hu => ?_,fun j u hu => ?_⟩
 ·obtain ⟨b,off,e1,e2,e3⟩ := h.rda j u hu
  exact ⟨b,off,e1,hS.oldc e2 e3,hap (World.block_lt_of_cell? w0 _ e2) e3⟩
 obtain ⟨b,off,e1,e2,e3⟩ := h.rdb j u hu
 exact ⟨b,off,e1,hS.oldc e2 e3,hap (World.block_lt_of_cell? w0 _ e2) e3⟩
abbrev JT := List Nat × List Dec × (Nat × Nat → Option Nat) × Nat
structure JPost (bop : Bool → Bool → Bool) (la lb l : List Dec) (m x y : Nat) (z : JT) : Prop where
 ismk : Mk z.2.1
 pre : ∃ t,z.2.1 = l ++ t
 len : z.2.1.length + 1 ≤ l.length + 2 ^ (24 - m)
 jr : JR bop z.2.1 z.2.2.2 (trs la x) (trs lb y)
 seen : SeenOk bop la lb z.2.1 z.2.2.1
set_option maxRecDepth 100000 in
theorem join_c (g : Nat) (bop : Bool → Bool → Bool) (opf : Nat → Nat → Nat × Bool) (hop : OpOk g bop opf) (bp bm bs : Nat) (la lb : List Dec) (aa ab : Option Addr) (ca cb ra rb : Nat) (ha : Mk la) (hb : Mk lb) (hla : la.length ≤ 16777216) (hlb : lb.length ≤ 16777216) : ∀ (n m : Nat),m ≤ 24 → 24 - m < n →
  ∀ (Fp : List Nat) (l : List Dec) (f : Nat × Nat → Option Nat) (x y : Nat) (w : World),x < la.length + 2 → y < lb.length + 2 → (trs la x).ok m → (trs lb y).ok m → Mk l → SeenOk bop la lb l f → l.length + 2 ^ (24 - m) ≤ 16777216 → JEnv w Fp bp bm bs la lb aa ab ca cb ra rb → St w Fp [jns Fp bm bs l f] w →
  Calls Tryz.prog 163 [pp bp,.int .i64 (x : Int),.int .i64 (y : Int),Value.func (.func g) [].toArray [].toArray].toArray w fun e w' => ∃ z : { z : JT // JPost bop la lb l m x y z },e = .returned (.int .i64 (z.1.2.2.2 : Int)) ∧ St w Fp [jns z.1.1 bm bs z.1.2.1 z.1.2.2.1] w' := by
 intro n
 induction n with
 | zero => intro m; omega
 | succ n hrec =>
 intro m hm24 hmn Fp l f x y w hx hy hox hoy hm hsn hsz hE hS0
 have hpow : l.length + 1 ≤ l.length + 2 ^ (24 - m) := by have := Nat.one_le_two_pow (n := 24 - m); omega
 obtain ⟨F1,_,h1,h2,hS0⟩ := hS0.bunOpen
 simp only [jnCs,List.cons_append,List.nil_append] at hS0
 refine enter Tryz.func163 rfl Tryz.ntmps163 rfl (C := [mkr F1 bm l,mpg enc2 bs (fun q => (f q).map encI)]) hS0 ?_
 refine jN 16 ?_
 refine WL.callF0 (β := Unit) (res := fun _ => .returned (.tuple #[.int .i64 ((opf x y).1 : Int),.bool (opf x y).2])) (cs := fun _ => []) (ψ := fun _ => True) (us := []) (cap := []) hop.fn (fun d h => by cases h; rfl) rfl rfl (fun w hS => (hop.call x y w (by omega) (by omega)).mono (fun e w2 h => ⟨(),trivial,h.1,h.2⟩)) (fun _ _ => ?_)
 refine WL.step ?_
 refine WL.move rfl rfl ?_
 refine WL.step ?_
 refine WL.extract rfl rfl rfl ?_
 refine WL.step ?_
 refine WL.extract rfl rfl rfl ?_
 refine WL.step ?_
 refine WL.assign rfl rfl ?_
 refine WL.step ?_
 refine WL.assign rfl rfl ?_
 refine WL.nil ?_
 refine WQ.then_normal ?_
 refine WC.seq ?_
 refine WC.region ?_
 refine WL.step ?_
 refine WL.move rfl rfl ?_
 refine WL.nil ?_
 refine WQ.then_normal ?_
 refine WC.cond rfl (fun h28 => ?_) (fun h28 => ?_)
 ·refine jN 10 ?_
  refine WQ.ret (rs := [.tmp 8]) rfl (.tmp rfl .nil) (fun w hS => ⟨⟨(_,l,f,(opf x y).1),⟨hm,⟨[],by simp⟩,hpow,hop.spec.done h28,hsn⟩⟩,rfl,St.jnsClose hS⟩)
 refine jN 9 ?_
 refine WL.buildA F.arT243 rfl jB rfl ?_
 refine jN 1 ?_
 refine WL.alloc F.zero243 rfl (fun b11 => ?_)
 refine jN 6 ?_
 rcases Option.eq_none_or_eq_some (f (x,y)) with hf | ⟨r,hf⟩
 ·refine WC.drawsL (by kernel_rfl) (FactsOk.cons (ds := []) (LoadOk.by (Y := fun w => w.cell? ⟨bp,5,none⟩ = some (.map (some bs))) (fun w hS => hS.oldc (hE.ce 5 _ rfl) hE.ce')) (FactsOk.cons (ds := []) (LoadOk.whole (t := 11) rfl jM) (FactsOk.cons (ds := []) (LoadOk.by (Y := fun w => (mpg enc2 bs (fun q => (f q).map encI)).ok w) (fun w hS => hS.ok _ jM)) (FactsOk.nil)))) ?_
  refine jT 0 rfl (Yl.move rfl) ?_
  refine jT 1 rfl (Yl.nilCheck rfl) ?_
  refine jT 2 rfl (Yl.fieldAddr0 F.fld223_3 rfl) ?_
  refine jF 3 0 rfl rfl (Yl.load1 F.one221 rfl) ?_
  refine jF 4 1 rfl rfl (Yl.loadN F.agg243 rfl rfl) ?_
  refine jF 5 2 rfl rfl (Yl.lookupMiss (f := fun q => (f q).map encI) (x,y) undMP keyPair zeroInt rfl rfl rfl (by rw [hf]; rfl)) ?_
  refine jT 6 rfl (Yl.move rfl) ?_
  refine jT 7 rfl (Yl.extract rfl rfl) ?_
  refine jT 8 rfl (Yl.extract rfl rfl) ?_
  refine jT 9 rfl (Yl.assign rfl) ?_
  refine jT 10 rfl (Yl.assign rfl) ?_
  refine jD ?_
  refine jN 11 ?_
  refine WC.cutPE (α := Nat × Nat) (fun z => [(0,pp bp),(1,.int .i64 (x : Int)),(2,.int .i64 (y : Int)),(3,Value.func (.func g) [].toArray [].toArray),(11,pp b11),(14,pp z.1),(15,pp z.2)]) (fun z => [pt z.1 [Value.int .i64 ((atD la x).1 : Int),.int .i64 ((atD la x).2.1 : Int),.int .i64 ((atD la x).2.2 : Int)] 104,pt z.2 [Value.int .i64 ((atD lb y).1 : Int),.int .i64 ((atD lb y).2.1 : Int),.int .i64 ((atD lb y).2.2 : Int)] 104,pt b11 [Value.int .i64 (x : Int),.int .i64 (y : Int)] 243,mkr F1 bm l,mpg enc2 bs (fun q => (f q).map encI)]) (fun c a d v w h => by cases d <;> exact h) (fun Q' hP hQ => ?_) (fun xE => ?_)
  ·refine WC.drawsL (by kernel_rfl) (FactsOk.cons (ds := [5,11,14,15]) (LoadOk.by (Y := fun w => ∀ j v,[Value.slice aa la.length ca,.int .i64 (ra : Int)][j]? = some v → w.cell? ⟨bp,1 + j,none⟩ = some v) (fun w hS => fun j v hv => hS.oldc (hE.ce (1 + j) v (by rw [Nat.add_comm]; rcases j with _ | _ | j <;> first | exact hv | simp at hv)) hE.ce')) (FactsOk.cons (ds := [11,14,15]) (LoadOk.by (Y := fun w => ∀ j v,[Value.slice ab lb.length cb,.int .i64 (rb : Int)][j]? = some v → w.cell? ⟨bp,3 + j,none⟩ = some v) (fun w hS => fun j v hv => hS.oldc (hE.ce (3 + j) v (by rw [Nat.add_comm]; rcases j with _ | _ | j <;> first | exact hv | simp at hv)) hE.ce')) (FactsOk.nil))) ?_
   refine jT 0 rfl (Yl.move rfl) ?_
   refine jT 1 rfl (Yl.nilCheck rfl) ?_
   refine jT 2 rfl (Yl.fieldAddr0 F.fld223_1 rfl) ?_
   refine jF 3 0 rfl rfl (Yl.loadN F.agg35 rfl rfl) ?_
   refine jT 4 rfl (Yl.move rfl) ?_
   refine jT 6 rfl (Yl.move rfl) ?_
   refine jT 7 rfl (Yl.nilCheck rfl) ?_
   refine jT 8 rfl (Yl.fieldAddr0 F.fld223_2 rfl) ?_
   refine jF 9 1 rfl rfl (Yl.loadN F.agg35 rfl rfl) ?_
   refine jT 10 rfl (Yl.move rfl) ?_
   refine WD.three (i := 5) (j := 12) (l := 13) (by kernel_rfl) rfl rfl rfl ?_ ?_ ?_
   ·refine WL.callV F.fun176 rfl rfl (fun w hS => at_c la aa ca ra x w (by omega) hx (hE.rda.now hS)) ?_
    refine WD.on (closed_of (by kernel_rfl)) (fun w hS => Sx.gone rfl (Sx.keep (fun j v hv => hS.oldc (hE.ce (3 + j) v (by rw [Nat.add_comm]; rcases j with _ | _ | j <;> first | exact hv | simp at hv)) hE.ce') (Sx.none))) ?_
    refine WD.three (i := 11) (j := 12) (l := 13) (by kernel_rfl) rfl rfl rfl ?_ ?_ ?_
    refine WL.callV F.fun176 rfl rfl (fun w hS => at_c lb ab cb rb y w (by omega) hy (hE.rdb.now hS)) ?_
    refine jG ?_
    refine WD.two (i := 12) (j := 13) (by kernel_rfl) rfl rfl ?_ ?_
    refine WL.alloc F.zero104 rfl (fun b14 => ?_)
    refine jG ?_
    refine jA 13 rfl ?_
    refine WL.alloc F.zero104 rfl (fun b15 => ?_)
    rotate_left
    refine WL.alloc F.zero104 rfl (fun b15 => ?_)
    refine jG ?_
    refine jA 12 rfl ?_
    refine WL.alloc F.zero104 rfl (fun b14 => ?_)
    rotate_left
    refine WL.alloc F.zero104 rfl (fun b14 => ?_)
    refine WD.on (closed_of (by kernel_rfl)) (fun w hS => Sx.gone rfl (Sx.keep (fun j v hv => hS.oldc (hE.ce (3 + j) v (by rw [Nat.add_comm]; rcases j with _ | _ | j <;> first | exact hv | simp at hv)) hE.ce') (Sx.none))) ?_
    refine WD.two (i := 11) (j := 13) (by kernel_rfl) rfl rfl ?_ ?_
    refine WL.callV F.fun176 rfl rfl (fun w hS => at_c lb ab cb rb y w (by omega) hy (hE.rdb.now hS)) ?_
    refine jG ?_
    refine jA 13 rfl ?_
    refine WL.alloc F.zero104 rfl (fun b15 => ?_)
    rotate_left
    refine WL.alloc F.zero104 rfl (fun b15 => ?_)
    refine WD.on (closed_of (by kernel_rfl)) (fun w hS => Sx.gone rfl (Sx.keep (fun j v hv => hS.oldc (hE.ce (3 + j) v (by rw [Nat.add_comm]; rcases j with _ | _ | j <;> first | exact hv | simp at hv)) hE.ce') (Sx.none))) ?_
    refine jA 11 rfl ?_
    refine WL.callV F.fun176 rfl rfl (fun w hS => at_c lb ab cb rb y w (by omega) hy (hE.rdb.now hS)) ?_
    rotate_left
    refine WL.alloc F.zero104 rfl (fun b15 => ?_)
    refine WD.on (closed_of (by kernel_rfl)) (fun w hS => Sx.gone rfl (Sx.keep (fun j v hv => hS.oldc (hE.ce (3 + j) v (by rw [Nat.add_comm]; rcases j with _ | _ | j <;> first | exact hv | simp at hv)) hE.ce') (Sx.none))) ?_
    refine WD.two (i := 11) (j := 12) (by kernel_rfl) rfl rfl ?_ ?_
    refine WL.callV F.fun176 rfl rfl (fun w hS => at_c lb ab cb rb y w (by omega) hy (hE.rdb.now hS)) ?_
    refine jG ?_
    refine jA 12 rfl ?_
    refine WL.alloc F.zero104 rfl (fun b14 => ?_)
    rotate_left
    refine WL.alloc F.zero104 rfl (fun b14 => ?_)
    refine WD.on (closed_of (by kernel_rfl)) (fun w hS => Sx.gone rfl (Sx.keep (fun j v hv => hS.oldc (hE.ce (3 + j) v (by rw [Nat.add_comm]; rcases j with _ | _ | j <;> first | exact hv | simp at hv)) hE.ce') (Sx.none))) ?_
    refine jA 11 rfl ?_
    refine WL.callV F.fun176 rfl rfl (fun w hS => at_c lb ab cb rb y w (by omega) hy (hE.rdb.now hS)) ?_
    rotate_left
    all_goals
     rotate_left
     all_goals
      refine jG ?_
      refine jA 14 rfl ?_
      refine WL.storeN F.agg104 rfl rfl rfl jO jU jS ?_
      refine jG ?_
      refine jA 15 rfl ?_
      refine WL.storeN F.agg104 rfl rfl rfl jO jU jS ?_
      refine jG ?_
      refine jD ?_
      refine WQ.chunks (C' := [pt (b14,b15).1 [Value.int .i64 ((atD la x).1 : Int),.int .i64 ((atD la x).2.1 : Int),.int .i64 ((atD la x).2.2 : Int)] 104,pt (b14,b15).2 [Value.int .i64 ((atD lb y).1 : Int),.int .i64 ((atD lb y).2.1 : Int),.int .i64 ((atD lb y).2.2 : Int)] 104,pt b11 [Value.int .i64 (x : Int),.int .i64 (y : Int)] 243,mkr F1 bm l,mpg enc2 bs (fun q => (f q).map encI)]) (fun w hS => (jK hS)) ?_
      exact WQ.byCut (hQ (b14,b15)) ⟨rfl,rfl,rfl,rfl,rfl,rfl,rfl,trivial⟩
   ·refine WL.alloc F.zero104 rfl (fun b14 => ?_)
    refine WD.on (closed_of (by kernel_rfl)) (fun w hS => Sx.keep (fun j v hv => hS.oldc (hE.ce (1 + j) v (by rw [Nat.add_comm]; rcases j with _ | _ | j <;> first | exact hv | simp at hv)) hE.ce') (Sx.keep (fun j v hv => hS.oldc (hE.ce (3 + j) v (by rw [Nat.add_comm]; rcases j with _ | _ | j <;> first | exact hv | simp at hv)) hE.ce') (Sx.none))) ?_
    refine WD.two (i := 5) (j := 13) (by kernel_rfl) rfl rfl ?_ ?_
    ·refine WL.callV F.fun176 rfl rfl (fun w hS => at_c la aa ca ra x w (by omega) hx (hE.rda.now hS)) ?_
     refine WD.on (closed_of (by kernel_rfl)) (fun w hS => Sx.gone rfl (Sx.keep (fun j v hv => hS.oldc (hE.ce (3 + j) v (by rw [Nat.add_comm]; rcases j with _ | _ | j <;> first | exact hv | simp at hv)) hE.ce') (Sx.none))) ?_
     refine WD.two (i := 11) (j := 13) (by kernel_rfl) rfl rfl ?_ ?_
     refine WL.callV F.fun176 rfl rfl (fun w hS => at_c lb ab cb rb y w (by omega) hy (hE.rdb.now hS)) ?_
     refine jG ?_
     refine jA 13 rfl ?_
     refine WL.alloc F.zero104 rfl (fun b15 => ?_)
     rotate_left
     refine WL.alloc F.zero104 rfl (fun b15 => ?_)
     refine WD.on (closed_of (by kernel_rfl)) (fun w hS => Sx.gone rfl (Sx.keep (fun j v hv => hS.oldc (hE.ce (3 + j) v (by rw [Nat.add_comm]; rcases j with _ | _ | j <;> first | exact hv | simp at hv)) hE.ce') (Sx.none))) ?_
     refine jA 11 rfl ?_
     refine WL.callV F.fun176 rfl rfl (fun w hS => at_c lb ab cb rb y w (by omega) hy (hE.rdb.now hS)) ?_
     rotate_left
     all_goals
      refine jG ?_
      refine jA 14 rfl ?_
      refine WL.storeN F.agg104 rfl rfl rfl jO jU jS ?_
      refine jG ?_
      refine jA 15 rfl ?_
      refine WL.storeN F.agg104 rfl rfl rfl jO jU jS ?_
      refine jG ?_
      refine jD ?_
      refine WQ.chunks (C' := [pt (b14,b15).1 [Value.int .i64 ((atD la x).1 : Int),.int .i64 ((atD la x).2.1 : Int),.int .i64 ((atD la x).2.2 : Int)] 104,pt (b14,b15).2 [Value.int .i64 ((atD lb y).1 : Int),.int .i64 ((atD lb y).2.1 : Int),.int .i64 ((atD lb y).2.2 : Int)] 104,pt b11 [Value.int .i64 (x : Int),.int .i64 (y : Int)] 243,mkr F1 bm l,mpg enc2 bs (fun q => (f q).map encI)]) (fun w hS => (jK hS)) ?_
      exact WQ.byCut (hQ (b14,b15)) ⟨rfl,rfl,rfl,rfl,rfl,rfl,rfl,trivial⟩
    refine WL.alloc F.zero104 rfl (fun b15 => ?_)
    refine WD.on (closed_of (by kernel_rfl)) (fun w hS => Sx.keep (fun j v hv => hS.oldc (hE.ce (1 + j) v (by rw [Nat.add_comm]; rcases j with _ | _ | j <;> first | exact hv | simp at hv)) hE.ce') (Sx.keep (fun j v hv => hS.oldc (hE.ce (3 + j) v (by rw [Nat.add_comm]; rcases j with _ | _ | j <;> first | exact hv | simp at hv)) hE.ce') (Sx.none))) ?_
    refine jA 5 rfl ?_
    refine WL.callV F.fun176 rfl rfl (fun w hS => at_c la aa ca ra x w (by omega) hx (hE.rda.now hS)) ?_
    refine WD.on (closed_of (by kernel_rfl)) (fun w hS => Sx.gone rfl (Sx.keep (fun j v hv => hS.oldc (hE.ce (3 + j) v (by rw [Nat.add_comm]; rcases j with _ | _ | j <;> first | exact hv | simp at hv)) hE.ce') (Sx.none))) ?_
    refine jA 11 rfl ?_
    refine WL.callV F.fun176 rfl rfl (fun w hS => at_c lb ab cb rb y w (by omega) hy (hE.rdb.now hS)) ?_
    refine jG ?_
    refine jA 14 rfl ?_
    refine WL.storeN F.agg104 rfl rfl rfl jO jU jS ?_
    refine jG ?_
    refine jA 15 rfl ?_
    refine WL.storeN F.agg104 rfl rfl rfl jO jU jS ?_
    refine jG ?_
    refine jD ?_
    refine WQ.chunks (C' := [pt (b14,b15).1 [Value.int .i64 ((atD la x).1 : Int),.int .i64 ((atD la x).2.1 : Int),.int .i64 ((atD la x).2.2 : Int)] 104,pt (b14,b15).2 [Value.int .i64 ((atD lb y).1 : Int),.int .i64 ((atD lb y).2.1 : Int),.int .i64 ((atD lb y).2.2 : Int)] 104,pt b11 [Value.int .i64 (x : Int),.int .i64 (y : Int)] 243,mkr F1 bm l,mpg enc2 bs (fun q => (f q).map encI)]) (fun w hS => (jK hS)) ?_
    exact WQ.byCut (hQ (b14,b15)) ⟨rfl,rfl,rfl,rfl,rfl,rfl,rfl,trivial⟩
   refine WL.alloc F.zero104 rfl (fun b15 => ?_)
   refine WD.on (closed_of (by kernel_rfl)) (fun w hS => Sx.keep (fun j v hv => hS.oldc (hE.ce (1 + j) v (by rw [Nat.add_comm]; rcases j with _ | _ | j <;> first | exact hv | simp at hv)) hE.ce') (Sx.keep (fun j v hv => hS.oldc (hE.ce (3 + j) v (by rw [Nat.add_comm]; rcases j with _ | _ | j <;> first | exact hv | simp at hv)) hE.ce') (Sx.none))) ?_
   refine WD.two (i := 5) (j := 12) (by kernel_rfl) rfl rfl ?_ ?_
   ·refine WL.callV F.fun176 rfl rfl (fun w hS => at_c la aa ca ra x w (by omega) hx (hE.rda.now hS)) ?_
    refine WD.on (closed_of (by kernel_rfl)) (fun w hS => Sx.gone rfl (Sx.keep (fun j v hv => hS.oldc (hE.ce (3 + j) v (by rw [Nat.add_comm]; rcases j with _ | _ | j <;> first | exact hv | simp at hv)) hE.ce') (Sx.none))) ?_
    refine WD.two (i := 11) (j := 12) (by kernel_rfl) rfl rfl ?_ ?_
    refine WL.callV F.fun176 rfl rfl (fun w hS => at_c lb ab cb rb y w (by omega) hy (hE.rdb.now hS)) ?_
    refine jG ?_
    refine jA 12 rfl ?_
    refine WL.alloc F.zero104 rfl (fun b14 => ?_)
    rotate_left
    refine WL.alloc F.zero104 rfl (fun b14 => ?_)
    refine WD.on (closed_of (by kernel_rfl)) (fun w hS => Sx.gone rfl (Sx.keep (fun j v hv => hS.oldc (hE.ce (3 + j) v (by rw [Nat.add_comm]; rcases j with _ | _ | j <;> first | exact hv | simp at hv)) hE.ce') (Sx.none))) ?_
    refine jA 11 rfl ?_
    refine WL.callV F.fun176 rfl rfl (fun w hS => at_c lb ab cb rb y w (by omega) hy (hE.rdb.now hS)) ?_
    rotate_left
    all_goals
     refine jG ?_
     refine jA 14 rfl ?_
     refine WL.storeN F.agg104 rfl rfl rfl jO jU jS ?_
     refine jG ?_
     refine jA 15 rfl ?_
     refine WL.storeN F.agg104 rfl rfl rfl jO jU jS ?_
     refine jG ?_
     refine jD ?_
     refine WQ.chunks (C' := [pt (b14,b15).1 [Value.int .i64 ((atD la x).1 : Int),.int .i64 ((atD la x).2.1 : Int),.int .i64 ((atD la x).2.2 : Int)] 104,pt (b14,b15).2 [Value.int .i64 ((atD lb y).1 : Int),.int .i64 ((atD lb y).2.1 : Int),.int .i64 ((atD lb y).2.2 : Int)] 104,pt b11 [Value.int .i64 (x : Int),.int .i64 (y : Int)] 243,mkr F1 bm l,mpg enc2 bs (fun q => (f q).map encI)]) (fun w hS => (jK hS)) ?_
     exact WQ.byCut (hQ (b14,b15)) ⟨rfl,rfl,rfl,rfl,rfl,rfl,rfl,trivial⟩
   refine WL.alloc F.zero104 rfl (fun b14 => ?_)
   refine WD.on (closed_of (by kernel_rfl)) (fun w hS => Sx.keep (fun j v hv => hS.oldc (hE.ce (1 + j) v (by rw [Nat.add_comm]; rcases j with _ | _ | j <;> first | exact hv | simp at hv)) hE.ce') (Sx.keep (fun j v hv => hS.oldc (hE.ce (3 + j) v (by rw [Nat.add_comm]; rcases j with _ | _ | j <;> first | exact hv | simp at hv)) hE.ce') (Sx.none))) ?_
   refine jA 5 rfl ?_
   refine WL.callV F.fun176 rfl rfl (fun w hS => at_c la aa ca ra x w (by omega) hx (hE.rda.now hS)) ?_
   refine WD.on (closed_of (by kernel_rfl)) (fun w hS => Sx.gone rfl (Sx.keep (fun j v hv => hS.oldc (hE.ce (3 + j) v (by rw [Nat.add_comm]; rcases j with _ | _ | j <;> first | exact hv | simp at hv)) hE.ce') (Sx.none))) ?_
   refine jA 11 rfl ?_
   refine WL.callV F.fun176 rfl rfl (fun w hS => at_c lb ab cb rb y w (by omega) hy (hE.rdb.now hS)) ?_
   refine jG ?_
   refine jA 14 rfl ?_
   refine WL.storeN F.agg104 rfl rfl rfl jO jU jS ?_
   refine jG ?_
   refine jA 15 rfl ?_
   refine WL.storeN F.agg104 rfl rfl rfl jO jU jS ?_
   refine jG ?_
   refine jD ?_
   refine WQ.chunks (C' := [pt (b14,b15).1 [Value.int .i64 ((atD la x).1 : Int),.int .i64 ((atD la x).2.1 : Int),.int .i64 ((atD la x).2.2 : Int)] 104,pt (b14,b15).2 [Value.int .i64 ((atD lb y).1 : Int),.int .i64 ((atD lb y).2.1 : Int),.int .i64 ((atD lb y).2.2 : Int)] 104,pt b11 [Value.int .i64 (x : Int),.int .i64 (y : Int)] 243,mkr F1 bm l,mpg enc2 bs (fun q => (f q).map encI)]) (fun w hS => (jK hS)) ?_
   exact WQ.byCut (hQ (b14,b15)) ⟨rfl,rfl,rfl,rfl,rfl,rfl,rfl,trivial⟩
  obtain ⟨b14,b15⟩ := xE
  show WQ _ _ _ _ _ _ [(0,pp bp),(1,.int .i64 (x : Int)),(2,.int .i64 (y : Int)),(3,Value.func (.func g) [].toArray [].toArray),(11,pp b11),(14,pp b14),(15,pp b15)] [pt b14 [Value.int .i64 ((atD la x).1 : Int),.int .i64 ((atD la x).2.1 : Int),.int .i64 ((atD la x).2.2 : Int)] 104,pt b15 [Value.int .i64 ((atD lb y).1 : Int),.int .i64 ((atD lb y).2.1 : Int),.int .i64 ((atD lb y).2.2 : Int)] 104,pt b11 [Value.int .i64 (x : Int),.int .i64 (y : Int)] 243,mkr F1 bm l,mpg enc2 bs (fun q => (f q).map encI)]
  obtain ⟨i,hi⟩ : ∃ i,i = min (atD la x).1 (atD lb y).1 := ⟨_,rfl⟩
  have hgo := hop.spec.go x y h28
  have hi24 : i < 24 := by
   rcases hgo with h | h
   ·have := atD_lt ha hx h; omega
   ·have := atD_lt hb hy h; omega
  have hmi : m ≤ i := by have e1 := atD_ok ha hx hox hm24; have e2 := atD_ok hb hy hoy hm24; omega
  obtain ⟨a1,a2,a3,a4,_,_,a7⟩ := half_at ha hx hox (i := i) (by omega) hi24
  obtain ⟨c1,c2,c3,c4,_,_,c7⟩ := half_at hb hy hoy (i := i) (by omega) hi24
  have hp2 : 2 ^ (24 - (i + 1)) + 2 ^ (24 - (i + 1)) ≤ 2 ^ (24 - m) := by (have e1 : 2 ^ (24 - i) = 2 ^ (24 - (i + 1)) * 2 := by (rw [← Nat.pow_succ]; congr 1; omega)); (have e2 : 2 ^ (24 - i) ≤ 2 ^ (24 - m) := Nat.pow_le_pow_right (by decide) (by omega)); omega
  refine jN 12 ?_
  refine WL.minI (r := (i : Int)) rfl rfl rfl (by (split) <;> omega) ?_
  refine jN 11 ?_
  refine WL.buildA F.arT243 rfl jB rfl ?_
  refine jN 5 ?_
  refine WL.buildA F.arT243 rfl jB rfl ?_
  refine jN 1 ?_
  refine WL.alloc F.zero243 rfl (fun b17 => ?_)
  refine jN 1 ?_
  refine WL.alloc F.zero243 rfl (fun b18 => ?_)
  refine jN 19 ?_
  refine WC.cutQ ([(0,pp bp),(1,.int .i64 (x : Int)),(2,.int .i64 (y : Int)),(3,Value.func (.func g) [].toArray [].toArray),(11,pp b11),(14,pp b14),(15,pp b15),(16,.int .i64 (i : Int)),(17,pp b17),(18,pp b18)]) ([pt b17 [.int .i64 (loP la x i : Int),.int .i64 (y : Int)] 243,pt b18 [.int .i64 (hiP la x i : Int),.int .i64 (y : Int)] 243,pt b15 [Value.int .i64 ((atD lb y).1 : Int),.int .i64 ((atD lb y).2.1 : Int),.int .i64 ((atD lb y).2.2 : Int)] 104,pt b11 [Value.int .i64 (x : Int),.int .i64 (y : Int)] 243,mkr F1 bm l,mpg enc2 bs (fun q => (f q).map encI)]) (fun c a d v w h => by cases d <;> exact h) (fun Q' hP hQ => ?_) ?_
  ·refine WC.cond rfl (fun h70 => ?_) (fun h70 => ?_)
   have h70n : (atD la x).1 = i := by simp at h70; omega
   have e70 : loP la x i = (atD la x).2.1 ∧ hiP la x i = (atD la x).2.2 := by unfold loP hiP; rw [if_pos h70n,if_pos h70n]; exact ⟨rfl,rfl⟩
   refine WC.drawsL (by kernel_rfl) (FactsOk.cons (ds := [5,7]) (LoadOk.one (t := 14) (off := 1) rfl jM rfl) (FactsOk.cons (ds := [7]) (LoadOk.one (t := 14) (off := 2) rfl jM rfl) (FactsOk.nil))) ?_
   refine jT 0 rfl (Yl.fieldAddr0 F.fld104_1 rfl) ?_
   refine jF 1 0 rfl rfl (Yl.load1 F.one3 rfl) ?_
   refine jT 2 rfl (Yl.fieldAddr0 F.fld104_2 rfl) ?_
   refine jF 3 1 rfl rfl (Yl.load1 F.one3 rfl) ?_
   refine jT 4 rfl (Yl.indexAddrA (i := 0) F.arT243 rfl rfl (by decide)) ?_
   refine jA 5 rfl ?_
   refine WL.store1 F.one3 rfl rfl rfl jU jS ?_
   refine WD.on (closed_of (by kernel_rfl)) (fun w hS => Sx.gone rfl (Sx.keep (hS.cell jM rfl) (Sx.none))) ?_
   refine jT 6 rfl (Yl.indexAddrA (i := 0) F.arT243 rfl rfl (by decide)) ?_
   refine jA 7 rfl ?_
   refine WL.store1 F.one3 rfl rfl rfl jU jS ?_
   refine jG ?_
   refine jD ?_
   rotate_left
   have h70n : ¬ (atD la x).1 = i := by simp at h70; omega
   have e70 : loP la x i = x ∧ hiP la x i = x := by unfold loP hiP; rw [if_neg h70n,if_neg h70n]; exact ⟨rfl,rfl⟩
   refine jN 1 ?_
   rotate_left
   all_goals
    refine WQ.chunks (C' := [pt b17 [.int .i64 (loP la x i : Int),.int .i64 (y : Int)] 243,pt b18 [.int .i64 (hiP la x i : Int),.int .i64 (y : Int)] 243,pt b15 [Value.int .i64 ((atD lb y).1 : Int),.int .i64 ((atD lb y).2.1 : Int),.int .i64 ((atD lb y).2.2 : Int)] 104,pt b11 [Value.int .i64 (x : Int),.int .i64 (y : Int)] 243,mkr F1 bm l,mpg enc2 bs (fun q => (f q).map encI)]) (fun w hS => ?_) (WQ.byCut hQ ⟨rfl,rfl,rfl,rfl,rfl,rfl,rfl,rfl,rfl,rfl,trivial⟩)
    rw [e70.1,e70.2]
    first | exact (jK hS) | exact (jK hS)
  refine jN 14 ?_
  refine WC.cutQ ([(0,pp bp),(3,Value.func (.func g) [].toArray [].toArray),(11,pp b11),(14,pp b14),(15,pp b15),(16,.int .i64 (i : Int)),(17,pp b17),(18,pp b18)]) ([pt b17 [.int .i64 (loP la x i : Int),.int .i64 (loP lb y i : Int)] 243,pt b18 [.int .i64 (hiP la x i : Int),.int .i64 (hiP lb y i : Int)] 243,pt b11 [Value.int .i64 (x : Int),.int .i64 (y : Int)] 243,mkr F1 bm l,mpg enc2 bs (fun q => (f q).map encI)]) (fun c a d v w h => by cases d <;> exact h) (fun Q' hP hQ => ?_) ?_
  ·refine WC.cond rfl (fun h80 => ?_) (fun h80 => ?_)
   have h80n : (atD lb y).1 = i := by simp at h80; omega
   have e80 : loP lb y i = (atD lb y).2.1 ∧ hiP lb y i = (atD lb y).2.2 := by unfold loP hiP; rw [if_pos h80n,if_pos h80n]; exact ⟨rfl,rfl⟩
   refine WC.drawsL (by kernel_rfl) (FactsOk.cons (ds := [5,7]) (LoadOk.one (t := 15) (off := 1) rfl jM rfl) (FactsOk.cons (ds := [7]) (LoadOk.one (t := 15) (off := 2) rfl jM rfl) (FactsOk.nil))) ?_
   refine jT 0 rfl (Yl.fieldAddr0 F.fld104_1 rfl) ?_
   refine jF 1 0 rfl rfl (Yl.load1 F.one3 rfl) ?_
   refine jT 2 rfl (Yl.fieldAddr0 F.fld104_2 rfl) ?_
   refine jF 3 1 rfl rfl (Yl.load1 F.one3 rfl) ?_
   refine jT 4 rfl (Yl.indexAddrA (i := 1) F.arT243 rfl rfl (by decide)) ?_
   refine jA 5 rfl ?_
   refine WL.store1 F.one3 rfl rfl rfl jU jS ?_
   refine WD.on (closed_of (by kernel_rfl)) (fun w hS => Sx.gone rfl (Sx.keep (hS.cell jM rfl) (Sx.none))) ?_
   refine jT 6 rfl (Yl.indexAddrA (i := 1) F.arT243 rfl rfl (by decide)) ?_
   refine jA 7 rfl ?_
   refine WL.store1 F.one3 rfl rfl rfl jU jS ?_
   refine jG ?_
   refine jD ?_
   rotate_left
   have h80n : ¬ (atD lb y).1 = i := by simp at h80; omega
   have e80 : loP lb y i = y ∧ hiP lb y i = y := by unfold loP hiP; rw [if_neg h80n,if_neg h80n]; exact ⟨rfl,rfl⟩
   refine jN 1 ?_
   rotate_left
   all_goals
    refine WQ.chunks (C' := [pt b17 [.int .i64 (loP la x i : Int),.int .i64 (loP lb y i : Int)] 243,pt b18 [.int .i64 (hiP la x i : Int),.int .i64 (hiP lb y i : Int)] 243,pt b11 [Value.int .i64 (x : Int),.int .i64 (y : Int)] 243,mkr F1 bm l,mpg enc2 bs (fun q => (f q).map encI)]) (fun w hS => ?_) (WQ.byCut hQ ⟨rfl,rfl,rfl,rfl,rfl,rfl,rfl,rfl,trivial⟩)
    rw [e80.1,e80.2]
    first | exact (jK hS) | exact (jK hS)
  refine jN 6 ?_
  refine WL.indexAddrA (i := 0) F.arT243 rfl rfl rfl (by decide) ?_
  refine jN 3 ?_
  refine WL.indexAddrA (i := 1) F.arT243 rfl rfl rfl (by decide) ?_
  refine jN 4 ?_
  refine WA.chunks (C' := [jns (F1 ++ ([bs] ++ [])) bm bs l f,pt b17 [.int .i64 (loP la x i : Int),.int .i64 (loP lb y i : Int)] 243,pt b18 [.int .i64 (hiP la x i : Int),.int .i64 (hiP lb y i : Int)] 243,pt b11 [Value.int .i64 (x : Int),.int .i64 (y : Int)] 243]) (fun w hS => St.jnsClose (jK hS)) ?_
  refine jN 1 ?_
  refine WL.callC (β := { z : JT // JPost bop la lb l (i + 1) (loP la x i) (loP lb y i) z }) (res := fun z => .int .i64 (z.1.2.2.2 : Int)) (cs := fun z => [jns z.1.1 bm bs z.1.2.1 z.1.2.2.1]) (Cs := [jns (F1 ++ ([bs] ++ [])) bm bs l f]) (C1 := [pt b17 [.int .i64 (loP la x i : Int),.int .i64 (loP lb y i : Int)] 243,pt b18 [.int .i64 (hiP la x i : Int),.int .i64 (hiP lb y i : Int)] 243,pt b11 [Value.int .i64 (x : Int),.int .i64 (y : Int)] 243]) (O' := (F1 ++ ([bs] ++ []))) F.fun163 (fun d h => by cases h; rfl) rfl (List.Perm.refl _) bun_O1 bun_O2 (fun w hS hS2 => hrec (i + 1) (by omega) (by omega) (F1 ++ ([bs] ++ [])) l f (loP la x i) (loP lb y i) w a1 c1 a3 c3 hm hsn (by omega) (hE.next hS) hS2) (fun ⟨z1,hz1⟩ => ?_)
  obtain ⟨G1,l1,f1,p1⟩ := z1
  obtain ⟨j1,j2,j3,j4,j5⟩ := hz1
  dsimp only at j1 j2 j3 j4 j5 ⊢
  refine jN 5 ?_
  refine WC.drawsL (by kernel_rfl) (FactsOk.cons (ds := [13]) (LoadOk.by (Y := fun w => w.cell? ⟨bp,0,none⟩ = some (pp bm)) (fun w hS => hS.oldc (hE.ce 0 _ rfl) hE.ce')) (FactsOk.cons (ds := [12,13]) (LoadOk.by (Y := fun w => w.cell? ⟨b18,0 + 0 * 1,none⟩ = some (.int .i64 (hiP la x i : Int))) (fun w hS => hS.cell (cs := [.int .i64 (hiP la x i : Int),.int .i64 (hiP lb y i : Int)]) jM rfl)) (FactsOk.cons (ds := [12,13]) (LoadOk.by (Y := fun w => w.cell? ⟨b18,0 + 1 * 1,none⟩ = some (.int .i64 (hiP lb y i : Int))) (fun w hS => hS.cell (cs := [.int .i64 (hiP la x i : Int),.int .i64 (hiP lb y i : Int)]) jM rfl)) (FactsOk.nil)))) ?_
  refine jT 0 rfl (Yl.move rfl) ?_
  refine jT 1 rfl (Yl.nilCheck rfl) ?_
  refine jT 2 rfl (Yl.fieldAddr0 F.fld223_0 rfl) ?_
  refine jF 3 0 rfl rfl (Yl.load1 F.one200 rfl) ?_
  refine jT 4 rfl (Yl.move rfl) ?_
  refine jT 5 rfl (Yl.move rfl) ?_
  refine jT 6 rfl (Yl.move rfl) ?_
  refine jT 7 rfl (Yl.indexAddrA (i := 0) F.arT243 rfl rfl (by decide)) ?_
  refine jF 8 1 rfl rfl (Yl.load1 F.one3 rfl) ?_
  refine jT 9 rfl (Yl.indexAddrA (i := 1) F.arT243 rfl rfl (by decide)) ?_
  refine jF 10 2 rfl rfl (Yl.load1 F.one3 rfl) ?_
  refine jT 11 rfl (Yl.move rfl) ?_
  refine jA 12 rfl ?_
  refine WL.callC (β := { z : JT // JPost bop la lb l1 (i + 1) (hiP la x i) (hiP lb y i) z }) (res := fun z => .int .i64 (z.1.2.2.2 : Int)) (cs := fun z => [jns z.1.1 bm bs z.1.2.1 z.1.2.2.1]) (Cs := [jns G1 bm bs l1 f1]) (C1 := [pt b17 [.int .i64 (loP la x i : Int),.int .i64 (loP lb y i : Int)] 243,pt b18 [.int .i64 (hiP la x i : Int),.int .i64 (hiP lb y i : Int)] 243,pt b11 [Value.int .i64 (x : Int),.int .i64 (y : Int)] 243]) (O' := G1) F.fun163 (fun d h => by cases h; rfl) rfl (List.Perm.refl _) bun_O1 bun_O2 (fun w hS hS2 => hrec (i + 1) (by omega) (by omega) G1 l1 f1 (hiP la x i) (hiP lb y i) w a2 c2 a4 c4 j1 j5 (by omega) (hE.next hS) hS2) (fun ⟨z2,hz2⟩ => ?_)
  refine WD.on (closed_of (by kernel_rfl)) (fun w hS => Sx.keep (hS.oldc (hE.ce 0 _ rfl) hE.ce') (Sx.gone rfl (Sx.gone rfl (Sx.none)))) ?_
  obtain ⟨G2,l2,f2,p2⟩ := z2
  obtain ⟨k1,k2,k3,k4,k5⟩ := hz2
  dsimp only at k1 k2 k3 k4 k5 ⊢
  refine jA 13 rfl ?_
  refine WA.openB (fun G3 _ _ _ => ?_)
  simp only [jnCs,List.cons_append,List.nil_append]
  refine WL.callC (β := { z : List Nat × List Dec × Nat // MadeN l2 z.2.1 z.2.2 (mkN i (trs l2 p1) (trs l2 p2)) ∧ z.2.1.length ≤ l2.length + 1 }) (res := fun z => .int .i64 (z.1.2.2 : Int)) (cs := fun z => [mkr z.1.1 bm z.1.2.1]) (Cs := [mkr G3 bm l2]) (C1 := [mpg enc2 bs (fun q => (f2 q).map encI),pt b17 [.int .i64 (loP la x i : Int),.int .i64 (loP lb y i : Int)] 243,pt b18 [.int .i64 (hiP la x i : Int),.int .i64 (hiP lb y i : Int)] 243,pt b11 [Value.int .i64 (x : Int),.int .i64 (y : Int)] 243]) (O' := G3) F.fun149 (fun d h => by cases h; rfl) rfl (List.Perm.refl _) bun_O1 bun_O2 (fun w hS hS2 => mnode_c G3 bm l2 i p1 p2 w hi24 k1 (j4.ext k2).lt k4.lt (by omega) hS2) (fun ⟨z3,hz3,hz3l⟩ => ?_)
  refine jG ?_
  obtain ⟨G4,l3,r3⟩ := z3
  dsimp only at hz3 hz3l ⊢
  refine jT 14 rfl (Yl.assign rfl) ?_
  refine jD ?_
  refine jN 2 ?_
  refine WC.drawsL (by kernel_rfl) (FactsOk.cons (ds := [6]) (LoadOk.by (Y := fun w => w.cell? ⟨bp,5,none⟩ = some (.map (some bs))) (fun w hS => hS.oldc (hE.ce 5 _ rfl) hE.ce')) (FactsOk.cons (ds := [6]) (LoadOk.whole (t := 11) rfl jM) (FactsOk.nil))) ?_
  refine jT 0 rfl (Yl.move rfl) ?_
  refine jT 1 rfl (Yl.nilCheck rfl) ?_
  refine jT 2 rfl (Yl.fieldAddr0 F.fld223_3 rfl) ?_
  refine jF 3 0 rfl rfl (Yl.load1 F.one221 rfl) ?_
  refine jF 4 1 rfl rfl (Yl.loadN F.agg243 rfl rfl) ?_
  refine jT 5 rfl (Yl.move rfl) ?_
  refine jA 6 rfl ?_
  refine WL.mapPutG (f := fun q => (f2 q).map encI) (x,y) undMP keyPair rfl rfl rfl rfl jU ?_
  refine jG ?_
  refine jD ?_
  refine jN 10 ?_
  have hjr := JR.node ha hb hx hy hox hoy hi hi24 j4 k4 k2 hz3
  have hpre : ∃ t,l3 = l ++ t := by (obtain ⟨t1,e1⟩ := j2; obtain ⟨t2,e2⟩ := k2; obtain ⟨t3,e3⟩ := hz3.pre; exact ⟨t1 ++ t2 ++ t3,by rw [e3,e2,e1]; simp⟩)
  refine WQ.ret (rs := [.tmp 8]) rfl (.tmp rfl .nil) (fun w hS => ⟨⟨(G4 ++ ([bs] ++ []),l3,fun q => if q = (x,y) then some r3 else f2 q,r3),⟨hz3.ismk,hpre,by dsimp only; omega,hjr,(k5.ext hz3.pre).put hjr⟩⟩,rfl,?_⟩)
  refine St.jnsClose (F1 := G4) ?_
  rw [← pair_map (z := (r3 : Int)) rfl]
  exact (jK hS)
 refine WC.drawsL (by kernel_rfl) (FactsOk.cons (ds := []) (LoadOk.by (Y := fun w => w.cell? ⟨bp,5,none⟩ = some (.map (some bs))) (fun w hS => hS.oldc (hE.ce 5 _ rfl) hE.ce')) (FactsOk.cons (ds := []) (LoadOk.whole (t := 11) rfl jM) (FactsOk.cons (ds := []) (LoadOk.by (Y := fun w => (mpg enc2 bs (fun q => (f q).map encI)).ok w) (fun w hS => hS.ok _ jM)) (FactsOk.nil)))) ?_
 refine jT 0 rfl (Yl.move rfl) ?_
 refine jT 1 rfl (Yl.nilCheck rfl) ?_
 refine jT 2 rfl (Yl.fieldAddr0 F.fld223_3 rfl) ?_
 refine jF 3 0 rfl rfl (Yl.load1 F.one221 rfl) ?_
 refine jF 4 1 rfl rfl (Yl.loadN F.agg243 rfl rfl) ?_
 refine jF 5 2 rfl rfl (Yl.lookupHit (f := fun q => (f q).map encI) (v := encI r) (x,y) undMP keyPair zeroInt rfl rfl rfl (by rw [hf]; rfl)) ?_
 refine jT 6 rfl (Yl.move rfl) ?_
 refine jT 7 rfl (Yl.extract rfl rfl) ?_
 refine jT 8 rfl (Yl.extract rfl rfl) ?_
 refine jT 9 rfl (Yl.assign rfl) ?_
 refine jT 10 rfl (Yl.assign rfl) ?_
 refine jD ?_
 refine jN 18 ?_
 refine WQ.ret (rs := [.tmp 8]) rfl (.tmp rfl .nil) (fun w hS => ⟨⟨(_,l,f,r),⟨hm,⟨[],by simp⟩,hpow,hsn x y r hf,hsn⟩⟩,rfl,St.jnsClose (jK hS)⟩)
abbrev DRes (f : Cf → Bool) : Type := { z : BT × Option Addr × Nat // z.1.ok 0 ∧ ∀ c,z.1.ev c = f c }
abbrev DRes.v {f : Cf → Bool} (z : DRes f) : Value := dval z.1.1 z.1.2.1 z.1.2.2
abbrev DRes.ch {f : Cf → Bool} (z : DRes f) : Chunk := dC z.1.2.1 z.1.2.2 z.1.1
def DPost (f : Cf → Bool) (w : World) (e : Ending) (w' : World) : Prop := ∃ z : DRes f,e = .returned z.v ∧ St w [] [z.ch] w'
theorem DRes.rd {f : Cf → Bool} (z : DRes f) {w0 w : World} {O : List Nat} {C : List Chunk} (hS : St w0 O C w) (hm : z.ch ∈ C) : RdD w z.1.1 z.1.2.1 := RdD.of_row z.2.1 (hS.ok _ hm)
theorem jenv_of {w0 w : World} {C : List Chunk} {F : List Nat} {bp bm bs ca cb ra rb : Nat} {la lb l : List Dec} {aa ab : Option Addr} {f : Nat × Nat → Option Nat} {e : TypeId}
  (hS : St w0 [] (jns F bm bs l f :: pt bp [pp bm,.slice aa la.length ca,.int .i64 (ra : Int),.slice ab lb.length cb,.int .i64 (rb : Int),.map (some bs)] e :: C) w) (hra : RdDec w0 la aa) (hrb : RdDec w0 lb ab) : JEnv w F bp bm bs la lb aa ab ca cb ra rb := by
 have hd := (List.pairwise_cons.1 hS.disj).1
 have hnew : ∀ b,b < w0.heap.size → b ∉ F := fun b hb hF => by
  have := (hS.bnd _ (List.mem_cons_self ..) b hF).2 hb
  simp at this
 refine ⟨fun j v hv => hS.cell (List.mem_cons_of_mem _ (List.mem_cons_self ..)) hv,fun hF => hd _ (List.mem_cons_self ..) bp hF rfl,fun j u hu => ?_,fun j u hu => ?_⟩
 obtain ⟨b,off,e1,e2⟩ := hra j u hu
 rotate_left
 obtain ⟨b,off,e1,e2⟩ := hrb j u hu
 rotate_left
 all_goals
  exact ⟨b,off,e1,hS.oldc e2 (by simp),hnew b (World.block_lt_of_cell? w0 _ e2)⟩
theorem dwith_c (g : Nat) (bop : Bool → Bool → Bool) (opf : Nat → Nat → Nat × Bool) (hop : OpOk g bop opf) (s t : BT) (aa ab : Option Addr) (ca cb : Nat) (w : World) (hs : RdD w s aa) (ht : RdD w t ab) :
  Calls Tryz.prog 129 [dval s aa ca,dval t ab cb,Value.func (.func g) [].toArray [].toArray].toArray w (DPost (fun c => bop (s.ev c) (t.ev c)) w) := by
 refine enter Tryz.func129 rfl Tryz.ntmps129 rfl (St.init _) ?_
 refine jN 3 ?_
 refine WL.boxN rfl rfl (fun b3 => ?_)
 refine jN 1 ?_
 refine WL.boxN rfl rfl (fun b4 => ?_)
 refine jN 1 ?_
 refine WL.alloc F.zero35 rfl (fun b6 => ?_)
 refine jN 3 ?_
 refine WC.cutPE (α := Nat × Nat × Nat × List Nat) (fun x => [(7,pp x.1),(2,Value.func (.func g) [].toArray [].toArray),(3,pp b3),(4,pp b4),(6,pp b6)]) (fun x => [pt x.1 [pp x.2.1,.slice aa (canon s).1.length ca,.int .i64 ((canon s).2 : Int),.slice ab (canon t).1.length cb,.int .i64 ((canon t).2 : Int),.map (some x.2.2.1)] 223,mkr x.2.2.2 x.2.1 [],mpg enc2 x.2.2.1 (fun _ => none),pt b3 [.slice aa (canon s).1.length ca,.int .i64 ((canon s).2 : Int)] 35,pt b4 [.slice ab (canon t).1.length cb,.int .i64 ((canon t).2 : Int)] 35,pt b6 [.slice none 0 0,.int .i64 0] 35]) (fun c a d v w h => by cases d <;> exact h) (fun Q' hP hQ => ?_) (fun xE => ?_)
 ·refine WC.drawsL (by kernel_rfl) (FactsOk.cons (ds := [5]) (LoadOk.whole (t := 3) rfl jM) (FactsOk.cons (ds := [5]) (LoadOk.whole (t := 4) rfl jM) (FactsOk.nil))) ?_
  refine jF 1 0 rfl rfl (Yl.loadN F.agg35 rfl rfl) ?_
  refine jF 2 1 rfl rfl (Yl.loadN F.agg35 rfl rfl) ?_
  refine WD.two (i := 0) (j := 3) (by kernel_rfl) rfl rfl ?_ ?_
  refine WL.call0 (β := List Nat × Nat) (res := fun x => .returned (pp x.2)) (cs := fun x => [mkr x.1 x.2 []]) (ψ := fun _ => True) F.fun147 (fun d h => by cases h; rfl) rfl (fun w hS => (newMaker_c w).mono (fun e w2 ⟨x,h1,h2⟩ => ⟨x,trivial,h1,h2⟩)) (fun x8 _ => ?_)
  refine WD.on (closed_of (by kernel_rfl)) (fun w hS => Sx.keep ((fun j v hv => by rw [Nat.zero_add]; exact hS.cell jM hv)) (Sx.keep ((fun j v hv => by rw [Nat.zero_add]; exact hS.cell jM hv)) (Sx.none))) ?_
  refine jA 3 rfl ?_
  refine WL.makeMapG enc2 rfl (fun b11 => ?_)
  rotate_left
  refine WL.makeMapG enc2 rfl (fun b11 => ?_)
  refine WD.on (closed_of (by kernel_rfl)) (fun w hS => Sx.keep ((fun j v hv => by rw [Nat.zero_add]; exact hS.cell jM hv)) (Sx.keep ((fun j v hv => by rw [Nat.zero_add]; exact hS.cell jM hv)) (Sx.none))) ?_
  refine jA 0 rfl ?_
  refine WL.call0 (β := List Nat × Nat) (res := fun x => .returned (pp x.2)) (cs := fun x => [mkr x.1 x.2 []]) (ψ := fun _ => True) F.fun147 (fun d h => by cases h; rfl) rfl (fun w hS => (newMaker_c w).mono (fun e w2 ⟨x,h1,h2⟩ => ⟨x,trivial,h1,h2⟩)) (fun x8 _ => ?_)
  rotate_left
  all_goals
   refine WD.on (closed_of (by kernel_rfl)) (fun w hS => Sx.keep ((fun j v hv => by rw [Nat.zero_add]; exact hS.cell jM hv)) (Sx.keep ((fun j v hv => by rw [Nat.zero_add]; exact hS.cell jM hv)) (Sx.none))) ?_
   refine jT 4 rfl (Yl.build F.stT223 rfl jB) ?_
   refine jA 5 rfl ?_
   refine WL.boxN rfl rfl (fun b13 => ?_)
   refine jG ?_
   refine jT 6 rfl (Yl.assign rfl) ?_
   refine jD ?_
   refine WQ.chunks (C' := [pt b13 [pp x8.2,.slice aa (canon s).1.length ca,.int .i64 ((canon s).2 : Int),.slice ab (canon t).1.length cb,.int .i64 ((canon t).2 : Int),.map (some b11)] 223,mkr x8.1 x8.2 [],mpg enc2 b11 (fun _ => none),pt b3 [.slice aa (canon s).1.length ca,.int .i64 ((canon s).2 : Int)] 35,pt b4 [.slice ab (canon t).1.length cb,.int .i64 ((canon t).2 : Int)] 35,pt b6 [.slice none 0 0,.int .i64 0] 35]) (fun w hS => (jK hS)) ?_
   exact WQ.byCut (hQ (b13,x8.2,b11,x8.1)) ⟨rfl,rfl,rfl,rfl,rfl,trivial⟩
 obtain ⟨bp,bm,bs,F1⟩ := xE
 show WQ _ _ _ _ _ _ [(7,pp bp),(2,Value.func (.func g) [].toArray [].toArray),(3,pp b3),(4,pp b4),(6,pp b6)] [pt bp [pp bm,.slice aa (canon s).1.length ca,.int .i64 ((canon s).2 : Int),.slice ab (canon t).1.length cb,.int .i64 ((canon t).2 : Int),.map (some bs)] 223,mkr F1 bm [],mpg enc2 bs (fun _ => none),pt b3 [.slice aa (canon s).1.length ca,.int .i64 ((canon s).2 : Int)] 35,pt b4 [.slice ab (canon t).1.length cb,.int .i64 ((canon t).2 : Int)] 35,pt b6 [.slice none 0 0,.int .i64 0] 35]
 refine jN 2 ?_
 refine WC.chunks (C' := [jns (F1 ++ ([bs] ++ [])) bm bs [] (fun _ => none),pt bp [pp bm,.slice aa (canon s).1.length ca,.int .i64 ((canon s).2 : Int),.slice ab (canon t).1.length cb,.int .i64 ((canon t).2 : Int),.map (some bs)] 223,pt b3 [.slice aa (canon s).1.length ca,.int .i64 ((canon s).2 : Int)] 35,pt b4 [.slice ab (canon t).1.length cb,.int .i64 ((canon t).2 : Int)] 35,pt b6 [.slice none 0 0,.int .i64 0] 35]) (fun w hS => St.jnsClose (f := fun _ => none) (jK hS)) ?_
 refine WC.drawsL (by kernel_rfl) (FactsOk.cons (ds := [11,12]) (LoadOk.one (t := 7) (off := 0) rfl jM rfl) (FactsOk.cons (ds := [10,11,12]) (LoadOk.one (t := 3) (off := 1) rfl jM rfl) (FactsOk.cons (ds := [10,11,12]) (LoadOk.one (t := 4) (off := 1) rfl jM rfl) (FactsOk.nil)))) ?_
 refine jT 0 rfl (Yl.move rfl) ?_
 refine jT 1 rfl (Yl.nilCheck rfl) ?_
 refine jT 2 rfl (Yl.fieldAddr0 F.fld223_0 rfl) ?_
 refine jF 3 0 rfl rfl (Yl.load1 F.one200 rfl) ?_
 refine jT 4 rfl (Yl.move rfl) ?_
 refine jT 5 rfl (Yl.fieldAddr0 F.fld35_1 rfl) ?_
 refine jF 6 1 rfl rfl (Yl.load1 F.one3 rfl) ?_
 refine jT 7 rfl (Yl.fieldAddr0 F.fld35_1 rfl) ?_
 refine jF 8 2 rfl rfl (Yl.load1 F.one3 rfl) ?_
 refine jT 9 rfl (Yl.move rfl) ?_
 refine jA 10 rfl ?_
 refine WL.callC (β := { z : JT // JPost bop (canon s).1 (canon t).1 [] 0 (canon s).2 (canon t).2 z }) (res := fun z => .int .i64 (z.1.2.2.2 : Int)) (cs := fun z => [jns z.1.1 bm bs z.1.2.1 z.1.2.2.1]) (Cs := [jns (F1 ++ ([bs] ++ [])) bm bs [] (fun _ => none)]) (C1 := [pt bp [pp bm,.slice aa (canon s).1.length ca,.int .i64 ((canon s).2 : Int),.slice ab (canon t).1.length cb,.int .i64 ((canon t).2 : Int),.map (some bs)] 223,pt b3 [.slice aa (canon s).1.length ca,.int .i64 ((canon s).2 : Int)] 35,pt b4 [.slice ab (canon t).1.length cb,.int .i64 ((canon t).2 : Int)] 35,pt b6 [.slice none 0 0,.int .i64 0] 35]) (O' := (F1 ++ ([bs] ++ []))) F.fun163 (fun d h => by cases h; rfl) rfl (List.Perm.refl _) bun_O1 bun_O2 (fun w hS hS2 => join_c g bop opf hop bp bm bs (canon s).1 (canon t).1 aa ab ca cb (canon s).2 (canon t).2 (canon_mk hs.1) (canon_mk ht.1) (Nat.le_of_lt (canon_len hs.1)) (Nat.le_of_lt (canon_len ht.1)) 25 0 (by omega) (by omega) (F1 ++ ([bs] ++ [])) [] (fun _ => none) (canon s).2 (canon t).2 w (canon_at s).1 (canon_at t).1 (by rw [(canon_at s).2]; exact hs.1) (by rw [(canon_at t).2]; exact ht.1) Mk.nil (fun _ _ _ h => by cases h) (by decide) (jenv_of hS hs.2 ht.2) hS2) (fun ⟨z1,hz1⟩ => ?_)
 refine WD.on (closed_of (by kernel_rfl)) (fun w hS => Sx.keep (hS.cell jM rfl) (Sx.gone rfl (Sx.gone rfl (Sx.none)))) ?_
 refine jA 11 rfl ?_
 obtain ⟨G1,l1,f1,r1⟩ := z1
 obtain ⟨j1,j2,j3,j4,j5⟩ := hz1
 dsimp only at j1 j2 j3 j4 j5 ⊢
 rw [(canon_at s).2,(canon_at t).2] at j4
 have hl1 : l1.length ≤ 16777216 := by
  have e : 2 ^ (24 - 0) = 16777216 := by decide
  simp only [List.length_nil] at j3
  omega
 refine WA.openB (fun G3 _ _ _ => ?_)
 simp only [jnCs,List.cons_append,List.nil_append]
 refine WL.callC (β := Option Addr × Nat) (res := fun z => dval (trs l1 r1) z.1 z.2) (cs := fun z => [dC z.1 z.2 (trs l1 r1)]) (Cs := [mkr G3 bm l1]) (C1 := [mpg enc2 bs (fun q => (f1 q).map encI),pt bp [pp bm,.slice aa (canon s).1.length ca,.int .i64 ((canon s).2 : Int),.slice ab (canon t).1.length cb,.int .i64 ((canon t).2 : Int),.map (some bs)] 223,pt b3 [.slice aa (canon s).1.length ca,.int .i64 ((canon s).2 : Int)] 35,pt b4 [.slice ab (canon t).1.length cb,.int .i64 ((canon t).2 : Int)] 35,pt b6 [.slice none 0 0,.int .i64 0] 35]) (O' := G3) F.fun148 (fun d h => by cases h; rfl) rfl (List.Perm.refl _) bun_O1 bun_O2 (fun w hS hS2 => done_c G3 bm l1 r1 w j1 j4.lt (j4.ok 0 hs.1 ht.1) hl1 hS2) (fun z3 => ?_)
 refine jG ?_
 refine jA 12 rfl ?_
 refine WL.storeN F.agg35 rfl rfl rfl jO jU jS ?_
 refine jG ?_
 refine jD ?_
 refine jN 2 ?_
 refine WQ.ret (rs := [.cell 6 35]) rfl (.cellN F.agg35 rfl jM rfl .nil) (fun w hS => ⟨⟨(trs l1 r1,z3),j4.ok 0 hs.1 ht.1,j4.ev⟩,rfl,(jK hS)⟩)
theorem And_c (s t : BT) (aa ab : Option Addr) (ca cb : Nat) (w : World) (hs : RdD w s aa) (ht : RdD w t ab) :
  Calls Tryz.prog 75 [dval s aa ca,dval t ab cb].toArray w (DPost (fun c => (fun p q : Bool => p && q) (s.ev c) (t.ev c)) w) := by
 refine enter Tryz.func75 rfl Tryz.ntmps75 rfl (St.init _) ?_
 refine jN 3 ?_
 refine WL.boxN rfl rfl (fun b2 => ?_)
 refine jN 1 ?_
 refine WL.boxN rfl rfl (fun b3 => ?_)
 refine jN 1 ?_
 refine WL.alloc F.zero35 rfl (fun b4 => ?_)
 refine jN 9 ?_
 refine WL.call0 (β := DRes (fun c => (fun p q : Bool => p && q) (s.ev c) (t.ev c))) (res := fun z => .returned z.v) (cs := fun z => [z.ch]) (ψ := fun _ => True) F.fun129 (fun d h => by cases h; rfl) rfl (fun w hS => (dwith_c _ _ _ both_ok s t aa ab ca cb w (hs.next0 hS) (ht.next0 hS)).mono (fun e w2 ⟨x,h1,h2⟩ => ⟨x,trivial,h1,h2⟩)) (fun z7 _ => ?_)
 refine WL.step ?_
 refine WL.storeN F.agg35 rfl rfl rfl (by simp [Value.oneCell']) (by repeat (first | exact Upd.here | apply Upd.there)) (by repeat constructor) ?_
 refine WL.nil ?_
 refine WQ.then_normal ?_
 refine WC.ret ?_
 refine WQ.ret (rs := [.cell 4 35]) rfl (.cellN F.agg35 rfl jM rfl .nil) (fun w hS => ⟨z7,rfl,(jK hS)⟩)
theorem Or_c (s t : BT) (aa ab : Option Addr) (ca cb : Nat) (w : World) (hs : RdD w s aa) (ht : RdD w t ab) :
  Calls Tryz.prog 105 [dval s aa ca,dval t ab cb].toArray w (DPost (fun c => (fun p q : Bool => p || q) (s.ev c) (t.ev c)) w) := by
 refine enter Tryz.func105 rfl Tryz.ntmps105 rfl (St.init _) ?_
 refine jN 3 ?_
 refine WL.boxN rfl rfl (fun b2 => ?_)
 refine jN 1 ?_
 refine WL.boxN rfl rfl (fun b3 => ?_)
 refine jN 1 ?_
 refine WL.alloc F.zero35 rfl (fun b4 => ?_)
 refine jN 9 ?_
 refine WL.call0 (β := DRes (fun c => (fun p q : Bool => p || q) (s.ev c) (t.ev c))) (res := fun z => .returned z.v) (cs := fun z => [z.ch]) (ψ := fun _ => True) F.fun129 (fun d h => by cases h; rfl) rfl (fun w hS => (dwith_c _ _ _ either_ok s t aa ab ca cb w (hs.next0 hS) (ht.next0 hS)).mono (fun e w2 ⟨x,h1,h2⟩ => ⟨x,trivial,h1,h2⟩)) (fun z7 _ => ?_)
 refine WL.step ?_
 refine WL.storeN F.agg35 rfl rfl rfl (by simp [Value.oneCell']) (by repeat (first | exact Upd.here | apply Upd.there)) (by repeat constructor) ?_
 refine WL.nil ?_
 refine WQ.then_normal ?_
 refine WC.ret ?_
 refine WQ.ret (rs := [.cell 4 35]) rfl (.cellN F.agg35 rfl jM rfl .nil) (fun w hS => ⟨z7,rfl,(jK hS)⟩)
theorem Xor_c (s t : BT) (aa ab : Option Addr) (ca cb : Nat) (w : World) (hs : RdD w s aa) (ht : RdD w t ab) :
  Calls Tryz.prog 104 [dval s aa ca,dval t ab cb].toArray w (DPost (fun c => (fun p q : Bool => p != q) (s.ev c) (t.ev c)) w) := by
 refine enter Tryz.func104 rfl Tryz.ntmps104 rfl (St.init _) ?_
 refine jN 3 ?_
 refine WL.boxN rfl rfl (fun b2 => ?_)
 refine jN 1 ?_
 refine WL.boxN rfl rfl (fun b3 => ?_)
 refine jN 1 ?_
 refine WL.alloc F.zero35 rfl (fun b4 => ?_)
 refine jN 9 ?_
 refine WL.call0 (β := DRes (fun c => (fun p q : Bool => p != q) (s.ev c) (t.ev c))) (res := fun z => .returned z.v) (cs := fun z => [z.ch]) (ψ := fun _ => True) F.fun129 (fun d h => by cases h; rfl) rfl (fun w hS => (dwith_c _ _ _ odd_ok s t aa ab ca cb w (hs.next0 hS) (ht.next0 hS)).mono (fun e w2 ⟨x,h1,h2⟩ => ⟨x,trivial,h1,h2⟩)) (fun z7 _ => ?_)
 refine WL.step ?_
 refine WL.storeN F.agg35 rfl rfl rfl (by simp [Value.oneCell']) (by repeat (first | exact Upd.here | apply Upd.there)) (by repeat constructor) ?_
 refine WL.nil ?_
 refine WQ.then_normal ?_
 refine WC.ret ?_
 refine WQ.ret (rs := [.cell 4 35]) rfl (.cellN F.agg35 rfl jM rfl .nil) (fun w hS => ⟨z7,rfl,(jK hS)⟩)
theorem True_c (w : World) : Calls Tryz.prog 74 [].toArray w (DPost (fun _ => true) w) := by
 refine enter Tryz.func74 rfl Tryz.ntmps74 rfl (St.init _) ?_
 refine jN 3 ?_
 refine WL.alloc F.zero35 rfl (fun b0 => ?_)
 refine jN 11 ?_
 refine WQ.ret (rs := [.cell 0 35]) rfl (.cellN F.agg35 rfl jM rfl .nil) (fun w hS => ⟨⟨(.lf true,none,0),trivial,fun _ => rfl⟩,rfl,?_⟩)
 exact (hS.drop).rowNil _ _
theorem False_c (w : World) : Calls Tryz.prog 103 [].toArray w (DPost (fun _ => false) w) := by
 refine enter Tryz.func103 rfl Tryz.ntmps103 rfl (St.init _) ?_
 refine jN 3 ?_
 refine WL.alloc F.zero35 rfl (fun b0 => ?_)
 refine jN 11 ?_
 refine WQ.ret (rs := [.cell 0 35]) rfl (.cellN F.agg35 rfl jM rfl .nil) (fun w hS => ⟨⟨(.lf false,none,0),trivial,fun _ => rfl⟩,rfl,?_⟩)
 exact (hS.drop).rowNil _ _
theorem canon_var (i : Nat) : canon (.nd i (.lf false) (.lf true)) = ([(i,0,1)],2) := by
 have h : Dg.look [] (.nd i (.lf false) (.lf true)) = none := by
  cases hl : Dg.look [] (.nd i (.lf false) (.lf true)) with
  | none => rfl
  | some p =>
   obtain ⟨h1,h2⟩ := look_some hl
   rcases p with _ | _ | p
   ·rw [(trs_zero _).1] at h2; cases h2
   ·rw [(trs_zero _).2] at h2; cases h2
   ·simp at h1; omega
 unfold canon
 conv => lhs; unfold visitT
 rw [h]
 simp [visitT]
theorem Var_in (n : Nat) (hn : n < 24) (w : World) : Calls Tryz.prog 99 [.int .i64 (n : Int)].toArray w fun e w' => ∃ z : DRes (fun c => c n),e = .returned (.tuple #[z.v,.int .i64 0]) ∧ St w [] [z.ch] w' := by
 refine enter Tryz.func99 rfl Tryz.ntmps99 rfl (St.init _) ?_
 refine jN 3 ?_
 refine WL.alloc F.zero35 rfl (fun b2 => ?_)
 refine jN 13 ?_
 refine WA.splitB (i := 6) rfl (fun g6 => ?_) (fun g6 => ?_)
 ·exfalso; simp at g6; omega
 refine jN 10 ?_
 refine WC.cond rfl (fun h9 => ?_) (fun h9 => ?_)
 ·exfalso; simp at h9; omega
 refine jN 9 ?_
 refine WL.buildSlice F.sl33 F.ez33 rfl rfl rfl rfl jB rfl (fun b13 => ?_)
 refine jN 9 ?_
 refine WQ.ret (rs := [.cell 2 35,.tmp 3]) rfl (.cellN F.agg35 rfl jM rfl (.tmp rfl .nil)) (fun w hS => ?_)
 refine ⟨⟨(.nd n (.lf false) (.lf true),some ⟨b13,0,none⟩,1),⟨Nat.zero_le _,hn,fun e => (by simp at e),trivial,trivial⟩,fun c => ?_⟩,?_,?_⟩
 ·simp only [BT.ev]; cases c n <;> rfl
 ·show _ = Ending.returned (.tuple #[dval _ _ _,_])
  rw [dval,canon_var]; rfl
 show St _ [] [dC (some ⟨b13,0,none⟩) 1 (.nd n (.lf false) (.lf true))] w
 rw [dC,canon_var]
 exact (jK (St.rowOf (n := 1) (sz := 3) (hS.pick (c := pt b13 [.int .i64 (n : Int),.int .i64 0,.int .i64 1] 104) jR) rfl (by decide)))
theorem Var_out (i : Int) (hi : i < 0 ∨ 24 ≤ i) (w : World) : Calls Tryz.prog 99 [.int .i64 i].toArray w fun e w' => ∃ z : DRes (fun _ => false),e = .returned (.tuple #[z.v,.int .i64 3]) ∧ St w [] [z.ch] w' := by
 refine enter Tryz.func99 rfl Tryz.ntmps99 rfl (St.init _) ?_
 refine jN 3 ?_
 refine WL.alloc F.zero35 rfl (fun b2 => ?_)
 refine jN 13 ?_
 refine WA.splitB (i := 6) rfl (fun g6 => ?_) (fun g6 => ?_)
 ·refine jN 21 ?_
  refine WQ.ret (rs := [.cell 2 35,.tmp 3]) rfl (.cellN F.agg35 rfl jM rfl (.tmp rfl .nil)) (fun w hS => ?_)
  exact ⟨⟨(.lf false,none,0),trivial,fun _ => rfl⟩,rfl,(hS.drop).rowNil _ _⟩
 refine jN 10 ?_
 refine WC.cond rfl (fun h9 => ?_) (fun h9 => ?_)
 ·refine jN 12 ?_
  refine WQ.ret (rs := [.cell 2 35,.tmp 3]) rfl (.cellN F.agg35 rfl jM rfl (.tmp rfl .nil)) (fun w hS => ?_)
  exact ⟨⟨(.lf false,none,0),trivial,fun _ => rfl⟩,rfl,(hS.drop).rowNil _ _⟩
 exfalso; simp at *; omega
theorem rdO_new {w0 w : World} {C : List Chunk} {ch : Chunk} {F : List Nat} {l : List Dec} {a : Option Addr} (hS : St w0 [] C w) (hm : ch ∈ C) (hc : FpIs ch F) (h : RdDec w0 l a) : RdDecO w l a F := fun j u hu => by
 obtain ⟨b,off,e1,e2⟩ := h j u hu
 refine ⟨b,off,e1,hS.oldc e2 (by simp),fun hF => ?_⟩
 have := (hS.bnd _ hm b ((hc b).2 hF)).2 (World.block_lt_of_cell? w0 _ e2)
 simp at this
theorem fi_len {φ : BT → BT} {la l : List Dec} {out : List Int} {x : Dec} (h : FI φ la out l) (hla : la.length < 16777216) (hx : la[out.length - 2]? = some x) : l.length ≤ 16777214 := by
 have h1 := (List.getElem?_eq_some_iff.1 hx).1
 have := h.len
 omega
theorem not_join (bm : Nat) (la : List Dec) (hla : Mk la) (hll : la.length < 16777216) (out : List Int) (s : List Nat × List Dec) (x : Dec) (z1 z2 : Int) (w : World) (hx : la[out.length - 2]? = some x) (hI : FI notT la out s.2) (h1 : out[x.2.1]? = some z1) (h2 : out[x.2.2]? = some z2) (hS : St w s.1 [mkr s.1 bm s.2] w) :
  Calls Tryz.prog 149 ([pp bm] ++ [Value.int .i64 (x.1 : Int),.int .i64 z1,.int .i64 z2] ++ []).toArray w fun e w' => ∃ y : { y : (List Nat × List Dec) × Int // FI notT la (out ++ [y.2]) y.1.2 },e = .returned (.int .i64 y.1.2) ∧ St w s.1 [mkr y.1.1.1 bm y.1.1.2] w' := by
 obtain ⟨p1,rfl,e1,f1⟩ := hI.at' _ _ h1
 obtain ⟨p2,rfl,e2,f2⟩ := hI.at' _ _ h2
 refine (mnode_c s.1 bm s.2 x.1 p1 p2 w (hla.kid _ _ hx).1 hI.ismk e1 e2 (fi_len hI hll hx) hS).mono ?_
 rintro e w' ⟨⟨⟨F',l',r⟩,hm,hl⟩,he,hS'⟩
 refine ⟨⟨((F',l'),(r : Int)),hI.step hla hx hm.ismk hm.pre hl hm.lt ?_⟩,he,hS'⟩
 rw [hm.tree,f1,f2]; rfl
abbrev wcCs (bi bmv bon bm : Nat) (i : Int) (on : Bool) (l : List Dec) (F1 : List Nat) : List Chunk := [pt bi [.int .i64 i] 3,pt bmv [pp bm] 200,pt bon [.bool on] 4,mkr F1 bm l]
def wch (F : List Nat) (bi bmv bon bm : Nat) (i : Int) (on : Bool) (l : List Dec) : Chunk := bun F (wcCs bi bmv bon bm i on l) (fun _ => True)
theorem wch_mv {F : List Nat} {bi bmv bon bm : Nat} {i : Int} {on : Bool} {l : List Dec} {w : World} (h : (wch F bi bmv bon bm i on l).ok w) : w.cell? ⟨bmv,0,none⟩ = some (pp bm) := by
 obtain ⟨x,_,h2,_⟩ := h
 have := h2 (pt bmv [pp bm] 200) (by simp [wcCs])
 simp [World.cell?,show w.heap[bmv]? = some (.cells [pp bm].toArray 200 (0,0)) from this]
theorem St.wchClose {w0 w : World} {O : List Nat} {C : List Chunk} {F1 : List Nat} {bi bmv bon bm : Nat} {i : Int} {on : Bool} {l : List Dec} (h : St w0 O (pt bi [.int .i64 i] 3 :: pt bmv [pp bm] 200 :: pt bon [.bool on] 4 :: mkr F1 bm l :: C) w) :
  St w0 O (wch ([bi] ++ ([bmv] ++ ([bon] ++ (F1 ++ [])))) bi bmv bon bm i on l :: C) w :=
 St.bunClose' (Cs := wcCs bi bmv bon bm i on l) F1 trivial (.cons FpIs.pt (.cons FpIs.pt (.cons FpIs.pt (.cons FpIs.bun .nil)))) h
theorem Not_c (t : BT) (a : Option Addr) (c : Nat) (w : World) (ht : RdD w t a) : Calls Tryz.prog 100 [dval t a c].toArray w (DPost (fun c => !t.ev c) w) := by
 have hmk := canon_mk ht.1
 have hcl := canon_len ht.1
 refine enter Tryz.func100 rfl Tryz.ntmps100 rfl (St.init _) ?_
 refine jN 3 ?_
 refine WL.boxN rfl rfl (fun b1 => ?_)
 refine jN 1 ?_
 refine WL.alloc F.zero35 rfl (fun b2 => ?_)
 refine jN 5 ?_
 refine WL.call0 (β := List Nat × Nat) (res := fun x => .returned (pp x.2)) (cs := fun x => [mkr x.1 x.2 []]) (ψ := fun _ => True) F.fun147 (fun d h => by cases h; rfl) rfl (fun w hS => (newMaker_c w).mono (fun e w2 ⟨x,h1,h2⟩ => ⟨x,trivial,h1,h2⟩)) (fun ⟨F1,bm⟩ _ => ?_)
 refine WL.step ?_
 refine WL.assign rfl rfl ?_
 refine WL.nil ?_
 refine WQ.then_normal ?_
 refine WC.seq ?_
 refine WC.region ?_
 refine WL.step ?_
 refine WL.move rfl rfl ?_
 refine WL.step ?_
 refine WL.loadW F.agg35 rfl rfl (by repeat (first | exact List.Mem.head _ | apply List.Mem.tail)) rfl ?_
 refine WL.step ?_
 refine WL.move rfl rfl ?_
 refine WL.step ?_
 refine WL.makeFunc (us := [pp bm]) (vs := []) rfl rfl rfl ?_
 refine jN 1 ?_
 refine WL.callC (β := { y : List Int × (List Nat × List Dec) × Int // FI notT (canon t).1 y.1 y.2.1.2 ∧ y.1.length = (canon t).1.length + 2 ∧ y.1[(canon t).2]? = some y.2.2 }) (res := fun y => .int .i64 y.1.2.2) (cs := fun y => [mkr y.1.2.1.1 bm y.1.2.1.2]) (Cs := [mkr F1 bm []]) (C1 := [pt b2 [.slice none 0 0,.int .i64 0] 35,pt b1 [.slice a (canon t).1.length c,.int .i64 ((canon t).2 : Int)] 35]) (O' := F1) F.fun53 (fun d h => by cases h; rfl) rfl (List.Perm.refl _) bun_O1 bun_O2 (fun w hS hS2 => Fold_c (σ := List Nat × List Dec) (fun s => mkr s.1 bm s.2) (fun s => s.1) (fun s => FpIs.bun) 149 F.fun149 [pp bm] [] (canon t).1 a c (canon t).2 1 0 (fun out s => FI notT (canon t).1 out s.2) (Nat.le_of_lt hcl) (fun k x hx => ⟨(hmk.kid k x hx).2.1,(hmk.kid k x hx).2.2.1⟩) (canon_at t).1 (F1,[]) (FI.nil (b0 := true) (b1 := false) rfl rfl) (not_join bm (canon t).1 hmk hcl) w (rdO_new hS jM FpIs.bun ht.2) hS2) (fun ⟨⟨out,⟨G1,l1⟩,z⟩,hI,hol,hz⟩ => ?_)
 obtain ⟨r1,rfl,hr1,htr⟩ := hI.at' _ _ hz
 rw [(canon_at t).2] at htr
 have hI9 := hI.len
 dsimp only at hI9 hol hI
 have hl1 : l1.length ≤ 16777216 := by omega
 refine jN 1 ?_
 refine WL.callC (β := Option Addr × Nat) (res := fun z => dval (trs l1 r1) z.1 z.2) (cs := fun z => [dC z.1 z.2 (trs l1 r1)]) (Cs := [mkr G1 bm l1]) (C1 := [pt b2 [.slice none 0 0,.int .i64 0] 35,pt b1 [.slice a (canon t).1.length c,.int .i64 ((canon t).2 : Int)] 35]) (O' := G1) F.fun148 (fun d h => by cases h; rfl) rfl (List.Perm.refl _) bun_O1 bun_O2 (fun w hS hS2 => done_c G1 bm l1 r1 w hI.ismk hr1 (by rw [htr]; exact notT_ok ht.1) hl1 hS2) (fun z3 => ?_)
 refine jN 5 ?_
 refine WQ.ret (rs := [.cell 2 35]) rfl (.cellN F.agg35 rfl jM rfl .nil) (fun w hS => ⟨⟨(trs l1 r1,z3),by rw [htr]; exact notT_ok ht.1,fun c => by rw [htr]; exact notT_ev t c⟩,rfl,(jK hS)⟩)
theorem fix_join (bi bmv bon bm : Nat) (i : Int) (on : Bool) (la : List Dec) (hla : Mk la) (hll : la.length < 16777216) (out : List Int) (s : List Nat × List Dec) (x : Dec) (z1 z2 : Int) (w : World) (hx : la[out.length - 2]? = some x) (hI : FI (fixT i on) la out s.2) (h1 : out[x.2.1]? = some z1) (h2 : out[x.2.2]? = some z2) (hS0 : St w s.1 [wch s.1 bi bmv bon bm i on s.2] w) :
  Calls Tryz.prog 152 ([] ++ [Value.int .i64 (x.1 : Int),.int .i64 z1,.int .i64 z2] ++ [pp bi,pp bmv,pp bon]).toArray w fun e w' => ∃ y : { y : (List Nat × List Dec) × Int // FI (fixT i on) la (out ++ [y.2]) y.1.2 },e = .returned (.int .i64 y.1.2) ∧ St w s.1 [wch y.1.1.1 bi bmv bon bm i on y.1.1.2] w' := by
 obtain ⟨p1,rfl,e1,f1⟩ := hI.at' _ _ h1
 obtain ⟨p2,rfl,e2,f2⟩ := hI.at' _ _ h2
 obtain ⟨F1,_,g1,g2,hS0⟩ := hS0.bunOpen
 simp only [wcCs,List.cons_append,List.nil_append] at hS0
 refine enter Tryz.func152 rfl Tryz.ntmps152 rfl (C := [pt bi [.int .i64 i] 3,pt bmv [pp bm] 200,pt bon [.bool on] 4,mkr F1 bm s.2]) hS0 ?_
 refine jN 20 ?_
 refine WC.cond rfl (fun h10 => ?_) (fun h10 => ?_)
 ·have hne : ¬ (x.1 : Int) = i := by simpa using h10
  refine jN 2 ?_
  refine WA.chunks (C' := [mkr F1 bm s.2,pt bi [.int .i64 i] 3,pt bmv [pp bm] 200,pt bon [.bool on] 4]) (fun w hS => (jK hS)) ?_
  refine jN 9 ?_
  refine WL.callC (β := { z : List Nat × List Dec × Nat // MadeN s.2 z.2.1 z.2.2 (mkN x.1 (trs s.2 p1) (trs s.2 p2)) ∧ z.2.1.length ≤ s.2.length + 1 }) (res := fun z => .int .i64 (z.1.2.2 : Int)) (cs := fun z => [mkr z.1.1 bm z.1.2.1]) (Cs := [mkr F1 bm s.2]) (C1 := [pt bi [.int .i64 i] 3,pt bmv [pp bm] 200,pt bon [.bool on] 4]) (O' := F1) F.fun149 (fun d h => by cases h; rfl) rfl (List.Perm.refl _) bun_O1 bun_O2 (fun w hS hS2 => mnode_c F1 bm s.2 x.1 p1 p2 w (hla.kid _ _ hx).1 hI.ismk e1 e2 (fi_len hI hll hx) hS2) (fun ⟨⟨F2,l2,r2⟩,hm2,hl2⟩ => ?_)
  refine jN 7 ?_
  refine WQ.ret (rs := [.tmp 9]) rfl (.tmp rfl .nil) (fun w hS => ⟨⟨(([bi] ++ ([bmv] ++ ([bon] ++ (F2 ++ []))),l2),(r2 : Int)),hI.step hla hx hm2.ismk hm2.pre hl2 hm2.lt (by rw [hm2.tree,f1,f2,fixT,if_neg hne])⟩,rfl,St.wchClose (F1 := F2) (jK hS)⟩)
 have heq : (x.1 : Int) = i := by simpa using h10
 refine jN 8 ?_
 refine WC.cond rfl (fun h19 => ?_) (fun h19 => ?_)
 ·refine jN 11 ?_
  refine WQ.ret (rs := [.tmp 9]) rfl (.tmp rfl .nil) (fun w hS => ⟨⟨(([bi] ++ ([bmv] ++ ([bon] ++ (F1 ++ []))),s.2),(p2 : Int)),hI.step hla hx hI.ismk ⟨[],by simp⟩ (Nat.le_succ _) e2 (by rw [f2,fixT,if_pos heq,h19]; rfl)⟩,rfl,St.wchClose (F1 := F1) (jK hS)⟩)
 refine jN 12 ?_
 refine WQ.ret (rs := [.tmp 9]) rfl (.tmp rfl .nil) (fun w hS => ⟨⟨(([bi] ++ ([bmv] ++ ([bon] ++ (F1 ++ []))),s.2),(p1 : Int)),hI.step hla hx hI.ismk ⟨[],by simp⟩ (Nat.le_succ _) e1 (by rw [f1,fixT,if_pos heq,h19]; rfl)⟩,rfl,St.wchClose (F1 := F1) (jK hS)⟩)
theorem With_c (t : BT) (a : Option Addr) (c : Nat) (i : Int) (on : Bool) (w : World) (ht : RdD w t a) : Calls Tryz.prog 108 [dval t a c,.int .i64 i,.bool on].toArray w (DPost (fun c => t.ev (updI c i on)) w) := by
 have hmk := canon_mk ht.1
 have hcl := canon_len ht.1
 refine enter Tryz.func108 rfl Tryz.ntmps108 rfl (St.init _) ?_
 refine jN 3 ?_
 refine WL.boxN rfl rfl (fun b3 => ?_)
 refine jN 1 ?_
 refine WL.box1 rfl rfl rfl (fun b4 => ?_)
 refine jN 1 ?_
 refine WL.box1 rfl rfl rfl (fun b5 => ?_)
 refine jN 1 ?_
 refine WL.alloc F.zero35 rfl (fun b6 => ?_)
 refine jN 5 ?_
 refine WL.call0 (β := List Nat × Nat) (res := fun x => .returned (pp x.2)) (cs := fun x => [mkr x.1 x.2 []]) (ψ := fun _ => True) F.fun147 (fun d h => by cases h; rfl) rfl (fun w hS => (newMaker_c w).mono (fun e w2 ⟨x,h1,h2⟩ => ⟨x,trivial,h1,h2⟩)) (fun ⟨F1,bm⟩ _ => ?_)
 refine WL.step ?_
 refine WL.alloc F.zero200 rfl (fun b7 => ?_)
 refine jN 5 ?_
 refine WC.drawsL (by kernel_rfl) (FactsOk.cons (ds := [4,5]) (LoadOk.by (Y := fun w => w.cell? ⟨b7,0,none⟩ = some (pp bm)) (fun w hS => hS.cell jM rfl)) (FactsOk.cons (ds := [3,4,5]) (LoadOk.whole (t := 3) rfl jM) (FactsOk.nil))) ?_
 refine jF 0 0 rfl rfl (Yl.load1 F.one200 rfl) ?_
 refine jF 1 1 rfl rfl (Yl.loadN F.agg35 rfl rfl) ?_
 refine jT 2 rfl (Yl.makeFunc rfl rfl) ?_
 refine jA 3 rfl ?_
 refine WA.chunks (C' := [wch ([b4] ++ ([b7] ++ ([b5] ++ (F1 ++ [])))) b4 b7 b5 bm i on [],pt b3 [.slice a (canon t).1.length c,.int .i64 ((canon t).2 : Int)] 35,pt b6 [.slice none 0 0,.int .i64 0] 35]) (fun w hS => St.wchClose (jK hS)) ?_
 refine WL.callC (β := { y : List Int × (List Nat × List Dec) × Int // FI (fixT i on) (canon t).1 y.1 y.2.1.2 ∧ y.1.length = (canon t).1.length + 2 ∧ y.1[(canon t).2]? = some y.2.2 }) (res := fun y => .int .i64 y.1.2.2) (cs := fun y => [wch y.1.2.1.1 b4 b7 b5 bm i on y.1.2.1.2]) (Cs := [wch ([b4] ++ ([b7] ++ ([b5] ++ (F1 ++ [])))) b4 b7 b5 bm i on []]) (C1 := [pt b3 [.slice a (canon t).1.length c,.int .i64 ((canon t).2 : Int)] 35,pt b6 [.slice none 0 0,.int .i64 0] 35]) (O' := ([b4] ++ ([b7] ++ ([b5] ++ (F1 ++ []))))) F.fun53 (fun d h => by cases h; rfl) rfl (List.Perm.refl _) bun_O1 bun_O2 (fun w hS hS2 => Fold_c (σ := List Nat × List Dec) (fun s => wch s.1 b4 b7 b5 bm i on s.2) (fun s => s.1) (fun s => FpIs.bun) 152 F.fun152 [] [pp b4,pp b7,pp b5] (canon t).1 a c (canon t).2 0 1 (fun out s => FI (fixT i on) (canon t).1 out s.2) (Nat.le_of_lt hcl) (fun k x hx => ⟨(hmk.kid k x hx).2.1,(hmk.kid k x hx).2.2.1⟩) (canon_at t).1 (([b4] ++ ([b7] ++ ([b5] ++ (F1 ++ [])))),[]) (FI.nil (b0 := false) (b1 := true) rfl rfl) (fix_join b4 b7 b5 bm i on (canon t).1 hmk hcl) w (rdO_new hS jM FpIs.bun ht.2) hS2) (fun ⟨⟨out,⟨G1,l1⟩,z⟩,hI,hol,hz⟩ => ?_)
 refine WD.on (closed_of (by kernel_rfl)) (fun w hS => Sx.keep (wch_mv (hS.ok (wch G1 b4 b7 b5 bm i on l1) jM)) (Sx.gone rfl (Sx.none))) ?_
 refine jA 4 rfl ?_
 obtain ⟨r1,rfl,hr1,htr⟩ := hI.at' _ _ hz
 rw [(canon_at t).2] at htr
 have hI9 := hI.len
 dsimp only at hI9 hol hI
 have hl1 : l1.length ≤ 16777216 := by omega
 refine WA.openB (fun F3 _ _ _ => ?_)
 simp only [wcCs,List.cons_append,List.nil_append]
 refine WA.chunks (C' := [mkr F3 bm l1,pt b4 [.int .i64 i] 3,pt b7 [pp bm] 200,pt b5 [.bool on] 4,pt b3 [.slice a (canon t).1.length c,.int .i64 ((canon t).2 : Int)] 35,pt b6 [.slice none 0 0,.int .i64 0] 35]) (fun w hS => (jK hS)) ?_
 refine WL.callC (β := Option Addr × Nat) (res := fun z => dval (trs l1 r1) z.1 z.2) (cs := fun z => [dC z.1 z.2 (trs l1 r1)]) (Cs := [mkr F3 bm l1]) (C1 := [pt b4 [.int .i64 i] 3,pt b7 [pp bm] 200,pt b5 [.bool on] 4,pt b3 [.slice a (canon t).1.length c,.int .i64 ((canon t).2 : Int)] 35,pt b6 [.slice none 0 0,.int .i64 0] 35]) (O' := F3) F.fun148 (fun d h => by cases h; rfl) rfl (List.Perm.refl _) bun_O1 bun_O2 (fun w hS hS2 => done_c F3 bm l1 r1 w hI.ismk hr1 (by rw [htr]; exact fixT_ok ht.1) hl1 hS2) (fun z3 => ?_)
 refine jG ?_
 refine jA 5 rfl ?_
 refine WL.storeN F.agg35 rfl rfl rfl jO jU jS ?_
 refine jG ?_
 refine jD ?_
 refine jN 2 ?_
 refine WQ.ret (rs := [.cell 6 35]) rfl (.cellN F.agg35 rfl jM rfl .nil) (fun w hS => ⟨⟨(trs l1 r1,z3),by rw [htr]; exact fixT_ok ht.1,fun c => by rw [htr]; exact fixT_ev t c⟩,rfl,(jK hS)⟩)
end Go.Proofs.YtkgllhkhdjodeaaGreat
namespace Dg
open Go.Proofs.YtkgllhkhdjodeaaGreat
def idxS (l : List (List UInt8)) (s : List UInt8) : Int := if l.contains s then ((l.findIdx (fun x => x == s) : Nat) : Int) else -1
theorem idxS_hit {l : List (List UInt8)} {s : List UInt8} {i : Nat} (hno : (l.take i).contains s = false) (hx : l[i]? = some s) : idxS l s = i := by
 have hi := (List.getElem?_eq_some_iff.1 hx).1
 have hc : l.contains s = true := by
  rw [List.contains_iff_exists_mem_beq]
  exact ⟨s,List.mem_of_getElem? hx,by simp⟩
 unfold idxS
 rw [if_pos hc]
 congr 1
 have h1 : l.findIdx (fun x => x == s) ≤ i := by
  rcases Nat.lt_or_ge i (l.findIdx (fun x => x == s)) with h | h
  ·have := List.not_of_lt_findIdx h
   obtain ⟨h2,h3⟩ := List.getElem?_eq_some_iff.1 hx
   rw [h3] at this
   simp at this
  ·exact h
 rcases Nat.lt_or_ge (l.findIdx (fun x => x == s)) i with h | h
 ·exfalso
  have h2 : l.findIdx (fun x => x == s) < l.length := by omega
  have h3 := List.findIdx_getElem (p := fun x => x == s) (w := h2)
  have h4 : s ∈ l.take i := by
   rw [List.mem_take_iff_getElem]
   exact ⟨l.findIdx (fun x => x == s),by omega,by simpa using h3⟩
  have : (l.take i).contains s = true := by rw [List.contains_iff_exists_mem_beq]; exact ⟨s,h4,by simp⟩
  rw [hno] at this; cases this
 omega
theorem idxS_miss {l : List (List UInt8)} {s : List UInt8} (h : l.contains s = false) : idxS l s = -1 := by
 unfold idxS; rw [h]; rfl
theorem idxS_neg (l : List (List UInt8)) (s : List UInt8) : decide (0 ≤ idxS l s) = l.contains s := by
 unfold idxS
 cases h : l.contains s with
 | true => simp
 | false => simp
def namesG : List (List UInt8) → List (List UInt8) → Int
 | _,[] => 0
 | pre,s :: r => if Fm.isNameB s = false then 6 else if pre.contains s then 7 else namesG (pre ++ [s]) r
def namesE (l : List (List UInt8)) : Int := if 24 < l.length then 5 else namesG [] l
theorem namesG_step {l : List (List UInt8)} {i : Nat} {s : List UInt8} (hx : l[i]? = some s) : namesG (l.take i) (l.drop i) = if Fm.isNameB s = false then 6 else if (l.take i).contains s then 7 else namesG (l.take (i + 1)) (l.drop (i + 1)) := by
 obtain ⟨hi,he⟩ := List.getElem?_eq_some_iff.1 hx
 rw [List.drop_eq_getElem_cons hi,he,List.take_add_one,hx]
 rfl
end Dg
namespace Go.Proofs.YtkgllhkhdjodeaaGreat
open Go Go.Eng Go.Proofs Dg
theorem sidx_c (l : List (List UInt8)) (s : List UInt8) (a : Option Addr) (cap : Nat) (hll : l.length ≤ 1099511627776) (w : World) (hr : RdS w l a) : Pure Tryz.prog 98 [.slice a l.length cap,.string (str s)] w (.int .i64 (idxS l s)) := by
 refine enter Tryz.func98 rfl Tryz.ntmps98 rfl (St.init _) ?_
 refine jN 18 ?_
 refine WC.loop (α := Nat) (fun i => i ≤ l.length ∧ (l.take i).contains s = false) (fun i => [(0,.slice a l.length cap),(1,.string (str s)),(6,.slice a l.length cap),(7,.int .i64 (l.length : Int)),(8,.int .i64 (i : Int))]) (fun _ => []) (fun i => l.length - i) (0) ?_ ?_ ?_ ?_
 ·exact ⟨Nat.zero_le _,rfl⟩
 ·exact ⟨rfl,rfl,rfl,rfl,rfl,trivial⟩
 ·rfl
 rintro i ⟨hi,hno⟩
 refine jN 7 ?_
 refine WC.cond rfl (fun h9 => ?_) (fun h9 => ?_)
 ·have hlt : i < l.length := by simpa using h9
  obtain ⟨y,hx⟩ : ∃ y,l[i]? = some y := ⟨_,List.getElem?_eq_getElem hlt⟩
  obtain ⟨b,off,rfl,hcell⟩ := hr i y hx
  refine jN 21 ?_
  refine WL.indexAddr F.sl25 rfl rfl rfl hlt ?_
  refine jN 1 ?_
  refine WL.load1 F.one9 rfl rfl (v := .string (str y)) (fun w hS => hS.oldc (by simpa using hcell) (by simp)) ?_
  refine jN 4 ?_
  refine WC.cond rfl (fun h16 => ?_) (fun h16 => ?_)
  ·have hys : y = s := by (simp at h16; first | exact h16 | exact h16.symm)
   subst hys
   refine jN 14 ?_
   exact WQ.ret (rs := [.tmp 4]) rfl (.tmp rfl .nil) (fun w hS => ⟨by rw [idxS_hit hno hx]; rfl,hS⟩)
  refine jN 9 ?_
  refine WQ.back (i + 1) ?_ ?_ ?_ ?_
  ·exact ⟨by omega,by rw [List.take_add_one,hx]; simp at hno h16 ⊢; exact ⟨hno,fun e => h16 (by first | exact e | exact e.symm)⟩⟩
  ·omega
  ·exact ⟨rfl,rfl,rfl,rfl,rfl,trivial⟩
  rfl
 have hie : i = l.length := by simp at h9; omega
 subst hie
 rw [List.take_length] at hno
 refine jN 12 ?_
 exact WQ.ret (rs := [.tmp 4]) rfl (.tmp rfl .nil) (fun w hS => ⟨by rw [idxS_miss hno]; rfl,hS⟩)
theorem scontains_c (l : List (List UInt8)) (s : List UInt8) (a : Option Addr) (cap : Nat) (hll : l.length ≤ 1099511627776) (w : World) (hr : RdS w l a) : Pure Tryz.prog 45 [.slice a l.length cap,.string (str s)] w (.bool (l.contains s)) := by
 refine enter Tryz.func45 rfl Tryz.ntmps45 rfl (St.init _) ?_
 refine jN 13 ?_
 refine WL.callV F.fun98 rfl rfl (fun w hS => sidx_c l s a cap hll w (hr.next hS)) ?_
 refine jN 7 ?_
 exact WQ.ret (rs := [.tmp 4]) rfl (.tmp rfl .nil) (fun w hS => ⟨by (show Ending.returned (.bool (decide (0 ≤ idxS l s))) = _; rw [idxS_neg]),hS⟩)
theorem ridx_c (l : List (List UInt8)) (s : List UInt8) (a : Option Addr) (cap : Nat) (hll : l.length ≤ 1099511627776) (w : World) (hr : RdS w l a) : Pure Tryz.prog 47 [.slice a l.length cap,.string (str s)] w (.int .i64 (idxS l s)) := by
 refine enter Tryz.func47 rfl Tryz.ntmps47 rfl (St.init _) ?_
 refine jN 14 ?_
 refine WC.loop (α := Nat) (fun i => i ≤ l.length ∧ (l.take i).contains s = false) (fun i => [(0,.slice a l.length cap),(1,.string (str s)),(5,.int .i64 (i : Int))]) (fun _ => []) (fun i => l.length - i) (0) ?_ ?_ ?_ ?_
 ·exact ⟨Nat.zero_le _,rfl⟩
 ·exact ⟨rfl,rfl,rfl,trivial⟩
 ·rfl
 rintro i ⟨hi,hno⟩
 refine jN 13 ?_
 refine WC.cond rfl (fun h9 => ?_) (fun h9 => ?_)
 ·have hlt : i < l.length := by simpa using h9
  obtain ⟨y,hx⟩ : ∃ y,l[i]? = some y := ⟨_,List.getElem?_eq_getElem hlt⟩
  obtain ⟨b,off,rfl,hcell⟩ := hr i y hx
  refine jN 11 ?_
  refine WL.indexAddr F.sl25 rfl rfl rfl hlt ?_
  refine jN 1 ?_
  refine WL.load1 F.one9 rfl rfl (v := .string (str y)) (fun w hS => hS.oldc (by simpa using hcell) (by simp)) ?_
  refine jN 6 ?_
  refine WC.cond rfl (fun h17 => ?_) (fun h17 => ?_)
  ·have hys : y = s := by (simp at h17; first | exact h17 | exact h17.symm)
   subst hys
   refine jN 14 ?_
   exact WQ.ret (rs := [.tmp 4]) rfl (.tmp rfl .nil) (fun w hS => ⟨by rw [idxS_hit hno hx]; rfl,hS⟩)
  refine jN 11 ?_
  refine WQ.back (i + 1) ?_ ?_ ?_ ?_
  ·exact ⟨by omega,by rw [List.take_add_one,hx]; simp at hno h17 ⊢; exact ⟨hno,fun e => h17 (by first | exact e | exact e.symm)⟩⟩
  ·omega
  ·exact ⟨rfl,rfl,rfl,trivial⟩
  rfl
 have hie : i = l.length := by simp at h9; omega
 subst hie
 rw [List.take_length] at hno
 refine jN 12 ?_
 exact WQ.ret (rs := [.tmp 4]) rfl (.tmp rfl .nil) (fun w hS => ⟨by rw [idxS_miss hno]; rfl,hS⟩)
end Go.Proofs.YtkgllhkhdjodeaaGreat
namespace Fm
open Go Go.Eng
abbrev Tk := Nat × List UInt8
abbrev RS := Nat × Bool
section
variable {text : List UInt8} {T : List Tk} {e : Int} {I a : Nat} {x : List UInt8}
end
end Fm
namespace Fm
open Go Go.Eng
section
variable {text : List UInt8} {T : List Tk} {e : Int} {I a b : Nat} {x s : List UInt8} {r : RS} {q : Tree × RS} {t : Tree}
end
end Fm
namespace Go.Proofs.YtkgllhkhdjodeaaGreat
open Go Go.Eng Go.Proofs
theorem refIsName_c (l : List UInt8) (w : World) : Pure Tryz.prog 67 [.string (str l)] w (.bool (Fm.isNameB l)) := by
 refine enter Tryz.func67 rfl Tryz.ntmps67 rfl (St.init _) ?_
 refine jN 8 ?_
 refine WC.cutF [(21,.bool (nmBad l)),(0,.string (str l)),(2,.bool false)] (fun Q' hQ => ?_) ?_
 ·refine jN 9 ?_
  refine WA.splitB (i := 7) rfl (fun h7 => ?_) (fun h7 => ?_)
  ·refine jN 29 ?_
   refine WQ.byCut hQ (subF_bool ?_ ⟨rfl,rfl,trivial⟩ rfl)
   first | exact nmBad_nil h7 | exact nmBad_long h12 | (rw [nmBad_digit hc0 h16]; simp at h12; simp; omega) | (rw [nmBad_nodigit hc0 h16]; simp at h12; simp; omega)
  have hpos : 0 < l.length := by simp at h7; omega
  obtain ⟨c0,hc0⟩ : ∃ c,l[0]? = some c := ⟨l[0],by simp [hpos]⟩
  refine jN 13 ?_
  refine WA.splitB (i := 12) rfl (fun h12 => ?_) (fun h12 => ?_)
  ·refine jN 19 ?_
   refine WQ.byCut hQ (subF_bool ?_ ⟨rfl,rfl,trivial⟩ rfl)
   first | exact nmBad_nil h7 | exact nmBad_long h12 | (rw [nmBad_digit hc0 h16]; simp at h12; simp; omega) | (rw [nmBad_nodigit hc0 h16]; simp at h12; simp; omega)
  refine jN 5 ?_
  refine WL.indexS (i := 0) F.und9 rfl rfl rfl hc0 ?_
  refine jN 6 ?_
  refine WA.splitB (i := 16) rfl (fun h16 => ?_) (fun h16 => ?_)
  refine jN 5 ?_
  refine WL.indexS (i := 0) F.und9 rfl rfl rfl hc0 ?_
  refine jN 9 ?_
  rotate_left
  refine jN 12 ?_
  rotate_left
  all_goals
   refine WQ.byCut hQ (subF_bool ?_ ⟨rfl,rfl,trivial⟩ rfl)
   first | exact nmBad_nil h7 | exact nmBad_long h12 | (rw [nmBad_digit hc0 h16]; simp at h12; simp; omega) | (rw [nmBad_nodigit hc0 h16]; simp at h12; simp; omega)
 refine jN 1 ?_
 refine WC.cond rfl (fun h21 => ?_) (fun h21 => ?_)
 ·refine jN 8 ?_
  exact WQ.ret (rs := [.tmp 2]) rfl (.tmp rfl .nil) (fun w hS => ⟨by simp [tup,nmBad_name,h21],hS⟩)
 have hl : l.length ≤ 32 := nmBad_len h21
 refine jN 10 ?_
 refine WC.loop (α := Nat) (fun k => k ≤ l.length ∧ (l.take k).all Fm.inWordB = true) (fun k => [(0,.string (str l)),(2,.bool false),(3,.int .i64 k)]) (fun _ => []) (fun k => l.length - k) (0) ?_ ?_ ?_ ?_
 ·exact ⟨by omega,by simp⟩
 ·exact ⟨rfl,rfl,rfl,trivial⟩
 ·rfl
 rintro k ⟨hk,hal⟩
 refine jN 13 ?_
 refine WC.cond rfl (fun h25 => ?_) (fun h25 => ?_)
 ·have hlt : k < l.length := by simpa using h25
  obtain ⟨c,hc⟩ : ∃ c,l[k]? = some c := ⟨l[k],by simp [hlt]⟩
  refine jN 11 ?_
  refine WL.indexS F.und9 rfl rfl rfl (by assumption) ?_
  refine jN 1 ?_
  refine WL.callV F.fun127 rfl rfl (fun w _ => refInWord_c c w) ?_
  refine jN 4 ?_
  refine WC.cond rfl (fun h31 => ?_) (fun h31 => ?_)
  ·have hcw : Fm.inWordB c = false := by simpa using h31
   refine jN 12 ?_
   exact WQ.ret (rs := [.tmp 2]) rfl (.tmp rfl .nil) (fun w hS => ⟨by simp [tup,nmBad_name]; intro _; exact ⟨c,List.mem_of_getElem? hc,hcw⟩,hS⟩)
  have hcw : Fm.inWordB c = true := by simpa using h31
  refine jN 11 ?_
  refine WQ.back (k + 1) ?_ ?_ ?_ ?_
  ·exact ⟨by omega,by rw [take_all hc,hal,hcw]; rfl⟩
  ·omega
  ·exact ⟨rfl,rfl,rfl,trivial⟩
  rfl
 have hkl : k = l.length := by simp at h25; omega
 subst hkl
 rw [List.take_length] at hal
 refine jN 12 ?_
 exact WQ.ret (rs := [.tmp 2]) rfl (.tmp rfl .nil) (fun w hS => ⟨by simp [tup,nmBad_name,h21,hal],hS⟩)
open Go Go.Eng Go.Proofs Dg
theorem check_c (l : List (List UInt8)) (a : Option Addr) (cap : Nat) (hcap : l.length ≤ cap) (hll : l.length ≤ 1099511627776) (w : World) (hr : RdS w l a) : Pure Tryz.prog 43 [.slice a l.length cap] w (.int .i64 (namesE l)) := by
 refine enter Tryz.func43 rfl Tryz.ntmps43 rfl (St.init _) ?_
 refine jN 17 ?_
 refine WC.cond rfl (fun h7 => ?_) (fun h7 => ?_)
 ·have hE : namesE l = 5 := by (unfold namesE; rw [if_pos (by simp at h7; omega)])
  refine jN 8 ?_
  exact WQ.ret (rs := [.tmp 2]) rfl (.tmp rfl .nil) (fun w hS => ⟨by rw [hE]; rfl,hS⟩)
 have h24 : l.length ≤ 24 := by simp at h7; omega
 have hE : namesE l = namesG [] l := by (unfold namesE; rw [if_neg (by omega)])
 refine jN 14 ?_
 refine WC.loop (α := Nat) (fun i => i ≤ l.length ∧ namesE l = namesG (l.take i) (l.drop i)) (fun i => [(0,.slice a l.length cap),(8,.slice a l.length cap),(9,.int .i64 (l.length : Int)),(10,.int .i64 (i : Int))]) (fun _ => []) (fun i => l.length - i) (0) ?_ ?_ ?_ ?_
 ·exact ⟨Nat.zero_le _,by rw [hE]; rfl⟩
 ·exact ⟨rfl,rfl,rfl,rfl,trivial⟩
 ·rfl
 rintro i ⟨hi,hEi⟩
 refine jN 7 ?_
 refine WC.cond rfl (fun h11 => ?_) (fun h11 => ?_)
 ·have hlt : i < l.length := by simpa using h11
  obtain ⟨s,hx⟩ : ∃ s,l[i]? = some s := ⟨_,List.getElem?_eq_getElem hlt⟩
  obtain ⟨b,off,rfl,hcell⟩ := hr i s hx
  have hst := namesG_step hx
  have htl : (l.take i).length = i := by simp; omega
  have hrt : ∀ {w0 : World},RdS w0 l (some ⟨b,off,none⟩) → RdS w0 (l.take i) (some ⟨b,off,none⟩) := fun h j x hj => h j x (by (rw [List.getElem?_take] at hj; split at hj; exact hj; cases hj))
  refine jN 9 ?_
  refine WL.indexAddr F.sl25 rfl rfl rfl hlt ?_
  refine jN 1 ?_
  refine WL.load1 F.one9 rfl rfl (v := .string (str s)) (fun w hS => hS.oldc (by simpa using hcell) (by simp)) ?_
  refine jN 12 ?_
  refine WL.callV F.fun95 rfl rfl (fun w hS => isName_c s w) ?_
  refine jN 6 ?_
  refine WC.cond rfl (fun h15 => ?_) (fun h15 => ?_)
  ·refine jN 13 ?_
   exact WQ.ret (rs := [.tmp 2]) rfl (.tmp rfl .nil) (fun w hS => ⟨by rw [hEi,hst,if_pos (by simpa using h15)]; rfl,hS⟩)
  refine jN 7 ?_
  refine WL.y (F := fun _ => True) (Yl.sliceSlTo (n := i) F.sl25 rfl rfl (by omega)) rfl (fun _ _ => trivial) ?_
  refine WA.say 22 (.slice (some ⟨b,off,none⟩) (l.take i).length cap) (by rw [htl]; rfl) ?_
  refine jN 3 ?_
  refine WL.callV F.fun45 rfl rfl (fun w hS => scontains_c (l.take i) s (some ⟨b,off,none⟩) cap (by rw [htl]; omega) w (hrt (hr.next hS))) ?_
  refine jN 4 ?_
  refine WC.cond rfl (fun h19 => ?_) (fun h19 => ?_)
  ·refine jN 13 ?_
   exact WQ.ret (rs := [.tmp 2]) rfl (.tmp rfl .nil) (fun w hS => ⟨by rw [hEi,hst,if_neg (by simpa using h15),if_pos h19]; rfl,hS⟩)
  refine jN 10 ?_
  refine WQ.back (i + 1) ?_ ?_ ?_ ?_
  ·exact ⟨by omega,by rw [hEi,hst,if_neg (by simpa using h15),if_neg (by simpa using h19)]⟩
  ·omega
  ·exact ⟨rfl,rfl,rfl,rfl,trivial⟩
  rfl
 have hie : i = l.length := by simp at h11; omega
 subst hie
 rw [List.drop_length] at hEi
 refine jN 12 ?_
 exact WQ.ret (rs := [.tmp 2]) rfl (.tmp rfl .nil) (fun w hS => ⟨by rw [hEi]; rfl,hS⟩)
theorem rnames_c (l : List (List UInt8)) (a : Option Addr) (cap : Nat) (hcap : l.length ≤ cap) (hll : l.length ≤ 1099511627776) (w : World) (hr : RdS w l a) : Pure Tryz.prog 24 [.slice a l.length cap] w (.int .i64 (namesE l)) := by
 refine enter Tryz.func24 rfl Tryz.ntmps24 rfl (St.init _) ?_
 refine jN 17 ?_
 refine WC.cond rfl (fun h7 => ?_) (fun h7 => ?_)
 ·have hE : namesE l = 5 := by (unfold namesE; rw [if_pos (by simp at h7; omega)])
  refine jN 8 ?_
  exact WQ.ret (rs := [.tmp 2]) rfl (.tmp rfl .nil) (fun w hS => ⟨by rw [hE]; rfl,hS⟩)
 have h24 : l.length ≤ 24 := by simp at h7; omega
 have hE : namesE l = namesG [] l := by (unfold namesE; rw [if_neg (by omega)])
 refine jN 10 ?_
 refine WC.loop (α := Nat) (fun i => i ≤ l.length ∧ namesE l = namesG (l.take i) (l.drop i)) (fun i => [(0,.slice a l.length cap),(3,.int .i64 (i : Int))]) (fun _ => []) (fun i => l.length - i) (0) ?_ ?_ ?_ ?_
 ·exact ⟨Nat.zero_le _,by rw [hE]; rfl⟩
 ·exact ⟨rfl,rfl,trivial⟩
 ·rfl
 rintro i ⟨hi,hEi⟩
 refine jN 13 ?_
 refine WC.cond rfl (fun h11 => ?_) (fun h11 => ?_)
 ·have hlt : i < l.length := by simpa using h11
  obtain ⟨s,hx⟩ : ∃ s,l[i]? = some s := ⟨_,List.getElem?_eq_getElem hlt⟩
  obtain ⟨b,off,rfl,hcell⟩ := hr i s hx
  have hst := namesG_step hx
  have htl : (l.take i).length = i := by simp; omega
  have hrt : ∀ {w0 : World},RdS w0 l (some ⟨b,off,none⟩) → RdS w0 (l.take i) (some ⟨b,off,none⟩) := fun h j x hj => h j x (by (rw [List.getElem?_take] at hj; split at hj; exact hj; cases hj))
  refine jN 12 ?_
  refine WL.indexAddr F.sl25 rfl rfl rfl hlt ?_
  refine jN 1 ?_
  refine WL.load1 F.one9 rfl rfl (v := .string (str s)) (fun w hS => hS.oldc (by simpa using hcell) (by simp)) ?_
  refine jN 1 ?_
  refine WL.callV F.fun67 rfl rfl (fun w hS => refIsName_c s w) ?_
  refine jN 4 ?_
  refine WC.cond rfl (fun h15 => ?_) (fun h15 => ?_)
  ·refine jN 13 ?_
   exact WQ.ret (rs := [.tmp 2]) rfl (.tmp rfl .nil) (fun w hS => ⟨by rw [hEi,hst,if_pos (by simpa using h15)]; rfl,hS⟩)
  refine jN 3 ?_
  refine WC.drawsL (by kernel_rfl) (FactsOk.cons (ds := [7]) (LoadOk.by (Y := fun w => w.cell? ⟨b,off + i * 1,none⟩ = some (.string (str s))) (fun w hS => by rw [Nat.mul_one]; exact hS.oldc hcell (by simp))) (FactsOk.nil)) ?_
  refine jT 0 rfl (Yl.move rfl) ?_
  refine jT 1 rfl (Yl.move rfl) ?_
  refine jT 2 rfl (show Yl _ _ _ _ _ _ (Value.slice (some ⟨b,off,none⟩) (l.take i).length cap) from by rw [htl]; exact Yl.sliceSlTo (n := i) F.sl25 rfl rfl (by omega)) ?_
  refine jT 3 rfl (Yl.move rfl) ?_
  refine jT 4 rfl (Yl.move rfl) ?_
  refine jT 5 rfl (Yl.indexAddr F.sl25 rfl rfl hlt) ?_
  refine jF 6 0 rfl rfl (Yl.load1 F.one9 rfl) ?_
  refine jA 7 rfl ?_
  refine WL.callV F.fun47 rfl rfl (fun w hS => ridx_c (l.take i) s (some ⟨b,off,none⟩) cap (by rw [htl]; omega) w (hrt (hr.next hS))) ?_
  refine jG ?_
  refine jT 8 rfl (Yl.geI rfl rfl) ?_
  refine jD ?_
  refine jN 1 ?_
  refine WC.cond rfl (fun h19 => ?_) (fun h19 => ?_)
  ·refine jN 12 ?_
   exact WQ.ret (rs := [.tmp 2]) rfl (.tmp rfl .nil) (fun w hS => ⟨by rw [hEi,hst,if_neg (by simpa using h15),if_pos (by rw [idxS_neg] at h19; exact h19)]; rfl,hS⟩)
  refine jN 11 ?_
  refine WQ.back (i + 1) ?_ ?_ ?_ ?_
  ·exact ⟨by omega,by rw [hEi,hst,if_neg (by simpa using h15),if_neg (by rw [idxS_neg] at h19; simpa using h19)]⟩
  ·omega
  ·exact ⟨rfl,rfl,trivial⟩
  rfl
 have hie : i = l.length := by simp at h11; omega
 subst hie
 rw [List.drop_length] at hEi
 refine jN 12 ?_
 exact WQ.ret (rs := [.tmp 2]) rfl (.tmp rfl .nil) (fun w hS => ⟨by rw [hEi]; rfl,hS⟩)
end Go.Proofs.YtkgllhkhdjodeaaGreat
namespace Go.Eng
open Go Go.RowKit Go.Proofs.YtkgllhkhdjodeaaGreat
abbrev FR (l : Nat) : Fence := Fence.wide.inRound l
def isDefer : Op → Bool
 | .defer _ => true
 | _ => false
theorem not_defer {op : Op} (h : isDefer op = false) : ∀ c,op ≠ .defer c := fun c e => by rw [e] at h; cases h
section
variable {P : Program} {ops : Array Oper} {Q : Exit → Act → World → Prop} {n : Nat}
theorem rowsIn_wide {row : String} {args : Array Value} {w : World} {R : Value → World → Prop} (h : Rows P row args w R) : RowsIn Fence.wide n P row args w R := fun c cs _ => by
 obtain ⟨v,w',h1,h2⟩ := h c cs
 exact ⟨v,w',h1,stepsIn_wide.2 h2⟩
theorem upon_in {F : Fence} (hF : F = Fence.wide ∨ ∃ l,F = FR l) {o : Oper} {a : Act} {K : Act → World → Prop} {r : Result Next} (h : o.upon P a K Q r) : o.uponIn F n P a K Q r := by
 have hc : ∀ {m : Nat} {f : FuncId} {args : Array Value} {w : World} {R : Ending → World → Prop},Calls P f args w R → CallsIn F m P f args w R := fun {m} {f} {args} {w} {R} h => by
  rcases hF with rfl | ⟨l,rfl⟩
  ·exact callsIn_wide.2 h
  ·exact callsIn_wide.2 h
 have hr : ∀ {m : Nat} {row : String} {args : Array Value} {w : World} {R : Value → World → Prop},Rows P row args w R → RowsIn F m P row args w R := fun {m} {row} {args} {w} {R} h => by
  rcases hF with rfl | ⟨l,rfl⟩
  ·exact rowsIn_wide h
  ·exact rowsIn_wide h
 have hd : F.depth.isSome = true → 1 ≤ n := by
  rcases hF with rfl | ⟨l,rfl⟩ <;> (intro h; cases h)
 cases r with
 | ok x w' =>
  cases x <;> simp only [Oper.upon] at h <;> first
   | exact h
   | exact ⟨hd,hc h⟩
   | exact ⟨hd,hr h⟩
   | exact h.elim
 | halt x w' => cases x <;> first | exact h | exact h.elim
theorem semAt_nd {ρ : Operand → Value} {o : Oper} {ro : Option Nat} (h : isDefer o.op = false) : Oper.semAt ro ρ o = execOp ρ o := Oper.semAt_eq ro ρ o (not_defer h)
theorem fn_in {F : Fence} (hF : F = Fence.wide ∨ ∃ l,F = FR l) (f : FuncId) : F.fn f := by
 rcases hF with rfl | ⟨l,rfl⟩ <;> trivial
theorem oper_in {F : Fence} (hF : F = Fence.wide ∨ ∃ l,F = FR l) {o : Oper} {a : Act} {w : World} {K : Act → World → Prop} (hd : isDefer o.op = false) (h : o.wp P a w K Q) : o.wpIn F n P a w K Q :=
 ⟨fun f _ => fn_in hF f,by rw [semAt_nd hd]; exact upon_in hF h⟩
theorem wpO_in {F : Fence} (hF : F = Fence.wide ∨ ∃ l,F = FR l) {o : Oper} {rest : List Oper} {a : Act} {w : World} (hd : isDefer o.op = false) (hQ : ¬ LetsOut Q) (h : wpO P ops Q o (wpListIn F n P ops Q rest) a w) : wpListIn F n P ops Q (o :: rest) a w := by
 unfold wpO at h
 unfold wpListIn
 split at h
 ·rename_i hw
  rw [if_pos hw]
  rcases h with h | ⟨_,h⟩
  ·exact oper_in hF hd h
  exact absurd h hQ
 rename_i hw
 rw [if_neg hw]
 exact ⟨fun f _ => fn_in hF f,h⟩
theorem list_in {F : Fence} (hF : F = Fence.wide ∨ ∃ l,F = FR l) (hQ : ¬ LetsOut Q) : ∀ (l : List Oper) (a : Act) (w : World),(l.all fun o => !isDefer o.op) = true → wpList P ops Q l a w → wpListIn F n P ops Q l a w
 | [],_,_,_,h => h
 | o :: rest,a,w,hd,h => by
  simp only [List.all_cons,Bool.and_eq_true,Bool.not_eq_true'] at hd
  unfold wpListIn
  unfold wpList at h
  split at h
  ·rename_i hw
   rw [if_pos hw]
   rcases h with h | ⟨_,h⟩
   ·exact Oper.wpIn_mono (fun a w h => list_in hF hQ rest a w hd.2 h) (oper_in hF hd.1 h)
   ·exact absurd h hQ
  ·rename_i hw
   rw [if_neg hw]
   exact ⟨fun f _ => fn_in hF f,list_in hF hQ rest _ _ hd.2 h⟩
theorem any_in {F : Fence} (hF : F = Fence.wide ∨ ∃ l,F = FR l) (hQ : ¬ LetsOut Q) (hd : (ops.toList.all fun o => !isDefer o.op) = true) : ∀ (fuel : Nat) (listed : Array Bool) (a : Act) (w : World),wpAny P .any ops Q fuel listed a w → wpAnyIn F n P .any ops Q fuel listed a w
 | 0,_,_,_,h => h
 | fuel + 1,listed,a,w,h => ⟨h.1,fun i hi => by
  have h1 := h.2 i hi
  unfold wpOp at h1
  unfold wpOpIn
  split at h1
  ·rename_i ho; simp only [ho]; exact any_in hF hQ hd fuel _ _ _ h1
  ·rename_i o ho
   simp only [ho]
   have hdo : isDefer o.op = false := by
    have := List.all_eq_true.1 hd o (by rw [← Array.getElem?_toList] at ho; exact List.mem_of_getElem? ho)
    simpa using this
   split at h1
   ·rename_i hw
    rw [if_pos hw]
    rcases h1 with h1 | ⟨_,h1⟩
    ·exact Oper.wpIn_mono (fun a w h => any_in hF hQ hd fuel _ a w h) (oper_in hF hdo h1)
    ·exact absurd h1 hQ
   ·rename_i hw
    rw [if_neg hw]
    exact ⟨fun f _ => fn_in hF f,any_in hF hQ hd fuel _ _ _ h1⟩⟩
end
section
variable {P : Program} {w0 : World} {O : List Nat} {ops : Array Oper} {Q : Exit → Act → World → Prop} {N : Nat} {D : List Deferred} {L : FL} {C : List Chunk} {K : Act → World → Prop}
def WI (P : Program) (l : Nat) (w0 : World) (O : List Nat) (c : Code) (Q : Exit → Act → World → Prop) (N : Nat) (D : List Deferred) (L : FL) (C : List Chunk) : Prop :=
 ∀ a w,Fr N D L a → St w0 O C w → c.wpIn (FR l) 0 P Q a w
variable {l : Nat}
theorem WI.block {i : Nat} {c : Code} (h : WI P l w0 O c (Exit.inBlock i Q) N D L C) : WI P l w0 O (.block i c) Q N D L C := fun a w hF hS => wpIn_block (h a w hF hS)
theorem WI.region {i : Nat} {r : List Oper} (hQ : ¬ LetsOut Q) (hd : (r.all fun o => !isDefer o.op) = true) (h : WA w0 O (wpList P r.toArray Q r) N D L C) : WI P l w0 O (.region i r.toArray false) Q N D L C := fun a w hF hS =>
 wpIn_region_lit (list_in (.inr ⟨l,rfl⟩) hQ r a w hd (h a w hF hS))
theorem WI.drawsL {id : Nat} {r : List Oper} {Fs : List (List Nat × (World → Prop))} (hQ : ¬ LetsOut Q) (hd : (r.all fun o => !isDefer o.op) = true) (hm : P.follows .mixedOrders = true) (hF : FactsOk w0 O L C Fs)
  (h : WD P w0 O r.toArray Q Fs r.length (Array.replicate r.length false) N D L C) : WI P l w0 O (.region id r.toArray true) Q N D L C := fun a w hFr hS => by
 refine wpIn_region_any hm (any_in (.inr ⟨l,rfl⟩) hQ (by simpa using hd) _ _ _ _ (wpAny_of_T (Fs := Fs) _ _ _ _ ?_))
 have hc : Closed r.toArray (Array.replicate r.length false) := by
  intro j oj _ hl
  rcases Nat.lt_or_ge j r.length with h' | h'
  ·simp [h'] at hl
  ·simp [h'] at hl
 have hS' : St w0 O C { w with drawn := w.drawn + 1 } := ⟨hS.os,hS.tape,hS.output,hS.size,hS.old,fun c hc => c.loc w _ (fun _ _ => rfl) (hS.ok c hc),hS.bnd,hS.disj⟩
 have h1 := h hc a { w with drawn := w.drawn + 1 } hFr hS' (fun f hf _ => hF _ hS' f hf)
 simpa using h1
theorem WC.regionIn {i : Nat} {r : List Oper} (h : WA w0 O (wpListIn Fence.wide 0 P r.toArray Q r) N D L C) : WC P w0 O (.region i r.toArray false) Q N D L C := fun a w hF hS =>
 wpIn_wide.1 (wpIn_region_lit (h a w hF hS))
theorem WIL.nil (h : WQ w0 O Q .normal N D L C) : WA w0 O (wpListIn Fence.wide 0 P ops Q []) N D L C := fun a w hF hS => h a w hF hS
theorem WIL.step {o : Oper} {rest : List Oper} (hQ : ¬ LetsOut Q) (hd : isDefer o.op = false) (h : WK P w0 O ops Q o (wpListIn Fence.wide 0 P ops Q rest) N D L C) : WA w0 O (wpListIn Fence.wide 0 P ops Q (o :: rest)) N D L C := fun a w hF hS =>
 wpO_in (.inl rfl) hd hQ (h a w hF hS)
theorem WIL.guardT {o : Oper} {rest : List Oper} {j : Nat} {g : Bool} {dj : Nat} (hgd : o.guard = some (j,g)) (hj : (ops[j]?).bind (·.dst) = some dj) (hv : lk L dj = some (.bool g))
  (h : WA w0 O (wpListIn Fence.wide 0 P ops Q ({ o with guard := none } :: rest)) N D L C) : WA w0 O (wpListIn Fence.wide 0 P ops Q (o :: rest)) N D L C := fun a w hF hS => by
 have h' := h a w hF hS
 have hw : Region.wanted o (yielded ops a.tmps) = true := by
  have := hF.get dj _ hv
  simp [Region.wanted,hgd,yielded,hj,this]
 unfold wpListIn at h' ⊢
 rw [if_pos hw]
 rw [if_pos (by simp [Region.wanted])] at h'
 exact h'
variable {d : Nat} {ty : TypeId} {pos : String} {af : Array Edge}
theorem WIL.yield {β : Type} {b : Bool} {rest : List Oper} {x : Operand} {xs : List Operand} {tys : Array TypeId} {vs : List Value} {cs : β → List Chunk} {Cs C1 : List Chunk} {O' : List Nat} {φ : β → Prop}
  (hd : Nat.blt d N = true) (hfv : ev L x = some (.func (.yield l) #[] #[])) (hx : evs L xs = some vs) (hp : C.Perm (Cs ++ C1)) (hO1 : ∀ c ∈ Cs,∀ k,c.fp k → k ∈ O') (hO2 : ∀ k ∈ O',∃ c ∈ Cs,c.fp k)
  (hc : ∀ w,St w0 O (Cs ++ C1) w → St w O' Cs w → YieldAt Fence.wide 0 P l vs.toArray w fun e w' => e = .returned (.bool b) ∧ ∃ x,φ x ∧ St w O' (cs x) w')
  (h : ∀ x,φ x → WA w0 O (wpListIn Fence.wide 0 P ops Q rest) N D ((d,.bool b) :: L) (cs x ++ C1)) :
  WA w0 O (wpListIn Fence.wide 0 P ops Q (⟨some d,.call { callee := .value x,args := xs.toArray,argTypes := tys },ty,pos,af,none⟩ :: rest)) N D L C := fun a w hF hS => by
 have ha : xs.toArray.map a.eval = vs.toArray := by apply Array.ext'; simp [hF.evs hx]
 have hS1 := hS.perm hp
 obtain ⟨fn,tmps,assign,body,hy,hR⟩ := hc w hS1 (hS1.focus hO1)
 unfold wpListIn
 rw [if_pos (by simp [Region.wanted])]
 refine ⟨fun f _ => trivial,?_⟩
 have e1 : (Oper.semAt Fence.wide.round a.eval ⟨some d,.call { callee := .value x,args := xs.toArray,argTypes := tys },ty,pos,af,none⟩).run P w = .ok (.round l fn tmps assign body) w := by
  rw [semAt_nd rfl]
  simp [execOp,resolve,Deferred.ofValue,hF.ev hfv,invoke,ha,hy]
 rw [e1]
 refine ⟨fun h => (by cases h),hR.mono ?_⟩
 rintro e w' ⟨rfl,y,hφ,hS'⟩
 exact h y hφ _ w' (hF.put d _ hd) (hS1.callC hS' hO2)
end
def ob1 (b : Nat) (o : Obj) : Chunk where
 fp k := k = b
 ok w := w.heap[b]? = some o
 loc w w' h hw := by rw [h b rfl]; exact hw
theorem FpIs.ob1 {b : Nat} {o : Obj} : FpIs (ob1 b o) [b] := fun k => by simp [Eng.ob1]
section
variable {P : Program} {w0 : World} {O : List Nat} {ops : Array Oper} {Q : Exit → Act → World → Prop} {N : Nat} {D : List Deferred} {L : FL} {C : List Chunk} {K : Act → World → Prop}
theorem St.allocO {w : World} (h : St w0 O C w) (o : Obj) : St w0 O (ob1 w.heap.size o :: C) (w.alloc o) := by
 have hh : ∀ k,k < w.heap.size → (w.alloc o).heap[k]? = w.heap[k]? := fun k hk => Below.heap_alloc w _ k hk
 refine ⟨h.os,h.tape,h.output,by have := h.size; simp; omega,fun k hk ho => ?_,?_,?_,?_⟩
 ·rw [hh k (Nat.lt_of_lt_of_le hk h.size)]; exact h.old k hk ho
 ·intro c hc
  rcases List.mem_cons.1 hc with rfl | hc
  ·exact World.alloc_heap_new w o
  exact c.loc w _ (fun k hk => hh k (h.bnd c hc k hk).1) (h.ok c hc)
 ·intro c hc k hk
  rcases List.mem_cons.1 hc with rfl | hc
  ·have : k = w.heap.size := hk
   subst this
   exact ⟨by simp,fun hlt => absurd hlt (Nat.not_lt.2 h.size)⟩
  exact ⟨by have := (h.bnd c hc k hk).1; simp; omega,(h.bnd c hc k hk).2⟩
 refine List.Pairwise.cons (fun c hc k hk hk' => ?_) h.disj
 have : k = w.heap.size := hk
 subst this
 exact Nat.lt_irrefl _ (h.bnd c hc _ hk').1
theorem St.putO {w : World} {b : Nat} {o : Obj} (h : St w0 O (ob1 b o :: C) w) (o' : Obj) : St w0 O (ob1 b o' :: C) (w.putObj b o') := by
 have hb : b < w.heap.size := lt_of_heap (h.ok _ (List.mem_cons_self ..))
 have hbn := h.bnd _ (List.mem_cons_self ..) b rfl
 have hd := List.pairwise_cons.1 h.disj
 refine ⟨h.os,h.tape,h.output,by rw [World.putObj_size]; exact h.size,fun k hk ho => ?_,?_,?_,List.Pairwise.cons hd.1 hd.2⟩
 ·rw [World.putObj_heap_other (fun e => by subst e; exact ho (hbn.2 hk))]; exact h.old k hk ho
 ·intro c hc
  rcases List.mem_cons.1 hc with rfl | hc9
  ·exact World.putObj_heap_same hb
  exact c.loc w _ (fun k hk => World.putObj_heap_other (fun e => hd.1 c hc9 b rfl (e ▸ hk))) (h.ok c (List.mem_cons_of_mem _ hc9))
 intro c hc k hk
 rw [World.putObj_size]
 rcases List.mem_cons.1 hc with rfl | hc
 ·exact h.bnd _ (List.mem_cons_self ..) k hk
 exact h.bnd c (List.mem_cons_of_mem _ hc) k hk
def putL : List Nat → List Value → FL → FL
 | p :: ps,v :: vs,L => putL ps vs ((p,v) :: L)
 | _,_,L => L
theorem Fr.putL {Dd : List Deferred} : ∀ (ps : List Nat) (vs : List Value) {L : FL} {t : Array Value},(ps.all fun p => Nat.blt p N) = true → Fr N Dd L { tmps := t,defers := Dd } →
  Fr N Dd (Eng.putL ps vs L) { tmps := (ps.zip vs).foldl (fun t (q : Nat × Value) => t.setIfInBounds q.1 q.2) t,defers := Dd }
 | [],_,_,_,_,h => by simpa [Eng.putL] using h
 | _ :: _,[],_,_,_,h => by simpa [Eng.putL] using h
 | p :: ps,v :: vs,L,t,hp,h => by
  simp only [List.all_cons,Bool.and_eq_true] at hp
  simp only [Eng.putL,List.zip_cons_cons,List.foldl_cons]
  exact Fr.putL ps vs hp.2 (h.put p v hp.1)
def rdPost (G : Prop → Prop) (w1 : World) (O : List Nat) {σ : Type} (I : σ → Prop) (J : σ → List Chunk) : Exit → Act → World → Prop
 | .normal,_,w => ∃ y,I y ∧ St w1 O (J y) w
 | _,_,_ => False
theorem WQ.round {G : Prop → Prop} {σ : Type} {I : σ → Prop} {J : σ → List Chunk} (y : σ) (hI : I y) (h : ∀ w,St w0 O C w → St w0 O (J y) w) : WQ w0 O (rdPost G w0 O I J) .normal N D L C := fun a w hF hS => ⟨y,hI,h w hS⟩
def beginK (P : Program) (l : Nat) (body : Code) (Q : Exit → Act → World → Prop) (a : Act) (w : World) : Prop := ∃ w2,(Instr.beginRound l).run P w = .ok () w2 ∧ body.wpIn (FR l) 0 P Q a w2
theorem WQ.begin {l : Nat} {body : Code} {r : Loop} {C1 : List Chunk} (hr : r.state = .ready) (hp : C.Perm (ob1 l (.loop r) :: C1)) (h : WI P l w0 O body Q N D L (ob1 l (.loop { r with state := .busy }) :: C1)) :
  WQ w0 O (Exit.then (beginK P l body Q) (fun _ _ _ => False)) .normal N D L C := fun a w hF hS => by
 have hS1 := hS.perm hp
 exact ⟨_,run_beginRound (hS1.ok _ (List.mem_cons_self ..)) hr,h a _ hF (hS1.putO _)⟩
abbrev recOf (fn : FuncId) (t : Array Value) (ps : List Nat) (assign body : Code) (Db : Nat) : Loop := { state := .ready,pending := none,fn,tmps := t,params := ps.toArray,assign,body,defers := Db }
theorem WC.rangeFunc {σ : Type} {g : Operand} {ps : List Nat} {assign body : Code} {gf : FuncId} {cap : List Value} {C1 : List Chunk} {n : Nat} (encs : Nat → List Value) (I : Nat → σ → Prop) (J : σ → List Chunk) (G : σ → List Nat) (y0 : σ)
  (hJ : ∀ y,FpL (J y) (G y)) (hI0 : I 0 y0) (hg : ev L g = some (.func (.func gf) #[] cap.toArray)) (hf : funB P gf = some true) (hps : ∀ k,(encs k).length = ps.length) (hpN : (ps.all fun p => Nat.blt p N) = true) (hp : C.Perm (J y0 ++ C1))
  (hc : ∀ (l : Nat) (ch : σ → Chunk) (w : World),w0.heap.size ≤ l → St w0 O (J y0 ++ C1) w → (∀ y,FpIs (ch y) (l :: G y)) → (∀ c ∈ J y0 ++ C1,∀ k,c.fp k → k ≠ l) → St w (l :: G y0) [ch y0] w →
   (∀ k y w1,k < n → I k y → St w (l :: G y0) [ch y] w1 → YieldAt Fence.wide 0 P l (encs k).toArray w1 fun e w' => e = .returned (.bool true) ∧ ∃ y',I (k + 1) y' ∧ St w1 (l :: G y) [ch y'] w') →
   Calls P gf (Value.func (.yield l) #[] #[] :: cap).toArray w fun e w' => ∃ y,(∃ v,e = .returned v) ∧ I n y ∧ St w (l :: G y0) [ch y] w')
  (hround : ∀ (l : Nat) (r : Loop) k y w1,k < n → I k y → r.state = .ready → w0.heap.size ≤ l → St w0 O (J y ++ C1) w1 →
   WI P l w1 (l :: G y) assign (Exit.then (beginK P l body (rdPost (fun p => p) w1 (l :: G y) (I (k + 1)) (fun y => ob1 l (.loop { r with state := .busy }) :: J y))) (fun _ _ _ => False)) N [] (putL ps (encs k) L) (ob1 l (.loop r) :: J y))
  (hdone : ∀ Db y,I n y → WQ w0 O Q .normal N ({ target := .collected Db,args := #[] } :: D) L (ob1 Db (.deferred (some [])) :: J y ++ C1)) :
  WC P w0 O (.rangeFunc g ps.toArray assign body) Q N D L C := fun a w hFr hS0 => by
 have hS := hS0.perm hp
 refine (wpIn_wide (n := 1)).1 (wpIn_rangeFunc ?_)
 intro fn _
 show ∃ l mark w₁ d w₁' f args w₂,(Instr.enterLoop fn a.tmps ps.toArray assign body none).run P w = _ ∧ _
 obtain ⟨W1,hW1⟩ : ∃ W1,(w.alloc (.deferred (some []))).alloc (.loop (recOf fn a.tmps ps assign body w.heap.size)) = W1 := ⟨_,rfl⟩
 have hSd := (hS.allocO (.deferred (some []))).allocO (.loop (recOf fn a.tmps ps assign body w.heap.size))
 rw [hW1,World.size_alloc] at hSd
 have hlsz : w0.heap.size ≤ w.heap.size + 1 := Nat.le_succ_of_le hS.size
 refine ⟨w.heap.size + 1,[{ target := .collected w.heap.size,args := #[] }],W1,{ target := .fn (.func gf) cap.toArray,args := #[.func (.yield (w.heap.size + 1)) #[] #[]] },W1,gf,
  #[.func (.yield (w.heap.size + 1)) #[] #[]] ++ cap.toArray,W1,?_,?_,?_,?_,fun h => (by cases h),?_⟩
 ·rw [← hW1]; exact run_enterLoop_outer _ _ _ _ _
 ·simp only [resolve,hFr.ev hg]
  simp [go_sem]
 ·intro f' _; trivial
 ·simp [invoke,go_sem,run_callFunc hf]
 obtain ⟨Db,hD⟩ : ∃ Db,w.heap.size = Db := ⟨_,rfl⟩
 obtain ⟨l,hl⟩ : ∃ l,Db + 1 = l := ⟨_,rfl⟩
 rw [hD] at hSd hlsz ⊢
 rw [hl] at hSd hlsz ⊢
 have hch : ∀ y,FpIs (bun (l :: G y) (fun _ : Unit => ob1 l (.loop (recOf fn a.tmps ps assign body Db)) :: J y) (fun _ => True)) (l :: G y) := fun y k => Iff.rfl
 have hclose : ∀ (y : σ) {v : World} {O1 : List Nat} {C2 : List Chunk} {wb : World},St wb O1 (ob1 l (.loop (recOf fn a.tmps ps assign body Db)) :: J y ++ C2) v → St wb O1 (bun (l :: G y) (fun _ : Unit => ob1 l (.loop (recOf fn a.tmps ps assign body Db)) :: J y) (fun _ => True) :: C2) v := fun y {v} {O1} {C2} {wb} h =>
  St.bunClose' (Cs := fun _ : Unit => ob1 l (.loop (recOf fn a.tmps ps assign body Db)) :: J y) () trivial (.cons FpIs.ob1 (hJ y)) h
 -- the world in which the iterator is called
 have hSP : St w0 O (ob1 l (.loop (recOf fn a.tmps ps assign body Db)) :: J y0 ++ (ob1 Db (.deferred (some [])) :: C1)) W1 := hSd.perm (.cons _ (List.perm_middle.symm))
 have hfoc : St W1 (l :: G y0) [bun (l :: G y0) (fun _ : Unit => ob1 l (.loop (recOf fn a.tmps ps assign body Db)) :: J y0) (fun _ => True)] W1 :=
  (hclose y0 hSP).focus (Cs := [_]) (C1 := ob1 Db (.deferred (some [])) :: C1) (fun c hc k hk => by rw [List.mem_singleton.1 hc] at hk; exact hk)
 have hJC : St w0 O (J y0 ++ C1) W1 := hSP.sublist (List.Sublist.cons _ ((List.Sublist.refl _).append (List.sublist_cons_self ..)))
 have hdis : ∀ c ∈ J y0 ++ C1,∀ k,c.fp k → k ≠ l := fun c hc k hk e => by
  have h1 := (hS.bnd c hc k hk).1
  subst e; omega
 refine (callsIn_wide (n := 0)).2 ?_
 have hargs : #[Value.func (.yield l) #[] #[]] ++ cap.toArray = (Value.func (.yield l) #[] #[] :: cap).toArray := by simp
 rw [hargs]
 refine (hc l (fun y => bun (l :: G y) (fun _ : Unit => ob1 l (.loop (recOf fn a.tmps ps assign body Db)) :: J y) (fun _ => True)) W1 hlsz hJC hch hdis hfoc ?_).mono ?_
 ·-- one round
  intro k y w1 hk hI hSy
  obtain ⟨_,_,_,_,hSo⟩ := hSy.bunOpen
  have hlr := hSo.ok _ (List.mem_cons_self ..)
  have hS1 : St w1 (l :: G y) (ob1 l (.loop (recOf fn a.tmps ps assign body Db)) :: J y) w1 := by
   have h9 : St W1 (l :: G y0) ((ob1 l (.loop (recOf fn a.tmps ps assign body Db)) :: J y) ++ []) w1 := hSo
   exact h9.focus (FpL.one (.cons FpIs.ob1 (hJ y)))
  have hglob : St w0 O (J y ++ C1) w1 := by
   have h8 : St w0 O ([bun (l :: G y0) (fun _ : Unit => ob1 l (.loop (recOf fn a.tmps ps assign body Db)) :: J y0) (fun _ => True)] ++ (ob1 Db (.deferred (some [])) :: C1)) W1 := hclose y0 hSP
   have h9 := h8.callC hSy (fun k hk => ⟨_,List.mem_singleton.2 rfl,hk⟩)
   obtain ⟨_,_,_,_,h7⟩ := (show St w0 O (bun (l :: G y) (fun _ : Unit => ob1 l (.loop (recOf fn a.tmps ps assign body Db)) :: J y) (fun _ => True) :: (ob1 Db (.deferred (some [])) :: C1)) w1 from h9).bunOpen
   exact (show St w0 O (ob1 l (.loop (recOf fn a.tmps ps assign body Db)) :: (J y ++ (ob1 Db (.deferred (some [])) :: C1))) w1 from h7).sublist (List.Sublist.cons _ ((List.Sublist.refl _).append (List.sublist_cons_self ..)))
  have hy := run_yield (P := P) (args := (encs k).toArray) hlr (by simp [hps k])
  refine ⟨_,_,_,_,hy,?_⟩
  have hfr : Fr N [] (putL ps (encs k) L) { tmps := ((recOf fn a.tmps ps assign body Db).params.zip (encs k).toArray).foldl (fun t (q : Tmp × Value) => t.setIfInBounds q.1 q.2) (recOf fn a.tmps ps assign body Db).tmps,defers := [] } := by
   have h1 : Fr N [] L { tmps := a.tmps,defers := [] } := ⟨rfl,hFr.size,hFr.get⟩
   have h2 := Fr.putL ps (encs k) hpN h1
   simpa using h2
  have hw := hround l (recOf fn a.tmps ps assign body Db) k y w1 hk hI rfl hlsz hglob _ w1 hfr hS1
  refine roundIn_of_wpIn (F := Fence.wide) trivial (wpIn_mono hw ?_)
  intro e a1 w2 h
  cases e with
  | normal =>
   obtain ⟨w3,hb,hbody⟩ := h
   refine ⟨w3,hb,wpIn_mono hbody ?_⟩
   intro e2 a2 w4 h4
   cases e2 with
   | normal =>
    obtain ⟨y',hI',hS'⟩ := h4
    have hl4 := hS'.ok _ (List.mem_cons_self ..)
    refine ⟨_,_,run_endRound none hl4,rfl,y',hI',?_⟩
    have h5 := hS'.putO (.loop { (recOf fn a.tmps ps assign body Db) with state := .ready,pending := none })
    have h6 : St w1 (l :: G y) (ob1 l (.loop (recOf fn a.tmps ps assign body Db)) :: J y' ++ []) (w4.putObj l (.loop { (recOf fn a.tmps ps assign body Db) with state := .ready,pending := none })) := by
     rw [List.append_nil]
     exact h5
    exact hclose y' h6
   | _ => exact h4.elim
  | _ => exact h.elim
 ·-- behind the iterator
  rintro e W2 ⟨y,⟨v,rfl⟩,hIn,hS2⟩
  have h8 : St w0 O ([bun (l :: G y0) (fun _ : Unit => ob1 l (.loop (recOf fn a.tmps ps assign body Db)) :: J y0) (fun _ => True)] ++ (ob1 Db (.deferred (some [])) :: C1)) W1 := hclose y0 hSP
  have h9 := h8.callC hS2 (fun k hk => ⟨_,List.mem_singleton.2 rfl,hk⟩)
  obtain ⟨_,_,_,_,h7⟩ := (show St w0 O (bun (l :: G y) (fun _ : Unit => ob1 l (.loop (recOf fn a.tmps ps assign body Db)) :: J y) (fun _ => True) :: (ob1 Db (.deferred (some [])) :: C1)) W2 from h9).bunOpen
  have hl7 := h7.ok _ (List.mem_cons_self ..)
  refine ⟨none,_,run_endLoop hl7 (by simp),?_⟩
  have h6 := (show St w0 O (ob1 l (.loop (recOf fn a.tmps ps assign body Db)) :: (J y ++ (ob1 Db (.deferred (some [])) :: C1))) W2 from h7).putO (.loop { (recOf fn a.tmps ps assign body Db) with state := .exhausted })
  refine hdone Db y hIn _ _ ⟨?_,hFr.size,hFr.get⟩ ((h6.sublist (List.sublist_cons_self ..)).perm List.perm_middle)
  show [_] ++ a.defers = _
  rw [hFr.defers]; rfl
def bodyPostR (P : Program) (fn : Func) (R : Ending → World → Prop) : Exit → Act → World → Prop
 | .normal,a,w | .ret,a,w => LeavesInM Fence.wide 0 P fn a.tmps R a.defers .returning w
 | _,_,_ => False
theorem enterM {f : FuncId} {fn : Func} {c : Code} {args : List Value} {w : World} {R : Ending → World → Prop} (hf : P.funcs[f]? = some fn) (hb : fn.body = some c) (hn : fn.ntmps = N) (hl : Nat.ble args.length N = true) (hS : St w O C w)
  (h : WC P w O c (bodyPostR P fn R) N [] (fl0 args 0) C) : Calls P f args.toArray w R := by
 refine callsIn_wide.1 (callsIn_of_wp_marks (n := 0) hf hb trivial (wpIn_wide.2 (Code.wp_mono (Q := bodyPostR P fn R) (fun e a w h => by cases e <;> first | exact h | exact h.elim) ?_)))
 subst hn
 have := h _ w (Fr.init args fn.ntmps (Nat.le_of_ble_eq_true hl)) hS
 simpa using this
theorem WQ.retM1 {fn : Func} {R : Ending → World → Prop} {rs : List ResultVar} {vs : List Value} {Db : Nat} {C1 : List Chunk} (hr : fn.results = rs.toArray) (hp : C.Perm (ob1 Db (.deferred (some [])) :: C1)) (h : RV P L C1 rs vs) (hR : ∀ w,St w0 O C1 w → R (.returned (tup vs)) w) :
  WQ w0 O (bodyPostR P fn R) .ret N [{ target := .collected Db,args := #[] }] L C := fun a w hF hS => by
 show LeavesInM Fence.wide 0 P fn a.tmps R a.defers .returning w
 rw [hF.defers]
 have hS1 := hS.perm hp
 have hF' : Fr N a.defers L a := ⟨rfl,hF.size,hF.get⟩
 have hS2 := (hS1.putO (.deferred none)).sublist (List.sublist_cons_self ..)
 exact ⟨by simp,.inl ⟨Db,_,rfl,run_takeDeferred (hS1.ok _ (List.mem_cons_self ..)),_,run_results hr h hF' hS2,hR _ hS2⟩⟩
end
end Go.Eng
namespace Go.Proofs.YtkgllhkhdjodeaaGreat
open Go Go.Eng Go.Proofs Dg
abbrev DV := BT × Option Addr × Nat
def RdIn (w : World) (x : DV) (F : List Nat) : Prop := x.1.ok 0 ∧ ∀ (j : Nat) (u : Value),(decs (canon x.1).1)[j]? = some u → ∃ b off,x.2.1 = some ⟨b,off,none⟩ ∧ w.cell? ⟨b,off + j,none⟩ = some u ∧ b ∈ F
def dsC (F : List Nat) (l : List DV) : Chunk where
 fp k := k ∈ F
 ok w := ∀ x ∈ l,RdIn w x F
 loc w w' h hw := fun x hx => ⟨(hw x hx).1,fun j u hu => by
  obtain ⟨b,off,e1,e2,e3⟩ := (hw x hx).2 j u hu
  exact ⟨b,off,e1,by rw [World.cell?_of_block (h b e3)]; exact e2,e3⟩⟩
theorem FpIs.dsC {F : List Nat} {l : List DV} : FpIs (dsC F l) F := fun k => Iff.rfl
theorem dsC_rd {F : List Nat} {l : List DV} {w : World} {x : DV} (h : (dsC F l).ok w) (hx : x ∈ l) : RdD w x.1 x.2.1 := ⟨(h x hx).1,fun j u hu => by
 obtain ⟨b,off,e1,e2,_⟩ := (h x hx).2 j u hu
 exact ⟨b,off,e1,e2⟩⟩
abbrev dcs (l : List DV) : List Value := l.flatMap fun x => [.slice x.2.1 (canon x.1).1.length x.2.2,.int .i64 ((canon x.1).2 : Int)]
theorem dcs_append (l m : List DV) : dcs (l ++ m) = dcs l ++ dcs m := by simp [dcs]
theorem dcs_len : ∀ l : List DV,(dcs l).length = l.length * 2
 | [] => rfl
 | x :: l => by
  have ih := dcs_len l
  simp only [dcs,List.flatMap_cons,List.length_append,List.length_cons,List.length_nil] at ih ⊢
  omega
theorem dcs_at : ∀ {l : List DV} {k : Nat} {x : DV},l[k]? = some x → ∀ j u,[Value.slice x.2.1 (canon x.1).1.length x.2.2,.int .i64 ((canon x.1).2 : Int)][j]? = some u → (dcs l)[k * 2 + j]? = some u
 | y :: l,0,x,h,j,u,hu => by
  simp at h; subst h
  have hj : j < 2 := by have := (List.getElem?_eq_some_iff.1 hu).1; simpa using this
  simp only [dcs,List.flatMap_cons,Nat.zero_mul,Nat.zero_add]
  rw [List.getElem?_append_left (by simpa using hj)]
  exact hu
 | y :: l,k + 1,x,h,j,u,hu => by
  have ih := dcs_at (l := l) (k := k) (by simpa using h) j u hu
  simp only [dcs,List.flatMap_cons] at ih ⊢
  rw [List.getElem?_append_right (by simp; omega),show (k + 1) * 2 + j - [Value.slice y.2.1 (canon y.1).1.length y.2.2,.int .i64 ((canon y.1).2 : Int)].length = k * 2 + j by simp; omega]
  exact ih
section
variable {w0 : World} {O : List Nat} {C : List Chunk}
theorem St.dsNil {w : World} (h : St w0 O C w) : St w0 O (dsC [] [] :: C) w :=
 ⟨h.os,h.tape,h.output,h.size,h.old,fun c hc => by
  rcases List.mem_cons.1 hc with rfl | hc
  ·intro x hx; cases hx
  ·exact h.ok c hc,fun c hc k hk => by
  rcases List.mem_cons.1 hc with rfl | hc
  ·cases hk
  ·exact h.bnd c hc k hk,List.Pairwise.cons (fun _ _ _ hk => by cases hk) h.disj⟩
theorem St.dsSnoc {w : World} {F : List Nat} {l : List DV} {t : BT} {a : Option Addr} {c : Nat} (ht : t.ok 0) (h : St w0 O (dsC F l :: dC a c t :: C) w) : ∃ F',St w0 O (dsC F' (l ++ [(t,a,c)]) :: C) w := by
 have hok : (dC a c t).ok w := h.ok _ (List.mem_cons_of_mem _ (List.mem_cons_self ..))
 have hob : ∃ G : List Nat,(∀ k ∈ G,(dC a c t).fp k) ∧ RdIn w (t,a,c) G := by
  by_cases h0 : (canon t).1.length = 0
  ·exact ⟨[],by simp,ht,fun j u hu => by
    have := (List.getElem?_eq_some_iff.1 hu).1
    rw [decs_len] at this
    dsimp only at this
    omega⟩
  ·obtain ⟨g,hg,_,_⟩ := rowc_addr hok (by omega)
   subst hg
   exact ⟨[g],fun k hk => by simp at hk; subst hk; rfl,ht,fun j u hu => ⟨g,0,rfl,by rw [Nat.zero_add]; exact rowc_cells hok hu,by simp⟩⟩
 obtain ⟨G,hG1,hG2⟩ := hob
 refine ⟨F ++ G,h.join (fun k hk => ?_) (fun hc hd _ => ?_)⟩
 ·rcases List.mem_append.1 hk with hk | hk
  ·exact .inl hk
  exact .inr (hG1 k hk)
 intro x hx
 rcases List.mem_append.1 hx with hx | hx
 ·exact ⟨(hc x hx).1,fun j u hu => by
   obtain ⟨b,off,e1,e2,e3⟩ := (hc x hx).2 j u hu
   exact ⟨b,off,e1,e2,List.mem_append_left _ e3⟩⟩
 rw [List.mem_singleton.1 hx]
 exact ⟨hG2.1,fun j u hu => by
  obtain ⟨b,off,e1,e2,e3⟩ := hG2.2 j u hu
  exact ⟨b,off,e1,e2,List.mem_append_right _ e3⟩⟩
end
open Go Go.Eng Go.Proofs Dg
structure RdDL (w : World) (ds : List DV) (a : Option Addr) : Prop where
 hd : ∀ (j : Nat) (u : Value),(dcs ds)[j]? = some u → ∃ b off,a = some ⟨b,off,none⟩ ∧ w.cell? ⟨b,off + j,none⟩ = some u
 rd : ∀ x ∈ ds,RdD w x.1 x.2.1
theorem RdDL.next {w0 w : World} {C : List Chunk} {ds : List DV} {a : Option Addr} (h : RdDL w0 ds a) (hS : St w0 [] C w) : RdDL w ds a :=
 ⟨fun j u hu => by
  obtain ⟨b,off,h1,h2⟩ := h.hd j u hu
  exact ⟨b,off,h1,hS.oldc h2 (by simp)⟩,fun x hx => (h.rd x hx).next0 hS⟩
theorem RdDL.of_row {w : World} {ds : List DV} {a : Option Addr} {n cap : Nat} {e : TypeId} {F : List Nat} (hn : n = ds.length) (h : (rowc (.slice a n cap) n e 2 (dcs ds)).ok w) (h2 : (dsC F ds).ok w) : RdDL w ds a :=
 ⟨fun j u hu => by
  have hlt := (List.getElem?_eq_some_iff.1 hu).1
  rw [dcs_len] at hlt
  obtain ⟨g,hg,_,_⟩ := rowc_addr h (by omega)
  subst hg
  exact ⟨g,0,rfl,by rw [Nat.zero_add]; exact rowc_cells h hu⟩,fun x hx => dsC_rd h2 hx⟩
theorem RdDL.at {w : World} {ds : List DV} {a : Option Addr} (h : RdDL w ds a) {i : Nat} {x : DV} (hx : ds[i]? = some x) : ∃ b off,a = some ⟨b,off,none⟩ ∧ (∀ j v,[Value.slice x.2.1 (canon x.1).1.length x.2.2,.int .i64 ((canon x.1).2 : Int)][j]? = some v → w.cell? ⟨b,off + i * 2 + j,none⟩ = some v) ∧ RdD w x.1 x.2.1 := by
 obtain ⟨b,off,h1,_⟩ := h.hd (i * 2 + 0) _ (dcs_at hx 0 _ rfl)
 refine ⟨b,off,h1,fun j v hv => ?_,h.rd x (List.mem_of_getElem? hx)⟩
 obtain ⟨b',off',h3,h4⟩ := h.hd (i * 2 + j) v (dcs_at hx j v hv)
 rw [h1] at h3
 injection h3 with h3
 injection h3 with h5 h6
 subst h5; subst h6
 rw [Nat.add_assoc]; exact h4
structure ManyG where
 i : Nat
 t : BT
 ad : Option Addr
 ac : Nat
abbrev dvl (x : DV) : List Value := [.slice x.2.1 (canon x.1).1.length x.2.2,.int .i64 ((canon x.1).2 : Int)]
theorem AndAll_c (ds : List DV) (a : Option Addr) (cap : Nat) (hll : ds.length ≤ 1099511627776) (w : World) (hr : RdDL w ds a) : Calls Tryz.prog 101 [.slice a ds.length cap].toArray w (DPost (fun cf => ds.all (fun x => x.1.ev cf)) w) := by
 refine enter Tryz.func101 rfl Tryz.ntmps101 rfl (St.init _) ?_
 refine jN 3 ?_
 refine WL.alloc F.zero35 rfl (fun b2 => ?_)
 refine jN 5 ?_
 refine WL.call0 (β := DRes (fun _ => true)) (res := fun z => .returned z.v) (cs := fun z => [z.ch]) (ψ := fun _ => True) F.fun74 (fun d h => by cases h; rfl) rfl (fun w hS => (True_c w).mono (fun e w2 ⟨x,h1,h2⟩ => ⟨x,trivial,h1,h2⟩)) (fun z6 _ => ?_)
 refine WL.step ?_
 refine WL.alloc F.zero35 rfl (fun b3 => ?_)
 refine jN 16 ?_
 refine WC.chunks (C' := [pt b2 [.slice none 0 0,.int .i64 0] 35,pt b3 [.slice z6.1.2.1 (canon z6.1.1).1.length z6.1.2.2,.int .i64 ((canon z6.1.1).2 : Int)] 35,z6.ch]) (fun w hS => (jK hS)) ?_
 refine WC.loop (α := ManyG) (fun g => g.i ≤ ds.length ∧ g.t.ok 0 ∧ ∀ cf,g.t.ev cf = (ds.take g.i).all (fun x => x.1.ev cf)) (fun g => [(2,pp b2),(3,pp b3),(7,.slice a ds.length cap),(8,.int .i64 (ds.length : Int)),(9,.int .i64 (g.i : Int))]) (fun g => [pt b2 [.slice none 0 0,.int .i64 0] 35,pt b3 [.slice g.ad (canon g.t).1.length g.ac,.int .i64 ((canon g.t).2 : Int)] 35,dC g.ad g.ac g.t]) (fun g => ds.length - g.i) (⟨0,z6.1.1,z6.1.2.1,z6.1.2.2⟩) ?_ ?_ ?_ ?_
 ·exact ⟨Nat.zero_le _,z6.2.1,fun cf => by rw [z6.2.2]; rfl⟩
 ·exact ⟨rfl,rfl,rfl,rfl,rfl,trivial⟩
 ·rfl
 rintro ⟨i,t,ad,ac⟩ ⟨hi,hok,hev⟩
 dsimp only at hi hok hev
 show WC _ _ _ _ _ _ _ [(2,pp b2),(3,pp b3),(7,.slice a ds.length cap),(8,.int .i64 (ds.length : Int)),(9,.int .i64 (i : Int))] [pt b2 [.slice none 0 0,.int .i64 0] 35,pt b3 [.slice ad (canon t).1.length ac,.int .i64 ((canon t).2 : Int)] 35,dC ad ac t]
 refine jN 7 ?_
 refine WC.cond rfl (fun h10 => ?_) (fun h10 => ?_)
 ·have hlt : i < ds.length := by simpa using h10
  obtain ⟨x,hx⟩ : ∃ x,ds[i]? = some x := ⟨_,List.getElem?_eq_getElem hlt⟩
  obtain ⟨b,off,rfl,hcx,hrx⟩ := hr.at hx
  refine jN 7 ?_
  refine WL.indexAddr F.sl48 rfl rfl rfl hlt ?_
  refine jN 1 ?_
  refine WL.loadN F.agg35 rfl rfl (vs := dvl x) rfl (fun w hS j v hv => hS.oldc (hcx j v hv) (by simp)) ?_
  refine jN 1 ?_
  refine WL.alloc F.zero35 rfl (fun b5 => ?_)
  refine jN 10 ?_
  refine WL.call0 (β := DRes (fun cf => t.ev cf && x.1.ev cf)) (res := fun z => .returned z.v) (cs := fun z => [z.ch]) (ψ := fun _ => True) F.fun75 (fun d h => by cases h; rfl) rfl (fun w hS => (And_c t x.1 ad x.2.1 ac x.2.2 w (RdD.of_row hok (hS.ok (dC ad ac t) jM)) (hrx.next0 hS)).mono (fun e w2 ⟨x,h1,h2⟩ => ⟨x,trivial,h1,h2⟩)) (fun z15 _ => ?_)
  refine WL.step ?_
  refine WL.storeN F.agg35 rfl rfl rfl (by simp [Value.oneCell']) (by repeat (first | exact Upd.here | apply Upd.there)) (by repeat constructor) ?_
  refine WL.nil ?_
  refine WQ.block_normal ?_
  refine WQ.then_normal ?_
  refine WC.region ?_
  refine WL.step ?_
  refine WL.add rfl rfl rfl ⟨by omega,by omega⟩ ?_
  refine WL.step ?_
  refine WL.move rfl rfl ?_
  refine WL.nil ?_
  refine WQ.chunks (C' := [pt b2 [.slice none 0 0,.int .i64 0] 35,pt b3 [.slice z15.1.2.1 (canon z15.1.1).1.length z15.1.2.2,.int .i64 ((canon z15.1.1).2 : Int)] 35,z15.ch]) (fun w hS => (jK hS)) ?_
  refine WQ.back (⟨i + 1,z15.1.1,z15.1.2.1,z15.1.2.2⟩) ?_ ?_ ?_ ?_
  ·exact ⟨by show i + 1 ≤ ds.length; omega,z15.2.1,fun cf => by (show z15.1.1.ev cf = _; rw [z15.2.2]; dsimp only; rw [hev,List.take_add_one,hx]; simp)⟩
  ·(show ds.length - (i + 1) < ds.length - i; omega)
  ·exact ⟨rfl,rfl,rfl,rfl,rfl,trivial⟩
  rfl
 have hie : i = ds.length := by simp at h10; omega
 subst hie
 rw [List.take_length] at hev
 refine jN 14 ?_
 refine WQ.ret (rs := [.cell 2 35]) rfl (.cellN F.agg35 rfl jM rfl .nil) (fun w hS => ⟨⟨(t,ad,ac),hok,hev⟩,rfl,(jK hS)⟩)
theorem OrAll_c (ds : List DV) (a : Option Addr) (cap : Nat) (hll : ds.length ≤ 1099511627776) (w : World) (hr : RdDL w ds a) : Calls Tryz.prog 102 [.slice a ds.length cap].toArray w (DPost (fun cf => ds.any (fun x => x.1.ev cf)) w) := by
 refine enter Tryz.func102 rfl Tryz.ntmps102 rfl (St.init _) ?_
 refine jN 3 ?_
 refine WL.alloc F.zero35 rfl (fun b2 => ?_)
 refine jN 5 ?_
 refine WL.call0 (β := DRes (fun _ => false)) (res := fun z => .returned z.v) (cs := fun z => [z.ch]) (ψ := fun _ => True) F.fun103 (fun d h => by cases h; rfl) rfl (fun w hS => (False_c w).mono (fun e w2 ⟨x,h1,h2⟩ => ⟨x,trivial,h1,h2⟩)) (fun z6 _ => ?_)
 refine WL.step ?_
 refine WL.alloc F.zero35 rfl (fun b3 => ?_)
 refine jN 16 ?_
 refine WC.chunks (C' := [pt b2 [.slice none 0 0,.int .i64 0] 35,pt b3 [.slice z6.1.2.1 (canon z6.1.1).1.length z6.1.2.2,.int .i64 ((canon z6.1.1).2 : Int)] 35,z6.ch]) (fun w hS => (jK hS)) ?_
 refine WC.loop (α := ManyG) (fun g => g.i ≤ ds.length ∧ g.t.ok 0 ∧ ∀ cf,g.t.ev cf = (ds.take g.i).any (fun x => x.1.ev cf)) (fun g => [(2,pp b2),(3,pp b3),(7,.slice a ds.length cap),(8,.int .i64 (ds.length : Int)),(9,.int .i64 (g.i : Int))]) (fun g => [pt b2 [.slice none 0 0,.int .i64 0] 35,pt b3 [.slice g.ad (canon g.t).1.length g.ac,.int .i64 ((canon g.t).2 : Int)] 35,dC g.ad g.ac g.t]) (fun g => ds.length - g.i) (⟨0,z6.1.1,z6.1.2.1,z6.1.2.2⟩) ?_ ?_ ?_ ?_
 ·exact ⟨Nat.zero_le _,z6.2.1,fun cf => by rw [z6.2.2]; rfl⟩
 ·exact ⟨rfl,rfl,rfl,rfl,rfl,trivial⟩
 ·rfl
 rintro ⟨i,t,ad,ac⟩ ⟨hi,hok,hev⟩
 dsimp only at hi hok hev
 show WC _ _ _ _ _ _ _ [(2,pp b2),(3,pp b3),(7,.slice a ds.length cap),(8,.int .i64 (ds.length : Int)),(9,.int .i64 (i : Int))] [pt b2 [.slice none 0 0,.int .i64 0] 35,pt b3 [.slice ad (canon t).1.length ac,.int .i64 ((canon t).2 : Int)] 35,dC ad ac t]
 refine jN 7 ?_
 refine WC.cond rfl (fun h10 => ?_) (fun h10 => ?_)
 ·have hlt : i < ds.length := by simpa using h10
  obtain ⟨x,hx⟩ : ∃ x,ds[i]? = some x := ⟨_,List.getElem?_eq_getElem hlt⟩
  obtain ⟨b,off,rfl,hcx,hrx⟩ := hr.at hx
  refine jN 7 ?_
  refine WL.indexAddr F.sl48 rfl rfl rfl hlt ?_
  refine jN 1 ?_
  refine WL.loadN F.agg35 rfl rfl (vs := dvl x) rfl (fun w hS j v hv => hS.oldc (hcx j v hv) (by simp)) ?_
  refine jN 1 ?_
  refine WL.alloc F.zero35 rfl (fun b5 => ?_)
  refine jN 10 ?_
  refine WL.call0 (β := DRes (fun cf => t.ev cf || x.1.ev cf)) (res := fun z => .returned z.v) (cs := fun z => [z.ch]) (ψ := fun _ => True) F.fun105 (fun d h => by cases h; rfl) rfl (fun w hS => (Or_c t x.1 ad x.2.1 ac x.2.2 w (RdD.of_row hok (hS.ok (dC ad ac t) jM)) (hrx.next0 hS)).mono (fun e w2 ⟨x,h1,h2⟩ => ⟨x,trivial,h1,h2⟩)) (fun z15 _ => ?_)
  refine WL.step ?_
  refine WL.storeN F.agg35 rfl rfl rfl (by simp [Value.oneCell']) (by repeat (first | exact Upd.here | apply Upd.there)) (by repeat constructor) ?_
  refine WL.nil ?_
  refine WQ.block_normal ?_
  refine WQ.then_normal ?_
  refine WC.region ?_
  refine WL.step ?_
  refine WL.add rfl rfl rfl ⟨by omega,by omega⟩ ?_
  refine WL.step ?_
  refine WL.move rfl rfl ?_
  refine WL.nil ?_
  refine WQ.chunks (C' := [pt b2 [.slice none 0 0,.int .i64 0] 35,pt b3 [.slice z15.1.2.1 (canon z15.1.1).1.length z15.1.2.2,.int .i64 ((canon z15.1.1).2 : Int)] 35,z15.ch]) (fun w hS => (jK hS)) ?_
  refine WQ.back (⟨i + 1,z15.1.1,z15.1.2.1,z15.1.2.2⟩) ?_ ?_ ?_ ?_
  ·exact ⟨by show i + 1 ≤ ds.length; omega,z15.2.1,fun cf => by (show z15.1.1.ev cf = _; rw [z15.2.2]; dsimp only; rw [hev,List.take_add_one,hx]; simp)⟩
  ·(show ds.length - (i + 1) < ds.length - i; omega)
  ·exact ⟨rfl,rfl,rfl,rfl,rfl,trivial⟩
  rfl
 have hie : i = ds.length := by simp at h10; omega
 subst hie
 rw [List.take_length] at hev
 refine jN 14 ?_
 refine WQ.ret (rs := [.cell 2 35]) rfl (.cellN F.agg35 rfl jM rfl .nil) (fun w hS => ⟨⟨(t,ad,ac),hok,hev⟩,rfl,(jK hS)⟩)
theorem Ite_c (t1 t2 t3 : BT) (a1 a2 a3 : Option Addr) (c1 c2 c3 : Nat) (w : World) (hr1 : RdD w t1 a1) (hr2 : RdD w t2 a2) (hr3 : RdD w t3 a3) : Calls Tryz.prog 106 [dval t1 a1 c1,dval t2 a2 c2,dval t3 a3 c3].toArray w (DPost (fun cf => bif t1.ev cf then t2.ev cf else t3.ev cf) w) := by
 refine enter Tryz.func106 rfl Tryz.ntmps106 rfl (St.init _) ?_
 refine jN 3 ?_
 refine WL.boxN rfl rfl (fun b3 => ?_)
 refine jN 1 ?_
 refine WL.boxN rfl rfl (fun b4 => ?_)
 refine jN 1 ?_
 refine WL.boxN rfl rfl (fun b5 => ?_)
 refine jN 1 ?_
 refine WL.alloc F.zero35 rfl (fun b6 => ?_)
 refine jN 3 ?_
 refine WC.drawsL (by kernel_rfl) (FactsOk.cons (ds := [2,4,6,7,8]) (LoadOk.whole (t := 3) rfl jM) (FactsOk.cons (ds := [2,4,6,7,8]) (LoadOk.whole (t := 4) rfl jM) (FactsOk.cons (ds := [4,6,7,8]) (LoadOk.whole (t := 3) rfl jM) (FactsOk.cons (ds := [6,7,8]) (LoadOk.whole (t := 5) rfl jM) (FactsOk.nil))))) ?_
 refine jF 0 0 rfl rfl (Yl.loadN F.agg35 rfl rfl) ?_
 refine jF 1 1 rfl rfl (Yl.loadN F.agg35 rfl rfl) ?_
 refine jF 3 2 rfl rfl (Yl.loadN F.agg35 rfl rfl) ?_
 refine jF 5 3 rfl rfl (Yl.loadN F.agg35 rfl rfl) ?_
 refine jA 2 rfl ?_
 refine WL.call0 (β := DRes (fun cf => t1.ev cf && t2.ev cf)) (res := fun z => .returned z.v) (cs := fun z => [z.ch]) (ψ := fun _ => True) F.fun75 (fun d h => by cases h; rfl) rfl (fun w hS => (And_c t1 t2 a1 a2 c1 c2 w (hr1.next0 hS) (hr2.next0 hS)).mono (fun e w2 ⟨x,h1,h2⟩ => ⟨x,trivial,h1,h2⟩)) (fun z9 _ => ?_)
 refine WD.on (closed_of (by kernel_rfl)) (fun w hS => Sx.gone rfl (Sx.gone rfl (Sx.keep ((fun j v hv => by rw [Nat.zero_add]; exact hS.cell jM hv)) (Sx.keep ((fun j v hv => by rw [Nat.zero_add]; exact hS.cell jM hv)) (Sx.none))))) ?_
 refine jA 4 rfl ?_
 refine WL.call0 (β := DRes (fun cf => !t1.ev cf)) (res := fun z => .returned z.v) (cs := fun z => [z.ch]) (ψ := fun _ => True) F.fun100 (fun d h => by cases h; rfl) rfl (fun w hS => (Not_c t1 a1 c1 w (hr1.next0 hS)).mono (fun e w2 ⟨x,h1,h2⟩ => ⟨x,trivial,h1,h2⟩)) (fun z11 _ => ?_)
 refine WD.on (closed_of (by kernel_rfl)) (fun w hS => Sx.gone rfl (Sx.gone rfl (Sx.gone rfl (Sx.keep ((fun j v hv => by rw [Nat.zero_add]; exact hS.cell jM hv)) (Sx.none))))) ?_
 refine jA 6 rfl ?_
 refine WL.call0 (β := DRes (fun cf => z11.1.1.ev cf && t3.ev cf)) (res := fun z => .returned z.v) (cs := fun z => [z.ch]) (ψ := fun _ => True) F.fun75 (fun d h => by cases h; rfl) rfl (fun w hS => (And_c z11.1.1 t3 z11.1.2.1 a3 z11.1.2.2 c3 w (z11.rd hS jM) (hr3.next0 hS)).mono (fun e w2 ⟨x,h1,h2⟩ => ⟨x,trivial,h1,h2⟩)) (fun z13 _ => ?_)
 refine jG ?_
 refine jA 7 rfl ?_
 refine WL.call0 (β := DRes (fun cf => z9.1.1.ev cf || z13.1.1.ev cf)) (res := fun z => .returned z.v) (cs := fun z => [z.ch]) (ψ := fun _ => True) F.fun105 (fun d h => by cases h; rfl) rfl (fun w hS => (Or_c z9.1.1 z13.1.1 z9.1.2.1 z13.1.2.1 z9.1.2.2 z13.1.2.2 w (z9.rd hS jM) (z13.rd hS jM)).mono (fun e w2 ⟨x,h1,h2⟩ => ⟨x,trivial,h1,h2⟩)) (fun z14 _ => ?_)
 refine jG ?_
 refine jA 8 rfl ?_
 refine WL.storeN F.agg35 rfl rfl rfl jO jU jS ?_
 refine jG ?_
 refine jD ?_
 refine jN 2 ?_
 refine WQ.ret (rs := [.cell 6 35]) rfl (.cellN F.agg35 rfl jM rfl .nil) (fun w hS => ⟨⟨z14.1,z14.2.1,fun cf => by rw [z14.2.2]; dsimp only; rw [z9.2.2,z13.2.2]; dsimp only; rw [z11.2.2]; dsimp only; cases t1.ev cf <;> simp⟩,rfl,(jK hS)⟩)
end Go.Proofs.YtkgllhkhdjodeaaGreat
namespace Fm
open Go Go.Eng
end Fm
namespace Fm
open Go Go.Eng
end Fm
namespace Fm
open Go Go.Eng
mutual
def sameT : Tree → Tree → Bool
 | .mk o n k,.mk o' n' k' => decide (o = o') && n == n' && sameL k k'
def sameL : List Tree → List Tree → Bool
 | [],[] => true
 | a :: xs,b :: ys => sameT a b && sameL xs ys
 | _,_ => false
end
mutual
theorem sameT_refl : ∀ t : Tree,sameT t t = true
 | .mk o n k => by simp [sameT,sameL_refl k]
theorem sameL_refl : ∀ ts : List Tree,sameL ts ts = true
 | [] => rfl
 | t :: ts => by simp [sameL,sameT_refl t,sameL_refl ts]
end
theorem sameT_mk (a b : Tree) : sameT a b = (decide (a.op = b.op) && a.name == b.name && sameL a.kids b.kids) := by
 obtain ⟨o,n,k⟩ := a
 obtain ⟨o',n',k'⟩ := b
 simp only [sameT]
 rfl
theorem sameL_len : ∀ {a b : List Tree},a.length ≠ b.length → sameL a b = false
 | [],[],h => absurd rfl h
 | [],_ :: _,_ => rfl
 | _ :: _,[],_ => rfl
 | a :: xs,b :: ys,h => by simp only [sameL,sameL_len (a := xs) (b := ys) (by simpa using h),Bool.and_false]
theorem sameL_drop : ∀ {a b : List Tree} {i : Nat} {x y : Tree},a[i]? = some x → b[i]? = some y → sameL (a.drop i) (b.drop i) = (sameT x y && sameL (a.drop (i + 1)) (b.drop (i + 1)))
 | a,b,i,x,y,h1,h2 => by
  obtain ⟨l1,e1⟩ := List.getElem?_eq_some_iff.1 h1
  obtain ⟨l2,e2⟩ := List.getElem?_eq_some_iff.1 h2
  rw [List.drop_eq_getElem_cons l1,List.drop_eq_getElem_cons l2,e1,e2]
  rfl
end Fm
namespace Fm
open Go Go.Eng
mutual
def cntT : Nat → Int → Tree → Int
  | lv,left,.mk _ name kids => if lv = 0 ∨ left - 1 < 0 ∨ 100 < name.length then -1 else cntL (lv - 1) (left - 1) kids
def cntL : Nat → Int → List Tree → Int
  | _,left,[] => left
  | lv,left,k :: ks => if left < 0 then left else cntL lv (cntT lv left k) ks
end
mutual
theorem cntT_le : ∀ (lv : Nat) (left : Int) (t : Tree),0 ≤ left → cntT lv left t ≤ left - 1 ∧ -1 ≤ cntT lv left t
  | lv,left,.mk _ name kids,h => by
    simp only [cntT]
    split
    · omega
    · rename_i hc
      exact cntL_le (lv - 1) (left - 1) kids (by omega)
theorem cntL_le : ∀ (lv : Nat) (left : Int) (ts : List Tree),-1 ≤ left → cntL lv left ts ≤ left ∧ -1 ≤ cntL lv left ts
  | lv,left,[],h => by simp only [cntL]; omega
  | lv,left,k :: ks,h => by
    simp only [cntL]
    split
    · omega
    · have h1 := cntT_le lv left k (by omega)
      have h2 := cntL_le lv (cntT lv left k) ks h1.2
      omega
end
def shortN (t : Tree) : Bool := decide (t.name.length ≤ 100)
mutual
theorem cntT_ok : ∀ (lv : Nat) (left : Int) (t : Tree),0 ≤ cntT lv left t → cntT lv left t = left - (rowT t).length ∧ levT t ≤ lv ∧ (rowT t).all shortN = true
  | lv,left,.mk op name kids,h => by
    simp only [cntT] at h ⊢
    split at h
    · omega
    · rename_i hc
      rw [if_neg hc]
      obtain ⟨h1,h2,h3⟩ := cntL_ok (lv - 1) (left - 1) kids h
      simp only [rowT,levT,List.length_cons,List.all_cons,Bool.and_eq_true,h3,and_true]
      refine ⟨by rw [h1]; omega,?_,by show decide (name.length ≤ 100) = true; simp; omega⟩
      rcases h2 with h2 | h2
      · subst h2; simp only [levL]; omega
      · omega
theorem cntL_ok : ∀ (lv : Nat) (left : Int) (ts : List Tree),0 ≤ cntL lv left ts → cntL lv left ts = left - (rowL ts).length ∧ (ts = [] ∨ levL ts ≤ lv) ∧ (rowL ts).all shortN = true
  | lv,left,[],h => by simp [cntL,rowL]
  | lv,left,k :: ks,h => by
    simp only [cntL] at h ⊢
    split at h
    · omega
    · rename_i hc
      rw [if_neg hc]
      obtain ⟨h1,h2,h3⟩ := cntL_ok lv (cntT lv left k) ks h
      have h4 : 0 ≤ cntT lv left k := by omega
      obtain ⟨h5,h6,h7⟩ := cntT_ok lv left k h4
      simp only [rowL,levL,List.length_append,List.all_append,h3,h7,Bool.and_self,and_true]
      refine ⟨by rw [h1,h5]; omega,.inr ?_⟩
      rcases h2 with h2 | h2
      · subst h2; simp only [levL]; omega
      · omega
end
theorem cntT_mk (lv : Nat) (left : Int) (t : Tree) : cntT lv left t = if lv = 0 ∨ left - 1 < 0 ∨ 100 < t.name.length then -1 else cntL (lv - 1) (left - 1) t.kids := by
  obtain ⟨op,name,kids⟩ := t
  simp only [cntT]; rfl
theorem cntL_drop {lv : Nat} {left : Int} {ts : List Tree} {i : Nat} {k : Tree} (h : ts[i]? = some k) (hl : ¬ left < 0) : cntL lv left (ts.drop i) = cntL lv (cntT lv left k) (ts.drop (i + 1)) := by
  obtain ⟨l1,e1⟩ := List.getElem?_eq_some_iff.1 h
  rw [List.drop_eq_getElem_cons l1,e1,cntL,if_neg hl]
theorem cntL_stop {lv : Nat} {left : Int} {ts : List Tree} (hl : left < 0) : cntL lv left ts = left := by
  cases ts with
  | nil => rfl
  | cons k ks => rw [cntL,if_pos hl]
def greatB (t : Tree) (lv : Nat) : Bool := decide (cntT lv 1200 t < 0)
theorem great_no {t : Tree} {lv : Nat} (h : greatB t lv = false) : (rowT t).length ≤ 1200 ∧ levT t ≤ lv ∧ (rowT t).all shortN = true := by
  simp only [greatB,decide_eq_false_iff_not] at h
  obtain ⟨h1,h2,h3⟩ := cntT_ok lv 1200 t (by omega)
  exact ⟨by omega,h2,h3⟩
def lineOf (op : Int) : Int := if op = 5 then 2 else if op = 7 then 3 else if op = 6 then 4 else if op = 8 then 5 else if op = 9 then 6 else if op = 10 then 7 else 1
def signR (op i : Int) : List UInt8 :=
  if op = 5 then [32,38,32] else if op = 7 then [32,94,32] else if op = 6 then [32,124,32] else if op = 8 then [32,61,62,32] else if op = 9 then [32,60,61,62,32] else if i = 1 then [32,63,32] else [32,58,32]
def mostOf (op i : Int) : Int := if (op = 8 ∧ i = 1) ∨ (op = 10 ∧ 0 < i) then lineOf op else if op = 4 then 1 else lineOf op - 1
def headR (op i : Int) : List UInt8 := (if op = 4 then [33] else []) ++ (if 0 < i then signR op i else [])
mutual
def textT : Tree → List UInt8
  | .mk op name kids => if op = 1 then [48] else if op = 2 then [49] else if op = 3 then name else textL op 0 kids
def textL : Int → Int → List Tree → List UInt8
  | _,_,[] => []
  | op,i,k :: ks => headR op i ++ (if mostOf op i < lineOf k.op then [40] ++ textT k ++ [41] else textT k) ++ textL op (i + 1) ks
end
end Fm
namespace Go.Proofs.YtkgllhkhdjodeaaGreat
open Go Go.Eng Go.Proofs
def RowC (n : Nat) : Prop := ∀ (t : Tree) (wb : World) (G : List Nat) (a : Option Addr) (c : Nat) (w : World),(Fm.rowT t).length ≤ n → rdT wb t G (tv t a c) → Ext wb w →
 Calls Tryz.prog 70 [tv t a c].toArray w fun e w' => ∃ x : { y : Option Addr × Nat × List Value // NodesOk wb (Fm.rowT t) y.2.2 },e = .returned (.slice x.1.1 (Fm.rowT t).length x.1.2.1) ∧ St w [] [rowc (.slice x.1.1 (Fm.rowT t).length x.1.2.1) (Fm.rowT t).length 24 3 (flat x.1.2.2)] w'
theorem Row_step (n : Nat) (hn : n ≤ 1099511627776) (hrec : RowC n) : RowC (n + 1) := by
 intro t wb G a c w hsz hr hE
 refine enter Tryz.func70 rfl Tryz.ntmps70 rfl (St.init _) ?_
 refine jN 3 ?_
 refine WL.boxN rfl rfl (fun b1 => ?_)
 refine jN 9 ?_
 refine WL.buildSlice F.sl22 F.ez22 rfl rfl rfl rfl jB rfl (fun b6 => ?_)
 refine jN 12 ?_
 refine WC.chunks (C' := [pt b1 [Value.int .u8 t.op,.string (str t.name),.slice a t.kids.length c] 24,rowc (.slice (some ⟨b6,0,none⟩) 1 1) 1 24 3 (flat [tv t a c])]) (fun w hS => ?_) ?_
 ·exact (jK (St.rowOf (n := 1) (sz := 3) (St.pick hS (c := pt b6 [Value.int .u8 t.op,.string (str t.name),.slice a t.kids.length c] 24) jR) rfl (by decide)))
 refine WC.loop (α := Nat × List Value × Option Addr × Nat) (fun g => g.1 ≤ t.kids.length ∧ NodesOk wb (t :: Fm.rowL (t.kids.take g.1)) g.2.1) (fun g => [(1,pp b1),(3,.slice g.2.2.1 (t :: Fm.rowL (t.kids.take g.1)).length g.2.2.2),(4,.int .i64 (g.1 : Int))]) (fun g => [pt b1 [Value.int .u8 t.op,.string (str t.name),.slice a t.kids.length c] 24,rowc (.slice g.2.2.1 (t :: Fm.rowL (t.kids.take g.1)).length g.2.2.2) (t :: Fm.rowL (t.kids.take g.1)).length 24 3 (flat g.2.1)]) (fun g => t.kids.length - g.1) ((0,[tv t a c],some ⟨b6,0,none⟩,1)) ?_ ?_ ?_ ?_
 ·exact ⟨Nat.zero_le _,NodesOk.one hr⟩
 ·exact ⟨rfl,rfl,rfl,trivial⟩
 ·rfl
 rintro ⟨i,vs,ad,cap⟩ ⟨hi,hok⟩
 dsimp only at hi hok
 show WC _ _ _ _ _ _ _ [(1,pp b1),(3,.slice ad (t :: Fm.rowL (t.kids.take i)).length cap),(4,.int .i64 (i : Int))] [pt b1 [Value.int .u8 t.op,.string (str t.name),.slice a t.kids.length c] 24,rowc (.slice ad (t :: Fm.rowL (t.kids.take i)).length cap) (t :: Fm.rowL (t.kids.take i)).length 24 3 (flat vs)]
 refine jN 15 ?_
 refine WC.cond rfl (fun h11 => ?_) (fun h11 => ?_)
 ·have hlt : i < t.kids.length := by simpa using h11
  obtain ⟨k,hk⟩ : ∃ k,t.kids[i]? = some k := ⟨_,List.getElem?_eq_getElem hlt⟩
  obtain ⟨b,off,F1,a1,c1,rfl,hb,hF1,hrk,hck⟩ := rdT_at hr hk
  have hks := Fm.rowT_kid hk
  have hkl := Fm.kids_le t
  have hN : (t :: Fm.rowL (t.kids.take i)).length + (Fm.rowT k).length = (t :: Fm.rowL (t.kids.take (i + 1))).length := by rw [Fm.rowL_take hk]; simp; omega
  have hN2 : (t :: Fm.rowL (t.kids.take (i + 1))).length ≤ (Fm.rowT t).length := by rw [Fm.rowT_eq t]; have := Fm.rowL_take_le t.kids (i + 1); simp; omega
  refine jN 14 ?_
  refine WL.indexAddr F.sl22 rfl rfl rfl hlt ?_
  refine jN 1 ?_
  refine WL.loadN F.agg24 rfl rfl (vs := [Value.int .u8 k.op,.string (str k.name),.slice a1 k.kids.length c1]) rfl (fun w hS j v hv => (hE.st hS).cell (hck j v hv)) ?_
  refine jN 1 ?_
  refine jC (β := { y : Option Addr × Nat × List Value // NodesOk wb (Fm.rowT k) y.2.2 }) (res := fun x => .slice x.1.1 (Fm.rowT k).length x.1.2.1) (cs := fun x => [rowc (.slice x.1.1 (Fm.rowT k).length x.1.2.1) (Fm.rowT k).length 24 3 (flat x.1.2.2)]) F.fun70 rfl (fun w hS _ => hrec k wb F1 a1 c1 w (by omega) hrk (hE.st hS)) (fun y20 => ?_)
  obtain ⟨⟨ad2,cap2,vs2⟩,hok2⟩ := y20
  refine WA.know (φ := ∃ g,ad2 = some ⟨g,0,none⟩ ∧ (Fm.rowT k).length = (Fm.rowT k).length ∧ (Fm.rowT k).length ≤ cap2) (fun w hS => rowc_addr (hS.ok (rowc (.slice ad2 (Fm.rowT k).length cap2) (Fm.rowT k).length 24 3 (flat vs2)) jM) (by rw [Fm.rowT_eq]; simp)) (fun ⟨g,hg,_,_⟩ => ?_)
  subst hg
  refine jN 1 ?_
  refine WL.appendE (n := (t :: Fm.rowL (t.kids.take i)).length) (m := (Fm.rowT k).length) (news := flat vs2) F.el22 rfl rfl rfl jR (fun w hS j u hu => by rw [Nat.zero_add]; exact rowc_cells (hS.ok (rowc (.slice (some ⟨g,0,none⟩) (Fm.rowT k).length cap2) (Fm.rowT k).length 24 3 (flat vs2)) jM) hu) hok2.flat_len hok2.flat_one (Nat.le_trans (m := 1099511627777) (by omega) (by decide)) (by omega) (fun ad3 cap3 => ?_)
  refine jN 13 ?_
  rw [hN,← flat_append]
  refine WQ.chunks (C' := [pt b1 [Value.int .u8 t.op,.string (str t.name),.slice (some ⟨b,off,none⟩) t.kids.length c] 24,rowc (.slice ad3 (t :: Fm.rowL (t.kids.take (i + 1))).length cap3) (t :: Fm.rowL (t.kids.take (i + 1))).length 24 3 (flat (vs ++ vs2))]) (fun w hS => (jK hS)) ?_
  refine WQ.back ((i + 1,vs ++ vs2,ad3,cap3)) ?_ ?_ ?_ ?_
  ·exact ⟨by show i + 1 ≤ _; omega,by show NodesOk wb (t :: Fm.rowL (t.kids.take (i + 1))) (vs ++ vs2); rw [Fm.rowL_take hk,← List.cons_append]; exact hok.append hok2⟩
  ·(show t.kids.length - (i + 1) < t.kids.length - i; omega)
  ·exact ⟨rfl,rfl,rfl,trivial⟩
  rfl
 have hie : i = t.kids.length := by simp at h11; omega
 subst hie
 rw [List.take_length,← Fm.rowT_eq] at hok ⊢
 refine jN 14 ?_
 exact WQ.ret (rs := [.tmp 2]) rfl (.tmp rfl .nil) (fun w hS => ⟨⟨(ad,cap,vs),hok⟩,rfl,((St.pick hS (c := rowc (.slice ad (Fm.rowT t).length cap) (Fm.rowT t).length 24 3 (flat vs)) jR)).one1⟩)
theorem Row_c : ∀ n,n ≤ 1099511627776 → RowC n
 | 0,_ => fun t wb G a c w hsz _ _ => by rw [Fm.rowT_eq] at hsz; simp at hsz
 | n + 1,h => Row_step n (by omega) (Row_c n (by omega))
def LevC (n : Nat) : Prop := ∀ (t : Tree) (wb : World) (G : List Nat) (a : Option Addr) (c : Nat) (w : World),(Fm.rowT t).length ≤ n → rdT wb t G (tv t a c) → Ext wb w → Pure Tryz.prog 72 [tv t a c] w (.int .i64 (Fm.levT t : Int))
theorem Lev_step (n : Nat) (hn : n ≤ 1099511627776) (hrec : LevC n) : LevC (n + 1) := by
 intro t wb G a c w hsz hr hE
 refine enter Tryz.func72 rfl Tryz.ntmps72 rfl (St.init _) ?_
 refine jN 3 ?_
 refine WL.boxN rfl rfl (fun b1 => ?_)
 refine jN 18 ?_
 refine WC.loop (α := Nat) (fun i => i ≤ t.kids.length) (fun i => [(1,pp b1),(3,.int .i64 (Fm.levL (t.kids.take i) : Int)),(4,.int .i64 (i : Int))]) (fun _ => [pt b1 [Value.int .u8 t.op,.string (str t.name),.slice a t.kids.length c] 24]) (fun i => t.kids.length - i) (0) ?_ ?_ ?_ ?_
 ·exact Nat.zero_le _
 ·exact ⟨rfl,rfl,rfl,trivial⟩
 ·rfl
 rintro i hi
 refine jN 15 ?_
 refine WC.cond rfl (fun h11 => ?_) (fun h11 => ?_)
 ·have hlt : i < t.kids.length := by simpa using h11
  obtain ⟨k,hk⟩ : ∃ k,t.kids[i]? = some k := ⟨_,List.getElem?_eq_getElem hlt⟩
  obtain ⟨b,off,F1,a1,c1,rfl,hb,hF1,hrk,hck⟩ := rdT_at hr hk
  have hks := Fm.rowT_kid hk
  have hkl := Fm.kids_le t
  refine jN 14 ?_
  refine WL.indexAddr F.sl22 rfl rfl rfl hlt ?_
  refine jN 1 ?_
  refine WL.loadN F.agg24 rfl rfl (vs := [Value.int .u8 k.op,.string (str k.name),.slice a1 k.kids.length c1]) rfl (fun w hS j v hv => (hE.st hS).cell (hck j v hv)) ?_
  refine jN 1 ?_
  refine WL.callV F.fun72 rfl rfl (fun w hS => hrec k wb F1 a1 c1 w (by omega) hrk (hE.st hS)) ?_
  refine jN 1 ?_
  refine WL.maxI (r := (Fm.levL (t.kids.take (i + 1)) : Int)) rfl rfl rfl (by rw [Fm.levL_take hk]; split <;> omega) ?_
  refine jN 13 ?_
  refine WQ.back (i + 1) ?_ ?_ ?_ ?_
  ·exact by omega
  ·omega
  ·exact ⟨rfl,rfl,rfl,trivial⟩
  rfl
 have hie : i = t.kids.length := by simp at h11; omega
 subst hie
 rw [List.take_length]
 have hll := Fm.levT_le t
 rw [Fm.levT_eq] at hll
 refine jN 16 ?_
 exact WQ.ret (rs := [.tmp 2]) rfl (.tmp rfl .nil) (fun w hS => ⟨by rw [Fm.levT_eq]; rfl,hS.drop⟩)
theorem Lev_c : ∀ n,n ≤ 1099511627776 → LevC n
 | 0,_ => fun t wb G a c w hsz _ _ => by rw [Fm.rowT_eq] at hsz; simp at hsz
 | n + 1,h => Lev_step n (by omega) (Lev_c n (by omega))
theorem one_c (t : Tree) (a : Option Addr) (c : Nat) (w : World) : Pure Tryz.prog 71 [tv t a c] w (.bool (Fm.oneB t)) := by
 refine enter Tryz.func71 rfl Tryz.ntmps71 rfl (St.init _) ?_
 refine jN 3 ?_
 refine WL.boxN rfl rfl (fun b1 => ?_)
 refine jN 27 ?_
 refine WC.cond rfl (fun h9 => ?_) (fun h9 => ?_)
 ·have h9p : t.op = 3 := by simpa using h9
  refine jN 8 ?_
  refine WA.splitB (i := 12) rfl (fun h12 => ?_) (fun h12 => ?_)
  refine jN 8 ?_
  refine WL.callV F.fun67 rfl rfl (fun w _ => refIsName_c _ w) ?_
  refine jN 8 ?_
  rotate_left
  refine jN 14 ?_
  rotate_left
  all_goals
   refine WQ.ret (rs := [.tmp 2]) rfl (.tmp rfl .nil) (fun w hS => ⟨?_,hS.drop⟩)
   refine congrArg (fun b => Ending.returned (Value.bool b)) ?_
   unfold Fm.oneB
   first | (simp_all; done) | (simp_all; rw [Bool.eq_iff_iff]; simp; done) | (simp_all; rw [Bool.eq_iff_iff]; simp; omega) | (rw [Bool.eq_iff_iff]; simp_all; omega)
 have h9p : t.op ≠ 3 := by simpa using h9
 refine jN 13 ?_
 refine WC.cond rfl (fun h19 => ?_) (fun h19 => ?_)
 ·have h19p : t.name ≠ [] := by simpa using h19
  refine jN 8 ?_
  refine WQ.ret (rs := [.tmp 2]) rfl (.tmp rfl .nil) (fun w hS => ⟨?_,hS.drop⟩)
  refine congrArg (fun b => Ending.returned (Value.bool b)) ?_
  unfold Fm.oneB
  first | (simp_all; done) | (simp_all; rw [Bool.eq_iff_iff]; simp; done) | (simp_all; rw [Bool.eq_iff_iff]; simp; omega) | (rw [Bool.eq_iff_iff]; simp_all; omega)
 have h19p : t.name = [] := by simpa using h19
 refine jN 21 ?_
 refine WC.splitB (i := 22) rfl (fun h22 => ?_) (fun h22 => ?_)
 ·refine jN 17 ?_
  refine WQ.ret (rs := [.tmp 2]) rfl (.tmp rfl .nil) (fun w hS => ⟨?_,hS.drop⟩)
  refine congrArg (fun b => Ending.returned (Value.bool b)) ?_
  unfold Fm.oneB
  first | (simp_all; done) | (simp_all; rw [Bool.eq_iff_iff]; simp; done) | (simp_all; rw [Bool.eq_iff_iff]; simp; omega) | (rw [Bool.eq_iff_iff]; simp_all; omega)
 refine jN 8 ?_
 refine WC.splitB (i := 22) rfl (fun h22 => ?_) (fun h22 => ?_)
 ·refine jN 14 ?_
  refine WQ.ret (rs := [.tmp 2]) rfl (.tmp rfl .nil) (fun w hS => ⟨?_,hS.drop⟩)
  refine congrArg (fun b => Ending.returned (Value.bool b)) ?_
  unfold Fm.oneB
  first | (simp_all; done) | (simp_all; rw [Bool.eq_iff_iff]; simp; done) | (simp_all; rw [Bool.eq_iff_iff]; simp; omega) | (rw [Bool.eq_iff_iff]; simp_all; omega)
 refine jN 9 ?_
 refine WC.cond rfl (fun h27 => ?_) (fun h27 => ?_)
 ·refine jN 13 ?_
  refine WQ.ret (rs := [.tmp 2]) rfl (.tmp rfl .nil) (fun w hS => ⟨?_,hS.drop⟩)
  refine congrArg (fun b => Ending.returned (Value.bool b)) ?_
  unfold Fm.oneB
  first | (simp_all; done) | (simp_all; rw [Bool.eq_iff_iff]; simp; done) | (simp_all; rw [Bool.eq_iff_iff]; simp; omega) | (rw [Bool.eq_iff_iff]; simp_all; omega)
 refine jN 9 ?_
 refine WC.splitB (i := 31) rfl (fun h31 => ?_) (fun h31 => ?_)
 ·refine jN 17 ?_
  refine WQ.ret (rs := [.tmp 2]) rfl (.tmp rfl .nil) (fun w hS => ⟨?_,hS.drop⟩)
  refine congrArg (fun b => Ending.returned (Value.bool b)) ?_
  unfold Fm.oneB
  first | (simp_all; done) | (simp_all; rw [Bool.eq_iff_iff]; simp; done) | (simp_all; rw [Bool.eq_iff_iff]; simp; omega) | (rw [Bool.eq_iff_iff]; simp_all; omega)
 refine jN 9 ?_
 refine WC.splitB (i := 31) rfl (fun h31 => ?_) (fun h31 => ?_)
 ·refine jN 17 ?_
  refine WQ.ret (rs := [.tmp 2]) rfl (.tmp rfl .nil) (fun w hS => ⟨?_,hS.drop⟩)
  refine congrArg (fun b => Ending.returned (Value.bool b)) ?_
  unfold Fm.oneB
  first | (simp_all; done) | (simp_all; rw [Bool.eq_iff_iff]; simp; done) | (simp_all; rw [Bool.eq_iff_iff]; simp; omega) | (rw [Bool.eq_iff_iff]; simp_all; omega)
 refine jN 8 ?_
 refine WC.splitB (i := 31) rfl (fun h31 => ?_) (fun h31 => ?_)
 ·refine jN 14 ?_
  refine WQ.ret (rs := [.tmp 2]) rfl (.tmp rfl .nil) (fun w hS => ⟨?_,hS.drop⟩)
  refine congrArg (fun b => Ending.returned (Value.bool b)) ?_
  unfold Fm.oneB
  first | (simp_all; done) | (simp_all; rw [Bool.eq_iff_iff]; simp; done) | (simp_all; rw [Bool.eq_iff_iff]; simp; omega) | (rw [Bool.eq_iff_iff]; simp_all; omega)
 refine jN 10 ?_
 refine WC.splitB (i := 37) rfl (fun h37 => ?_) (fun h37 => ?_)
 ·refine jN 17 ?_
  refine WQ.ret (rs := [.tmp 2]) rfl (.tmp rfl .nil) (fun w hS => ⟨?_,hS.drop⟩)
  refine congrArg (fun b => Ending.returned (Value.bool b)) ?_
  unfold Fm.oneB
  first | (simp_all; done) | (simp_all; rw [Bool.eq_iff_iff]; simp; done) | (simp_all; rw [Bool.eq_iff_iff]; simp; omega) | (rw [Bool.eq_iff_iff]; simp_all; omega)
 refine jN 8 ?_
 refine WC.splitB (i := 37) rfl (fun h37 => ?_) (fun h37 => ?_)
 ·refine jN 14 ?_
  refine WQ.ret (rs := [.tmp 2]) rfl (.tmp rfl .nil) (fun w hS => ⟨?_,hS.drop⟩)
  refine congrArg (fun b => Ending.returned (Value.bool b)) ?_
  unfold Fm.oneB
  first | (simp_all; done) | (simp_all; rw [Bool.eq_iff_iff]; simp; done) | (simp_all; rw [Bool.eq_iff_iff]; simp; omega) | (rw [Bool.eq_iff_iff]; simp_all; omega)
 refine jN 9 ?_
 refine WC.cond rfl (fun h42 => ?_) (fun h42 => ?_)
 refine jN 13 ?_
 rotate_left
 refine jN 10 ?_
 rotate_left
 all_goals
  refine WQ.ret (rs := [.tmp 2]) rfl (.tmp rfl .nil) (fun w hS => ⟨?_,hS.drop⟩)
  refine congrArg (fun b => Ending.returned (Value.bool b)) ?_
  unfold Fm.oneB
  first | (simp_all; done) | (simp_all; rw [Bool.eq_iff_iff]; simp; done) | (simp_all; rw [Bool.eq_iff_iff]; simp; omega) | (rw [Bool.eq_iff_iff]; simp_all; omega)
theorem rvalid_c (t : Tree) (wb : World) (G : List Nat) (a : Option Addr) (c : Nat) (w : World) (hsz : (Fm.rowT t).length ≤ 1099511627776) (hr : rdT wb t G (tv t a c)) (hE : Ext wb w) : Pure Tryz.prog 28 [tv t a c] w (.bool (Fm.refValid t)) := by
 refine enter Tryz.func28 rfl Tryz.ntmps28 rfl (St.init _) ?_
 refine jN 3 ?_
 refine WL.boxN rfl rfl (fun b1 => ?_)
 refine jN 9 ?_
 refine jC (β := { y : Option Addr × Nat × List Value // NodesOk wb (Fm.rowT t) y.2.2 }) (res := fun x => .slice x.1.1 (Fm.rowT t).length x.1.2.1) (cs := fun x => [rowc (.slice x.1.1 (Fm.rowT t).length x.1.2.1) (Fm.rowT t).length 24 3 (flat x.1.2.2)]) F.fun70 rfl (fun w hS _ => Row_c _ hsz t wb G a c w (Nat.le_refl _) hr (hE.st hS)) (fun y6 => ?_)
 obtain ⟨⟨ad,cap,vs⟩,hok⟩ := y6
 refine WA.know (φ := ∃ g,ad = some ⟨g,0,none⟩ ∧ (Fm.rowT t).length = (Fm.rowT t).length ∧ (Fm.rowT t).length ≤ cap) (fun w hS => rowc_addr (hS.ok (rowc (.slice ad (Fm.rowT t).length cap) (Fm.rowT t).length 24 3 (flat vs)) jM) (by rw [Fm.rowT_eq]; simp)) (fun ⟨g,hg,_,_⟩ => ?_)
 subst hg
 refine jN 12 ?_
 refine WC.loop (α := Nat) (fun i => i ≤ (Fm.rowT t).length ∧ ((Fm.rowT t).take i).all Fm.oneB = true) (fun i => [(1,pp b1),(3,.slice (some ⟨g,0,none⟩) (Fm.rowT t).length cap),(4,.int .i64 (i : Int))]) (fun _ => [rowc (.slice (some ⟨g,0,none⟩) (Fm.rowT t).length cap) (Fm.rowT t).length 24 3 (flat vs),pt b1 [Value.int .u8 t.op,.string (str t.name),.slice a t.kids.length c] 24]) (fun i => (Fm.rowT t).length - i) (0) ?_ ?_ ?_ ?_
 ·exact ⟨Nat.zero_le _,rfl⟩
 ·exact ⟨rfl,rfl,rfl,trivial⟩
 ·rfl
 rintro i ⟨hi,hal⟩
 refine jN 13 ?_
 refine WC.cond rfl (fun h10 => ?_) (fun h10 => ?_)
 ·have hlt : i < (Fm.rowT t).length := by simpa using h10
  obtain ⟨k,hk⟩ : ∃ k,(Fm.rowT t)[i]? = some k := ⟨_,List.getElem?_eq_getElem hlt⟩
  obtain ⟨F1,a1,c1,hv1,hrk⟩ := hok.at hk
  refine jN 11 ?_
  refine WL.indexAddr F.sl22 rfl rfl rfl hlt ?_
  refine jN 1 ?_
  refine WL.loadN F.agg24 rfl rfl (vs := [Value.int .u8 k.op,.string (str k.name),.slice a1 k.kids.length c1]) rfl (fun w hS j v hv => by rw [Nat.zero_add]; exact rowc_cells (hS.ok (rowc (.slice (some ⟨g,0,none⟩) (Fm.rowT t).length cap) (Fm.rowT t).length 24 3 (flat vs)) jM) (hok.flat_at hv1 j v hv)) ?_
  refine jN 1 ?_
  refine WL.callV F.fun71 rfl rfl (fun w _ => one_c k a1 c1 w) ?_
  refine jN 4 ?_
  refine WC.cond rfl (fun h18 => ?_) (fun h18 => ?_)
  ·refine jN 12 ?_
   refine WQ.ret (rs := [.tmp 2]) rfl (.tmp rfl .nil) (fun w hS => ⟨?_,hS.drop.drop⟩)
   have h9 : (Fm.rowT t).all Fm.oneB = false := by rw [List.all_eq_false]; exact ⟨k,List.mem_of_getElem? hk,by simpa using h18⟩
   simp [tup,Fm.refValid,h9]
  refine jN 11 ?_
  refine WQ.back (i + 1) ?_ ?_ ?_ ?_
  ·exact ⟨by omega,by rw [List.take_add_one,hk]; simp only [Option.toList,List.all_append,hal,List.all_cons,List.all_nil]; simpa using h18⟩
  ·omega
  ·exact ⟨rfl,rfl,rfl,trivial⟩
  rfl
 have hie : i = (Fm.rowT t).length := by simp at h10; omega
 subst hie
 rw [List.take_length] at hal
 refine jN 15 ?_
 refine WA.splitB (i := 22) rfl (fun h22 => ?_) (fun h22 => ?_)
 have hl : (Fm.rowT t).length ≤ 1000 := by simp at h22; omega
 refine jN 5 ?_
 refine WL.callV F.fun72 rfl rfl (fun w hS => Lev_c _ hsz t wb G a c w (Nat.le_refl _) hr (hE.st hS)) ?_
 refine jN 10 ?_
 rotate_left
 have hl : ¬ (Fm.rowT t).length ≤ 1000 := by simp at h22; omega
 refine jN 13 ?_
 rotate_left
 all_goals
  refine WQ.ret (rs := [.tmp 2]) rfl (.tmp rfl .nil) (fun w hS => ⟨?_,hS.drop.drop⟩)
  first | (simp [tup,Fm.refValid,hal,hl]; omega) | (simp [tup,Fm.refValid,hal,hl]; done)
def SameC (f n : Nat) : Prop := ∀ (x y : Tree) (wb : World) (G H : List Nat) (a a2 : Option Addr) (c c2 : Nat) (w : World),(Fm.rowT x).length ≤ n → rdT wb x G (tv x a c) → rdT wb y H (tv y a2 c2) → Ext wb w → Pure Tryz.prog f [tv x a c,tv y a2 c2] w (.bool (Fm.sameT x y))
theorem rSame_step (n : Nat) (hn : n ≤ 1099511627776) (hrec : SameC 26 n) : SameC 26 (n + 1) := by
 intro x y wb G H a a2 c c2 w hsz hr hr2 hE
 refine enter Tryz.func26 rfl Tryz.ntmps26 rfl (St.init _) ?_
 refine jN 3 ?_
 refine WL.boxN rfl rfl (fun b2 => ?_)
 refine jN 1 ?_
 refine WL.boxN rfl rfl (fun b3 => ?_)
 refine jN 6 ?_
 refine WC.cutF [(26,.bool (!(x.op == y.op) || !(x.name == y.name) || !((x.kids.length : Int) == y.kids.length))),(2,pp b2),(3,pp b3)] (fun Q' hQ => ?_) ?_
 ·refine jN 13 ?_
  refine WA.splitB (i := 11) rfl (fun g11 => ?_) (fun g11 => ?_)
  ·refine jN 31 ?_
   refine WQ.byCut hQ (subF_bool ?_ ⟨rfl,rfl,trivial⟩ rfl)
   simp_all [bne]
  refine jN 19 ?_
  refine WA.splitB (i := 18) rfl (fun g18 => ?_) (fun g18 => ?_)
  ·refine jN 17 ?_
   refine WQ.byCut hQ (subF_bool ?_ ⟨rfl,rfl,trivial⟩ rfl)
   simp_all [bne]
  refine jN 24 ?_
  refine WQ.byCut hQ (subF_bool ?_ ⟨rfl,rfl,trivial⟩ rfl)
  simp_all [bne]
 refine jN 1 ?_
 refine WC.cond rfl (fun h26 => ?_) (fun h26 => ?_)
 ·have hne : Fm.sameT x y = false := by
   rw [Fm.sameT_mk]
   by_cases h1 : x.op = y.op
   ·by_cases h2 : x.name = y.name
    ·rw [Fm.sameL_len (by intro h3; simp [h1,h2,h3] at h26)]; simp
    ·simp [h2]
   ·simp [h1]
  refine jN 8 ?_
  exact WQ.ret (rs := [.tmp 4]) rfl (.tmp rfl .nil) (fun w hS => ⟨by rw [hne]; rfl,hS.drop.drop⟩)
 have hop : x.op = y.op := by simp at h26; omega
 have hnm : x.name = y.name := by simp at h26; exact h26.1.2
 have hln : x.kids.length = y.kids.length := by simp at h26; omega
 have hkl := Fm.kids_le x
 have hsm : Fm.sameT x y = Fm.sameL x.kids y.kids := by rw [Fm.sameT_mk]; simp [hop,hnm]
 refine jN 10 ?_
 refine WC.loop (α := Nat) (fun i => i ≤ x.kids.length ∧ Fm.sameL (x.kids.drop i) (y.kids.drop i) = Fm.sameL x.kids y.kids) (fun i => [(2,pp b2),(3,pp b3),(5,.int .i64 (i : Int))]) (fun _ => [pt b3 [Value.int .u8 y.op,.string (str y.name),.slice a2 y.kids.length c2] 24,pt b2 [Value.int .u8 x.op,.string (str x.name),.slice a x.kids.length c] 24]) (fun i => x.kids.length - i) (0) ?_ ?_ ?_ ?_
 ·exact ⟨Nat.zero_le _,rfl⟩
 ·exact ⟨rfl,rfl,rfl,trivial⟩
 ·rfl
 rintro i ⟨hi,hsl⟩
 refine jN 15 ?_
 refine WC.cond rfl (fun h31 => ?_) (fun h31 => ?_)
 ·have hlt : i < x.kids.length := by simpa using h31
  have hlt2 : i < y.kids.length := by omega
  obtain ⟨k,hk⟩ : ∃ k,x.kids[i]? = some k := ⟨_,List.getElem?_eq_getElem hlt⟩
  obtain ⟨l,hl⟩ : ∃ k,y.kids[i]? = some k := ⟨_,List.getElem?_eq_getElem hlt2⟩
  obtain ⟨b,off,F1,a1,c1,rfl,hb,hF1,hrk,hck⟩ := rdT_at hr hk
  obtain ⟨e,eoff,F3,a3,c3,rfl,hb3,hF3,hrl,hcl⟩ := rdT_at hr2 hl
  have hks := Fm.rowT_kid hk
  refine jN 5 ?_
  refine WC.drawsL (by kernel_rfl) (FactsOk.cons (ds := [10]) (LoadOk.one (t := 2) (off := 2) rfl jM rfl) (FactsOk.cons (ds := [10]) (LoadOk.by (Y := fun w => ∀ j v,[Value.int .u8 k.op,.string (str k.name),.slice a1 k.kids.length c1][j]? = some v → w.cell? ⟨b,off + i * 3 + j,none⟩ = some v) (fun w hS => fun j v hv => (hE.st hS).cell (hck j v hv))) (FactsOk.cons (ds := [10]) (LoadOk.one (t := 3) (off := 2) rfl jM rfl) (FactsOk.cons (ds := [10]) (LoadOk.by (Y := fun w => ∀ j v,[Value.int .u8 l.op,.string (str l.name),.slice a3 l.kids.length c3][j]? = some v → w.cell? ⟨e,eoff + i * 3 + j,none⟩ = some v) (fun w hS => fun j v hv => (hE.st hS).cell (hcl j v hv))) (FactsOk.nil))))) ?_
  refine jT 0 rfl (Yl.fieldAddr0 F.fld24_2 rfl) ?_
  refine jF 1 0 rfl rfl (Yl.load1 F.one22 rfl) ?_
  refine jT 2 rfl (Yl.move rfl) ?_
  refine jT 3 rfl (Yl.indexAddr F.sl22 rfl rfl hlt) ?_
  refine jF 4 1 rfl rfl (Yl.loadN F.agg24 rfl rfl) ?_
  refine jT 5 rfl (Yl.fieldAddr0 F.fld24_2 rfl) ?_
  refine jF 6 2 rfl rfl (Yl.load1 F.one22 rfl) ?_
  refine jT 7 rfl (Yl.move rfl) ?_
  refine jT 8 rfl (Yl.indexAddr F.sl22 rfl rfl hlt2) ?_
  refine jF 9 3 rfl rfl (Yl.loadN F.agg24 rfl rfl) ?_
  refine jA 10 rfl ?_
  refine WL.callV F.fun26 rfl rfl (fun w hS => hrec k l wb F1 F3 a1 a3 c1 c3 w (by omega) hrk hrl (hE.st hS)) ?_
  refine jG ?_
  refine jT 11 rfl (Yl.not rfl) ?_
  refine jD ?_
  refine jN 1 ?_
  refine WC.cond rfl (fun h45 => ?_) (fun h45 => ?_)
  ·have hne : Fm.sameT x y = false := by
    rw [hsm,← hsl,Fm.sameL_drop hk hl,show Fm.sameT k l = false by simpa using h45]; rfl
   refine jN 12 ?_
   exact WQ.ret (rs := [.tmp 4]) rfl (.tmp rfl .nil) (fun w hS => ⟨by rw [hne]; rfl,hS.drop.drop⟩)
  refine jN 11 ?_
  refine WQ.back (i + 1) ?_ ?_ ?_ ?_
  ·exact ⟨by omega,by rw [Fm.sameL_drop hk hl,show Fm.sameT k l = true by simpa using h45,Bool.true_and] at hsl; exact hsl⟩
  ·omega
  ·exact ⟨rfl,rfl,rfl,trivial⟩
  rfl
 have hie : i = x.kids.length := by simp at h31; omega
 subst hie
 have hst : Fm.sameT x y = true := by rw [hsm,← hsl,List.drop_length,hln,List.drop_length]; rfl
 refine jN 12 ?_
 exact WQ.ret (rs := [.tmp 4]) rfl (.tmp rfl .nil) (fun w hS => ⟨by rw [hst]; rfl,hS.drop.drop⟩)
theorem rSame_c : ∀ n,n ≤ 1099511627776 → SameC 26 n
 | 0,_ => fun x y wb G H a a2 c c2 w hsz _ _ _ => by rw [Fm.rowT_eq] at hsz; simp at hsz
 | n + 1,h => rSame_step n (by omega) (rSame_c n (by omega))
def CntC (lv : Nat) : Prop := ∀ (t : Tree) (left : Int) (wb : World) (G : List Nat) (a : Option Addr) (c : Nat) (w : World),-1 ≤ left → left ≤ 1200 → rdT wb t G (tv t a c) → Ext wb w → Pure Tryz.prog 83 [tv t a c,.int .i64 (lv : Int),.int .i64 left] w (.int .i64 (Fm.cntT lv left t))
theorem count_step (lv : Nat) (hlv : lv ≤ 1000) (hrec : 0 < lv → CntC (lv - 1)) : CntC lv := by
 intro t left wb G a c w hl0 hl1 hr hE
 refine enter Tryz.func83 rfl Tryz.ntmps83 rfl (St.init _) ?_
 refine jN 3 ?_
 refine WL.boxN rfl rfl (fun b3 => ?_)
 refine jN 16 ?_
 refine WC.cutF [(21,.bool (decide (lv = 0) || decide (left - 1 < 0) || decide (100 < t.name.length))),(1,.int .i64 (lv : Int)),(2,.int .i64 (left - 1)),(3,pp b3)] (fun Q' hQ => ?_) ?_
 ·refine jN 7 ?_
  refine WA.splitB (i := 12) rfl (fun g12 => ?_) (fun g12 => ?_)
  ·refine jN 19 ?_
   refine WQ.byCut hQ (subF_bool ?_ ⟨rfl,rfl,rfl,trivial⟩ rfl)
   have e0 : ((lv : Int) == 0) = decide (lv = 0) := by rw [Bool.eq_iff_iff]; simp
   have e1 : decide ((100 : Int) < (t.name.length : Int)) = decide (100 < t.name.length) := by rw [Bool.eq_iff_iff]; simp; omega
   first | (simp_all; done) | (simp_all; omega)
  refine jN 10 ?_
  refine WA.splitB (i := 16) rfl (fun g16 => ?_) (fun g16 => ?_)
  refine jN 11 ?_
  rotate_left
  refine jN 15 ?_
  rotate_left
  all_goals
   refine WQ.byCut hQ (subF_bool ?_ ⟨rfl,rfl,rfl,trivial⟩ rfl)
   have e0 : ((lv : Int) == 0) = decide (lv = 0) := by rw [Bool.eq_iff_iff]; simp
   have e1 : decide ((100 : Int) < (t.name.length : Int)) = decide (100 < t.name.length) := by rw [Bool.eq_iff_iff]; simp; omega
   first | (simp_all; done) | (simp_all; omega)
 refine jN 1 ?_
 refine WC.cond rfl (fun h21 => ?_) (fun h21 => ?_)
 ·have hc : Fm.cntT lv left t = -1 := by rw [Fm.cntT_mk,if_pos]; simpa [or_assoc] using h21
  refine jN 8 ?_
  exact WQ.ret (rs := [.tmp 6]) rfl (.tmp rfl .nil) (fun w hS => ⟨by rw [hc]; rfl,hS.drop⟩)
 have hcn : ¬ (lv = 0 ∨ left - 1 < 0 ∨ 100 < t.name.length) := by intro h0; have h9 : (decide (lv = 0) || decide (left - 1 < 0) || decide (100 < t.name.length)) = true := (by simpa [or_assoc] using h0); rw [h9] at h21; cases h21
 have hc : Fm.cntT lv left t = (Fm.cntL (lv - 1) (left - 1) t.kids) := by rw [Fm.cntT_mk,if_neg hcn]
 simp only [not_or] at hcn
 refine jN 10 ?_
 refine WC.loop (α := Nat × Int) (fun g => g.1 ≤ t.kids.length ∧ -1 ≤ g.2 ∧ (g.1 : Int) + g.2 ≤ 1200 ∧ Fm.cntL (lv - 1) g.2 (t.kids.drop g.1) = (Fm.cntL (lv - 1) (left - 1) t.kids)) (fun g => [(1,.int .i64 (lv : Int)),(2,.int .i64 g.2),(3,pp b3),(7,.int .i64 (g.1 : Int))]) (fun _ => [pt b3 [Value.int .u8 t.op,.string (str t.name),.slice a t.kids.length c] 24]) (fun g => t.kids.length - g.1) ((0,left - 1)) ?_ ?_ ?_ ?_
 ·exact ⟨Nat.zero_le _,by dsimp only; omega,by dsimp only; omega,rfl⟩
 ·exact ⟨rfl,rfl,rfl,rfl,trivial⟩
 ·rfl
 rintro ⟨i,l⟩ ⟨hi,hl2,hl3,hcl⟩
 dsimp only at hi hl2 hl3 hcl
 show WC _ _ _ _ _ _ _ [(1,.int .i64 (lv : Int)),(2,.int .i64 l),(3,pp b3),(7,.int .i64 (i : Int))] [pt b3 [Value.int .u8 t.op,.string (str t.name),.slice a t.kids.length c] 24]
 refine jN 15 ?_
 refine WA.splitB (i := 27) rfl (fun h27 => ?_) (fun h27 => ?_)
 ·have hlt : i < t.kids.length := by simpa using h27
  refine jN 10 ?_
  refine WC.cond rfl (fun h30 => ?_) (fun h30 => ?_)
  ·have hl4 : 0 ≤ l := by simpa using h30
   obtain ⟨k,hk⟩ : ∃ k,t.kids[i]? = some k := ⟨_,List.getElem?_eq_getElem hlt⟩
   obtain ⟨b,off,F1,a1,c1,rfl,hb,hF1,hrk,hck⟩ := rdT_at hr hk
   have hkb := Fm.cntT_le (lv - 1) l k hl4
   refine jN 12 ?_
   refine WL.indexAddr F.sl22 rfl rfl rfl hlt ?_
   refine jN 1 ?_
   refine WL.loadN F.agg24 rfl rfl (vs := [Value.int .u8 k.op,.string (str k.name),.slice a1 k.kids.length c1]) rfl (fun w hS j v hv => (hE.st hS).cell (hck j v hv)) ?_
   refine jN 4 ?_
   refine WA.say 39 (.int .i64 ((lv - 1 : Nat) : Int)) (congrArg (fun z => some (Value.int .i64 z)) (show (lv : Int) - 1 = ((lv - 1 : Nat) : Int) by omega)) ?_
   refine jN 3 ?_
   refine WL.callV F.fun83 rfl rfl (fun w hS => hrec (by omega) k l wb F1 a1 c1 w (by omega) (by omega) hrk (hE.st hS)) ?_
   refine jN 13 ?_
   refine WQ.back ((i + 1,Fm.cntT (lv - 1) l k)) ?_ ?_ ?_ ?_
   ·exact ⟨by show i + 1 ≤ _; omega,hkb.2,by show ((i + 1 : Nat) : Int) + Fm.cntT (lv - 1) l k ≤ 1200; omega,by rw [← hcl,Fm.cntL_drop hk (by omega)]⟩
   ·(show t.kids.length - (i + 1) < t.kids.length - i; omega)
   ·exact ⟨rfl,rfl,rfl,rfl,trivial⟩
   rfl
  have hl5 : l = (Fm.cntL (lv - 1) (left - 1) t.kids) := by rw [← hcl]; exact (Fm.cntL_stop (by simp at h30; omega)).symm
  refine jN 14 ?_
  exact WQ.ret (rs := [.tmp 6]) rfl (.tmp rfl .nil) (fun w hS => ⟨by rw [hc,← hl5]; rfl,hS.drop⟩)
 have hie : i = t.kids.length := by simp at h27; omega
 have hl5 : l = (Fm.cntL (lv - 1) (left - 1) t.kids) := by rw [← hcl,hie,List.drop_length]; rfl
 refine jN 23 ?_
 exact WQ.ret (rs := [.tmp 6]) rfl (.tmp rfl .nil) (fun w hS => ⟨by rw [hc,← hl5]; rfl,hS.drop⟩)
theorem count_c : ∀ lv,lv ≤ 1000 → CntC lv
 | 0,h => count_step 0 h (fun h0 => absurd h0 (by decide))
 | lv + 1,h => count_step (lv + 1) h (fun _ => count_c lv (by omega))
theorem great_c (t : Tree) (lv : Nat) (hlv : lv ≤ 1000) (wb : World) (G : List Nat) (a : Option Addr) (c : Nat) (w : World) (hr : rdT wb t G (tv t a c)) (hE : Ext wb w) : Pure Tryz.prog 37 [tv t a c,.int .i64 (lv : Int)] w (.bool (Fm.greatB t lv)) := by
 refine enter Tryz.func37 rfl Tryz.ntmps37 rfl (St.init _) ?_
 refine jN 3 ?_
 refine WL.boxN rfl rfl (fun b2 => ?_)
 refine jN 11 ?_
 refine WL.callV F.fun83 rfl rfl (fun w hS => count_c lv hlv t 1200 wb G a c w (by omega) (by omega) hr (hE.st hS)) ?_
 refine jN 7 ?_
 exact WQ.ret (rs := [.tmp 4]) rfl (.tmp rfl .nil) (fun w hS => ⟨rfl,hS.drop⟩)
end Go.Proofs.YtkgllhkhdjodeaaGreat
namespace Dg
open Go.Eng
def opV (names : List (List UInt8)) (op : Int) (nm : List UInt8) (bs : List Bool) (cf : Cf) : Bool :=
 if op = 2 then true
 else if op = 3 then cf (idxS names nm).toNat
 else if op = 4 then !(bs.getD 0 false)
 else if op = 5 then bs.all id
 else if op = 6 then bs.any id
 else if op = 7 then bs.foldl (fun x y => x != y) false
 else if op = 8 then !(bs.getD 0 false) || bs.getD 1 false
 else if op = 9 then !(bs.getD 0 false != bs.getD 1 false)
 else if op = 10 then bif bs.getD 0 false then bs.getD 1 false else bs.getD 2 false
 else false
mutual
def evT (names : List (List UInt8)) : Tree → Cf → Bool
 | .mk op nm kids,cf => opV names op nm (evL names kids cf) cf
def evL (names : List (List UInt8)) : List Tree → Cf → List Bool
 | [],_ => []
 | t :: ts,cf => evT names t cf :: evL names ts cf
end
end Dg
namespace Go.Proofs.YtkgllhkhdjodeaaGreat
open Go Go.Eng Go.Proofs Dg
end Go.Proofs.YtkgllhkhdjodeaaGreat
namespace Dg
def cntB (bs : List Bool) : Nat := bs.count true
theorem cntB_snoc (bs : List Bool) (b : Bool) : cntB (bs ++ [b]) = cntB bs + (if b then 1 else 0) := by
 unfold cntB; rw [List.count_append]; cases b <;> simp
theorem cntB_le (bs : List Bool) : cntB bs ≤ bs.length := List.count_le_length
theorem cnt_all : ∀ bs : List Bool,(cntB bs = bs.length) ↔ bs.all id = true
 | [] => by simp [cntB]
 | b :: bs => by
  have ih := cnt_all bs
  have hl := cntB_le bs
  unfold cntB at ih hl ⊢
  cases b with
  | true => simpa using ih
  | false => simp; omega
theorem cnt_any : ∀ bs : List Bool,(0 < cntB bs) ↔ bs.any id = true
 | [] => by simp [cntB]
 | b :: bs => by
  have ih := cnt_any bs
  unfold cntB at ih ⊢
  cases b with
  | true => simp
  | false => simp
theorem rem_bit (M m : Nat) : (((M >>> m % 2 : Nat) : Int) == 1) = M.testBit m := by
 rw [Nat.testBit_eq_decide_div_mod_eq,← Nat.shiftRight_eq_div_pow]
 by_cases h : M >>> m % 2 = 1
 ·rw [decide_eq_true h,beq_iff_eq]; omega
 rw [decide_eq_false h,beq_eq_false_iff_ne]; omega
end Dg
namespace Go.Proofs.YtkgllhkhdjodeaaGreat
open Go Go.Eng Go.Proofs Dg
theorem run_rem2I {n : Nat} (t : TypeId) (x y : Operand) (w : World) : (do eqGuard .rem t x y (.int .i64 (n : Int)) (.int .i64 2); binOp .rem t (.int .i64 (n : Int)) (.int .i64 2) : Sem Value).run Tryz.prog w = .ok (.int .i64 ((n % 2 : Nat) : Int)) w := by
 have h1 : (n : Int).tmod 2 = ((n % 2 : Nat) : Int) := by
  rw [Int.tmod_eq_emod_of_nonneg (Int.natCast_nonneg _)]; simp
 simp [eqGuard,binOp,Op.intDiv,h1]
abbrev bls (bs : List Bool) : List Value := bs.map Value.bool
theorem bls_at {bs : List Bool} {i : Nat} {b : Bool} (h : bs[i]? = some b) : (bls bs)[i]? = some (.bool b) := by
 rw [List.getElem?_map,h]; rfl
theorem retB {b b' : Bool} (h : b = b') : Ending.returned (tup [Value.bool b]) = .returned (.bool b') := by subst h; rfl
theorem conv61 {n : Nat} (hn : n < 9223372036854775808) (w : World) : (convert 3 61 (.int .i64 (n : Int))).run Tryz.prog w = .ok (.int .u64 (n : Int)) w := conv39 hn w
open Go Go.Eng Go.Proofs
def usedStep (acc : List (List UInt8)) (t : Tree) : List (List UInt8) := if t.op == 3 && !acc.contains t.name then acc ++ [t.name] else acc
def usedF (ts : List Tree) : List (List UInt8) := ts.foldl usedStep []
theorem usedStep_len (acc : List (List UInt8)) (t : Tree) : (usedStep acc t).length ≤ acc.length + 1 := by
 unfold usedStep; split
 ·simp
 omega
theorem used_len : ∀ (ts : List Tree) (acc : List (List UInt8)),(ts.foldl usedStep acc).length ≤ acc.length + ts.length
 | [],acc => Nat.le_refl _
 | t :: ts,acc => by
  have h1 := used_len ts (usedStep acc t)
  have h2 := usedStep_len acc t
  simp only [List.foldl_cons,List.length_cons]
  omega
theorem used_take {ts : List Tree} {i : Nat} {k : Tree} {acc : List (List UInt8)} (hk : ts[i]? = some k) : (ts.take (i + 1)).foldl usedStep acc = usedStep ((ts.take i).foldl usedStep acc) k := by
 rw [List.take_add_one,hk,List.foldl_append]; rfl
structure US where
 i : Nat
 out : List (List UInt8)
 ad2 : Option Addr
 ac2 : Nat
theorem Used_c (t : Tree) (wb : World) (G : List Nat) (a : Option Addr) (c : Nat) (w : World) (hsz : (Fm.rowT t).length ≤ 1099511627776) (hr : rdT wb t G (tv t a c)) (hE : Ext wb w) :
  Calls Tryz.prog 38 [tv t a c].toArray w fun e w' => ∃ x : Option Addr × Nat,e = .returned (.slice x.1 (usedF (Fm.rowT t)).length x.2) ∧ St w [] [rowc (.slice x.1 (usedF (Fm.rowT t)).length x.2) (usedF (Fm.rowT t)).length 9 1 (strs (usedF (Fm.rowT t)))] w' := by
 refine enter Tryz.func38 rfl Tryz.ntmps38 rfl (St.init _) ?_
 refine jN 3 ?_
 refine WL.boxN rfl rfl (fun b1 => ?_)
 refine jN 9 ?_
 refine jC (β := { y : Option Addr × Nat × List Value // NodesOk wb (Fm.rowT t) y.2.2 }) (res := fun x => .slice x.1.1 (Fm.rowT t).length x.1.2.1) (cs := fun x => [rowc (.slice x.1.1 (Fm.rowT t).length x.1.2.1) (Fm.rowT t).length 24 3 (flat x.1.2.2)]) F.fun70 rfl (fun w hS _ => Row_c _ hsz t wb G a c w (Nat.le_refl _) hr (hE.st hS)) (fun y6 => ?_)
 obtain ⟨⟨ad,cap,vs⟩,hok⟩ := y6
 refine WA.know (φ := ∃ g,ad = some ⟨g,0,none⟩ ∧ (Fm.rowT t).length = (Fm.rowT t).length ∧ (Fm.rowT t).length ≤ cap) (fun w hS => rowc_addr (hS.ok (rowc (.slice ad (Fm.rowT t).length cap) (Fm.rowT t).length 24 3 (flat vs)) jM) (by rw [Fm.rowT_eq]; simp)) (fun ⟨g,hg,_,_⟩ => ?_)
 subst hg
 refine jN 18 ?_
 refine WC.chunks (fun w hS => (hS.rowNil 9 1)) ?_
 refine WC.loop (α := US) (fun g => g.i ≤ (Fm.rowT t).length ∧ g.out = ((Fm.rowT t).take g.i).foldl usedStep []) (fun s => [(1,pp b1),(3,.slice (some ⟨g,0,none⟩) (Fm.rowT t).length cap),(4,.slice s.ad2 s.out.length s.ac2),(5,.int .i64 (s.i : Int))]) (fun s => [rowc (.slice s.ad2 s.out.length s.ac2) s.out.length 9 1 (strs s.out),rowc (.slice (some ⟨g,0,none⟩) (Fm.rowT t).length cap) (Fm.rowT t).length 24 3 (flat vs),pt b1 [Value.int .u8 t.op,.string (str t.name),.slice a t.kids.length c] 24]) (fun s => (Fm.rowT t).length - s.i) (⟨0,[],none,0⟩) ?_ ?_ ?_ ?_
 ·exact ⟨Nat.zero_le _,rfl⟩
 ·exact ⟨rfl,rfl,rfl,rfl,trivial⟩
 ·rfl
 rintro ⟨i,out,ad2,ac2⟩ ⟨hi,hout⟩
 dsimp only at hi hout
 show WC _ _ _ _ _ _ _ [(1,pp b1),(3,.slice (some ⟨g,0,none⟩) (Fm.rowT t).length cap),(4,.slice ad2 out.length ac2),(5,.int .i64 (i : Int))] [rowc (.slice ad2 out.length ac2) out.length 9 1 (strs out),rowc (.slice (some ⟨g,0,none⟩) (Fm.rowT t).length cap) (Fm.rowT t).length 24 3 (flat vs),pt b1 [Value.int .u8 t.op,.string (str t.name),.slice a t.kids.length c] 24]
 have hol : out.length ≤ i := by rw [hout]; exact Nat.le_trans (used_len _ _) (by simp; omega)
 refine jN 13 ?_
 refine WC.cond rfl (fun h11 => ?_) (fun h11 => ?_)
 ·have hlt : i < (Fm.rowT t).length := by simpa using h11
  obtain ⟨k,hk⟩ : ∃ k,(Fm.rowT t)[i]? = some k := ⟨_,List.getElem?_eq_getElem hlt⟩
  obtain ⟨F1,a1,c1,hv1,hrk⟩ := hok.at hk
  refine jN 5 ?_
  refine WC.cutF [(29,.bool (k.op == 3 && !out.contains k.name)),(1,pp b1),(3,.slice (some ⟨g,0,none⟩) (Fm.rowT t).length cap),(4,.slice ad2 out.length ac2),(5,.int .i64 (i : Int))] (fun Q' hQ => ?_) ?_
  ·refine jN 6 ?_
   refine WL.indexAddr F.sl22 rfl rfl rfl hlt ?_
   refine jN 1 ?_
   refine WL.fieldAddr F.fld24_0 rfl rfl ?_
   refine jN 1 ?_
   refine WL.load1 F.one5 rfl rfl (v := .int .u8 k.op) (fun w hS => by rw [Nat.zero_add]; exact rowc_cells (hS.ok (rowc (.slice (some ⟨g,0,none⟩) (Fm.rowT t).length cap) (Fm.rowT t).length 24 3 (flat vs)) jM) (hok.flat_at hv1 0 _ rfl)) ?_
   refine jN 4 ?_
   refine WA.splitB (i := 20) rfl (fun g20 => ?_) (fun g20 => ?_)
   refine jN 11 ?_
   refine WL.indexAddr F.sl22 rfl rfl rfl hlt ?_
   refine jN 2 ?_
   refine WL.fieldAddr F.fld24_1 rfl rfl ?_
   refine jN 2 ?_
   refine WL.load1 F.one9 rfl rfl (v := .string (str k.name)) (fun w hS => by rw [Nat.zero_add]; exact rowc_cells (hS.ok (rowc (.slice (some ⟨g,0,none⟩) (Fm.rowT t).length cap) (Fm.rowT t).length 24 3 (flat vs)) jM) (hok.flat_at hv1 1 _ rfl)) ?_
   refine jN 2 ?_
   refine jC (β := { r : Int // decide (r < 0) = !out.contains k.name }) (res := fun r => .int .i64 r.1) (cs := fun _ => []) F.fun47 rfl (fun w hS _ => Index_c out k.name ad2 ac2 (by omega) w (RdS.of_row rfl (hS.ok (rowc (.slice ad2 out.length ac2) out.length 9 1 (strs out)) jM))) (fun x27 => ?_)
   refine jN 6 ?_
   rotate_left
   refine jN 19 ?_
   rotate_left
   all_goals
    refine WQ.byCut hQ (subF_bool ?_ ⟨rfl,rfl,rfl,rfl,trivial⟩ rfl)
    first | (rw [g20,Bool.true_and]; exact x27.2.symm) | (rw [g20,Bool.false_and])
  refine jN 1 ?_
  refine WC.cond rfl (fun h29 => ?_) (fun h29 => ?_)
  ·refine jN 8 ?_
   refine WL.indexAddr F.sl22 rfl rfl rfl hlt ?_
   refine jN 1 ?_
   refine WL.fieldAddr F.fld24_1 rfl rfl ?_
   refine jN 1 ?_
   refine WL.load1 F.one9 rfl rfl (v := .string (str k.name)) (fun w hS => by rw [Nat.zero_add]; exact rowc_cells (hS.ok (rowc (.slice (some ⟨g,0,none⟩) (Fm.rowT t).length cap) (Fm.rowT t).length 24 3 (flat vs)) jM) (hok.flat_at hv1 1 _ rfl)) ?_
   refine jN 1 ?_
   refine WL.buildSlice F.sl25 F.ez25 rfl rfl rfl rfl jB rfl (fun b36 => ?_)
   refine jN 1 ?_
   refine WL.appendE (news := [.string (str k.name)]) F.el25 rfl rfl rfl jR (fun w hS jj u hu => by rw [Nat.zero_add]; exact hS.cell (cs := [.string (str k.name)]) jM hu) rfl jO (Nat.le_trans (m := 1099511627777) (by omega) (by decide)) (by omega) (fun ad4 ac4 => ?_)
   refine jN 13 ?_
   refine WQ.say 4 (.slice ad4 (out ++ [k.name]).length ac4) (by rw [List.length_append]; rfl) ?_
   refine WQ.chunks (C' := [rowc (.slice ad4 (out ++ [k.name]).length ac4) (out ++ [k.name]).length 9 1 (strs (out ++ [k.name])),rowc (.slice (some ⟨g,0,none⟩) (Fm.rowT t).length cap) (Fm.rowT t).length 24 3 (flat vs),pt b1 [Value.int .u8 t.op,.string (str t.name),.slice a t.kids.length c] 24]) (fun w hS => ?_) ?_
   ·have hol2 : (out ++ [k.name]).length = out.length + 1 := by simp
    rw [hol2,strs,List.map_append]
    exact (jK hS)
   refine WQ.back (⟨i + 1,out ++ [k.name],ad4,ac4⟩) ?_ ?_ ?_ ?_
   ·exact ⟨by show i + 1 ≤ _; omega,by show _ = ((Fm.rowT t).take (i + 1)).foldl usedStep []; rw [used_take hk,← hout]; unfold usedStep; rw [h29]; rfl⟩
   ·(show (Fm.rowT t).length - (i + 1) < (Fm.rowT t).length - i; omega)
   ·exact ⟨rfl,rfl,rfl,rfl,trivial⟩
   rfl
  refine jN 11 ?_
  refine WQ.back (⟨i + 1,out,ad2,ac2⟩) ?_ ?_ ?_ ?_
  ·exact ⟨by show i + 1 ≤ _; omega,by show _ = ((Fm.rowT t).take (i + 1)).foldl usedStep []; rw [used_take hk,← hout]; unfold usedStep; rw [h29]; rfl⟩
  ·(show (Fm.rowT t).length - (i + 1) < (Fm.rowT t).length - i; omega)
  ·exact ⟨rfl,rfl,rfl,rfl,trivial⟩
  rfl
 have hie : i = (Fm.rowT t).length := by simp at h11; omega
 subst hie
 rw [List.take_length] at hout
 refine jN 14 ?_
 exact WQ.ret (rs := [.tmp 2]) rfl (.tmp rfl .nil) (fun w hS => ⟨(ad2,ac2),by rw [show usedF (Fm.rowT t) = out from hout.symm]; rfl,by rw [show usedF (Fm.rowT t) = out from hout.symm]; exact (jK hS)⟩)
open Go Go.Eng Go.Proofs Dg
def knownB (t : Tree) (names : List (List UInt8)) : Bool := (usedF (Fm.rowT t)).all (fun s => names.contains s)
open Go Go.Eng Go.Proofs
open Go Go.Eng Go.Proofs Dg
def fewB (t : Tree) (names : List (List UInt8)) (n : Nat) : Bool := !(Fm.greatB t 100 || (decide ((30 : Int) < (names.length : Int)) || decide ((n : Int) < ((usedF (Fm.rowT t)).length : Int)))) && names.all (fun s => decide (s.length ≤ 100))
theorem few_c (t : Tree) (names : List (List UInt8)) (n : Nat) (wb : World) (G : List Nat) (a : Option Addr) (c : Nat) (na : Option Addr) (nc : Nat) (w : World) (hr : rdT wb t G (tv t a c)) (hE : Ext wb w) (hnr : RdS w names na) :
    Pure Tryz.prog 8 [tv t a c,.slice na names.length nc,.int .i64 (n : Int)] w (.bool (fewB t names n)) := by
  refine enter Tryz.func8 rfl Tryz.ntmps8 rfl (St.init _) ?_
  refine WC.seq ?_
  refine WC.region ?_
  refine WL.step ?_
  refine WL.boxN rfl rfl (fun b3 => ?_)
  refine WL.step ?_
  refine WL.assign rfl rfl ?_
  refine WL.nil ?_
  refine WQ.then_normal ?_
  refine WC.seq ?_
  refine WC.seq ?_
  refine WC.cutF [(21,.bool (Fm.greatB t 100 || (decide ((30 : Int) < (names.length : Int)) || decide ((n : Int) < ((usedF (Fm.rowT t)).length : Int))))),(1,.slice na names.length nc)] (fun Q' hQ => ?_) ?_
  ·skip
   refine WC.region ?_
   refine WL.step ?_
   refine WL.loadW F.agg24 rfl rfl (by repeat (first | exact List.Mem.head _ | apply List.Mem.tail)) rfl ?_
   refine WL.step ?_
   refine WL.callV F.fun37 rfl rfl (fun w hS => great_c t 100 (by omega) wb G a c w hr (hE.st hS)) ?_
   refine WL.step ?_
   refine WL.move rfl rfl ?_
   refine WA.splitB (i := 10) rfl (fun g10 => ?_) (fun g10 => ?_)
   ·skip
    refine WL.step (WL.guardF rfl rfl rfl rfl rfl rfl ?_)
    refine WL.step (WL.guardF rfl rfl rfl rfl rfl rfl ?_)
    refine WL.step (WL.guardF rfl rfl rfl rfl rfl rfl ?_)
    refine WL.step ?_
    refine WL.pickT rfl rfl rfl ?_
    refine WL.step ?_
    refine WL.move rfl rfl ?_
    refine WL.step (WL.guardF rfl rfl rfl rfl rfl rfl ?_)
    refine WL.step (WL.guardF rfl rfl rfl rfl rfl rfl ?_)
    refine WL.step (WL.guardF rfl rfl rfl rfl rfl rfl ?_)
    refine WL.step (WL.guardF rfl rfl rfl rfl rfl rfl ?_)
    refine WL.step (WL.guardF rfl rfl rfl rfl rfl rfl ?_)
    refine WL.step ?_
    refine WL.pickT rfl rfl rfl ?_
    refine WL.nil ?_
    refine WQ.chunks (C' := [pt b3 [Value.int .u8 t.op,.string (str t.name),.slice a t.kids.length c] 24]) (fun w hS => ((St.pick hS (c := pt b3 [Value.int .u8 t.op,.string (str t.name),.slice a t.kids.length c] 24) (by repeat (first | exact Rem.here | apply Rem.there)))).sublist (List.Sublist.cons_cons _ (List.nil_sublist _))) ?_
    refine WQ.byCut hQ (subF_bool ?_ ⟨rfl,trivial⟩ rfl)
    first | (simp [g10]; done) | (simp [g10,g15]; done)
   skip
   refine WL.step (WL.guardT rfl rfl rfl ?_)
   refine WL.move rfl rfl ?_
   refine WL.step (WL.guardT rfl rfl rfl ?_)
   refine WL.lenSl F.und25 rfl rfl ?_
   refine WL.step (WL.guardT rfl rfl rfl ?_)
   refine WL.gtI rfl rfl rfl ?_
   refine WL.step ?_
   refine WL.pickF rfl rfl rfl ?_
   refine WL.step ?_
   refine WL.move rfl rfl ?_
   refine WA.splitB (i := 15) rfl (fun g15 => ?_) (fun g15 => ?_)
   skip
   refine WL.step (WL.guardF rfl rfl rfl rfl rfl rfl ?_)
   refine WL.step (WL.guardF rfl rfl rfl rfl rfl rfl ?_)
   refine WL.step (WL.guardF rfl rfl rfl rfl rfl rfl ?_)
   refine WL.step (WL.guardF rfl rfl rfl rfl rfl rfl ?_)
   refine WL.step (WL.guardF rfl rfl rfl rfl rfl rfl ?_)
   refine WL.step ?_
   refine WL.pickT rfl rfl rfl ?_
   rotate_left
   skip
   refine WL.step (WL.guardT rfl rfl rfl ?_)
   refine WL.loadW F.agg24 rfl rfl (by repeat (first | exact List.Mem.head _ | apply List.Mem.tail)) rfl ?_
   refine WL.step (WL.guardT rfl rfl rfl ?_)
   refine WL.callC (β := Option Addr × Nat) (res := fun y => .slice y.1 (usedF (Fm.rowT t)).length y.2) (cs := fun y => [rowc (.slice y.1 (usedF (Fm.rowT t)).length y.2) (usedF (Fm.rowT t)).length 9 1 (strs (usedF (Fm.rowT t)))]) (Cs := []) (O' := []) F.fun38 (fun d h => by cases h; rfl) rfl (List.Perm.refl _) (by simp) (by simp) (fun w hS _ => Used_c t wb G a c w (by have := (Fm.great_no g10).1; omega) hr (hE.st hS)) (fun ⟨ua,uc⟩ => ?_)
   refine WL.step (WL.guardT rfl rfl rfl ?_)
   refine WL.lenSl F.und25 rfl rfl ?_
   refine WL.step (WL.guardT rfl rfl rfl ?_)
   refine WL.move rfl rfl ?_
   refine WL.step (WL.guardT rfl rfl rfl ?_)
   refine WL.gtI rfl rfl rfl ?_
   refine WL.step ?_
   refine WL.pickF rfl rfl rfl ?_
   rotate_left
   all_goals
    refine WL.nil ?_
    refine WQ.chunks (C' := [pt b3 [Value.int .u8 t.op,.string (str t.name),.slice a t.kids.length c] 24]) (fun w hS => ((St.pick hS (c := pt b3 [Value.int .u8 t.op,.string (str t.name),.slice a t.kids.length c] 24) (by repeat (first | exact Rem.here | apply Rem.there)))).sublist (List.Sublist.cons_cons _ (List.nil_sublist _))) ?_
    refine WQ.byCut hQ (subF_bool ?_ ⟨rfl,trivial⟩ rfl)
    first | (simp [g10]; done) | (simp [g10,g15]; done)
  refine WQ.then_normal ?_
  refine WC.cond rfl (fun h21 => ?_) (fun h21 => ?_)
  ·skip
   refine WC.seq ?_
   refine WC.region ?_
   refine WL.step ?_
   refine WL.assign rfl rfl ?_
   refine WL.nil ?_
   refine WQ.then_normal ?_
   refine WC.ret ?_
   refine WQ.then_ret ?_
   exact WQ.ret (rs := [.tmp 6]) rfl (.tmp rfl .nil) (fun w hS => ⟨by (unfold fewB; rw [h21]; rfl),hS.sublist (List.nil_sublist _)⟩)
  skip
  have hll : names.length ≤ 30 := by simp at h21; omega
  refine WC.skip ?_
  refine WQ.then_normal ?_
  refine WC.seq ?_
  refine WC.seq ?_
  refine WC.region ?_
  refine WL.step ?_
  refine WL.assign rfl rfl ?_
  refine WL.nil ?_
  refine WQ.then_normal ?_
  refine WC.block ?_
  refine WC.chunks (C' := []) (fun w hS => hS.sublist (List.nil_sublist _)) ?_
  refine WC.loop (α := Nat) (fun i => i ≤ names.length ∧ (names.take i).all (fun s => decide (s.length ≤ 100)) = true) (fun i => [(1,.slice na names.length nc),(7,.int .i64 (i : Int))]) (fun _ => []) (fun i => names.length - i) (0) ?_ ?_ ?_ ?_
  ·exact ⟨Nat.zero_le _,rfl⟩
  ·exact ⟨rfl,rfl,trivial⟩
  ·rfl
  rintro i ⟨hi,hall⟩
  refine WC.seq ?_
  refine WC.seq ?_
  refine WC.region ?_
  refine WL.step ?_
  refine WL.move rfl rfl ?_
  refine WL.step ?_
  refine WL.move rfl rfl ?_
  refine WL.step ?_
  refine WL.lenSl F.und25 rfl rfl ?_
  refine WL.step ?_
  refine WL.ltI rfl rfl rfl ?_
  refine WL.nil ?_
  refine WQ.then_normal ?_
  refine WC.cond rfl (fun h25 => ?_) (fun h25 => ?_)
  ·skip
   have hlt : i < names.length := by simpa using h25
   obtain ⟨s,hx⟩ : ∃ s,names[i]? = some s := ⟨_,List.getElem?_eq_getElem hlt⟩
   obtain ⟨b,off,rfl,hcell⟩ := hnr i s hx
   refine WC.skip ?_
   refine WQ.then_normal ?_
   refine WC.seq ?_
   refine WC.block ?_
   refine WC.seq ?_
   refine WC.region ?_
   refine WL.step ?_
   refine WL.move rfl rfl ?_
   refine WL.step ?_
   refine WL.move rfl rfl ?_
   refine WL.step ?_
   refine WL.indexAddr F.sl25 rfl rfl rfl hlt ?_
   refine WL.step ?_
   refine WL.load1 F.one9 rfl rfl (v := .string (str s)) (fun w hS => hS.oldc (by simpa using hcell) (by simp)) ?_
   refine WL.step ?_
   refine WL.lenS F.und9 rfl rfl ?_
   refine WL.step ?_
   refine WL.gtI rfl rfl rfl ?_
   refine WL.nil ?_
   refine WQ.then_normal ?_
   refine WC.cond rfl (fun h33 => ?_) (fun h33 => ?_)
   ·skip
    have hno : names.all (fun s => decide (s.length ≤ 100)) = false := by
      cases hq : names.all (fun s => decide (s.length ≤ 100)) with
      | false => rfl
      | true =>
        have := List.all_eq_true.1 hq s (List.mem_of_getElem? hx)
        simp at this h33; omega
    refine WC.seq ?_
    refine WC.region ?_
    refine WL.step ?_
    refine WL.assign rfl rfl ?_
    refine WL.nil ?_
    refine WQ.then_normal ?_
    refine WC.ret ?_
    refine WQ.block_ret ?_
    refine WQ.then_ret ?_
    refine WQ.then_ret ?_
    refine WQ.block_ret ?_
    refine WQ.then_ret ?_
    exact WQ.ret (rs := [.tmp 6]) rfl (.tmp rfl .nil) (fun w hS => ⟨by (unfold fewB; rw [hno,Bool.and_false]; rfl),hS.sublist (List.nil_sublist _)⟩)
   skip
   refine WC.skip ?_
   refine WQ.block_normal ?_
   refine WQ.then_normal ?_
   refine WC.region ?_
   refine WL.step ?_
   refine WL.move rfl rfl ?_
   refine WL.step ?_
   refine WL.add rfl rfl rfl ⟨by omega,by omega⟩ ?_
   refine WL.step ?_
   refine WL.assign rfl rfl ?_
   refine WL.nil ?_
   refine WQ.back (i + 1) ?_ ?_ ?_ ?_
   ·exact ⟨by omega,by rw [List.take_add_one,hx,List.all_append,hall]; simp at h33 ⊢; omega⟩
   ·omega
   ·exact ⟨rfl,rfl,trivial⟩
   rfl
  skip
  have hie : i = names.length := by simp at h25; omega
  subst hie
  rw [List.take_length] at hall
  refine WC.exit ?_
  refine WQ.then_exit ?_
  refine WQ.then_exit ?_
  refine WQ.block_exit ?_
  refine WQ.then_normal ?_
  refine WC.seq ?_
  refine WC.region ?_
  refine WL.step ?_
  refine WL.assign rfl rfl ?_
  refine WL.nil ?_
  refine WQ.then_normal ?_
  refine WC.ret ?_
  exact WQ.ret (rs := [.tmp 6]) rfl (.tmp rfl .nil) (fun w hS => ⟨by (unfold fewB; rw [h21,hall]; rfl),hS⟩)
abbrev nms (l : List Nat) : List Value := l.map (fun (i : Nat) => Value.int .i64 (i : Int))
theorem nms_at {l : List Nat} {i v : Nat} (h : l[i]? = some v) : (nms l)[i]? = some (.int .i64 (v : Int)) := by
 rw [List.getElem?_map,h]; rfl
def RdV (w : World) (v : List Nat) (a : Option Addr) : Prop := ∀ (j x : Nat),v[j]? = some x → ∃ b off,a = some ⟨b,off,none⟩ ∧ w.cell? ⟨b,off + j,none⟩ = some (.int .i64 (x : Int))
theorem RdV.next {w0 w : World} {C : List Chunk} {v : List Nat} {a : Option Addr} (h : RdV w0 v a) (hS : St w0 [] C w) : RdV w v a := fun j x hx => by
 obtain ⟨b,off,ha,hc⟩ := h j x hx
 exact ⟨b,off,ha,hS.oldc hc (by simp)⟩
theorem RdV.of_row {w : World} {v : List Nat} {a : Option Addr} {n cap : Nat} {e : TypeId} (hn : n = v.length) (h : (rowc (.slice a n cap) n e 1 (nms v)).ok w) : RdV w v a := fun j x hx => by
 have hlt := (List.getElem?_eq_some_iff.1 hx).1
 obtain ⟨g,hg,_,_⟩ := rowc_addr h (by omega)
 subst hg
 exact ⟨g,0,rfl,by rw [Nat.zero_add]; exact rowc_cell h (nms_at hx)⟩
def RdB (w : World) (bs : List Bool) (a : Option Addr) : Prop := ∀ j x,bs[j]? = some x → ∃ b off,a = some ⟨b,off,none⟩ ∧ w.cell? ⟨b,off + j,none⟩ = some (.bool x)
theorem RdB.next {w0 w : World} {C : List Chunk} {v : List Bool} {a : Option Addr} (h : RdB w0 v a) (hS : St w0 [] C w) : RdB w v a := fun j x hx => by
 obtain ⟨b,off,ha,hc⟩ := h j x hx
 exact ⟨b,off,ha,hS.oldc hc (by simp)⟩
theorem RdB.of_row {w : World} {v : List Bool} {a : Option Addr} {n cap : Nat} {e : TypeId} (hn : n = v.length) (h : (rowc (.slice a n cap) n e 1 (bls v)).ok w) : RdB w v a := fun j x hx => by
 have hlt := (List.getElem?_eq_some_iff.1 hx).1
 obtain ⟨g,hg,_,_⟩ := rowc_addr h (by omega)
 subst hg
 exact ⟨g,0,rfl,by rw [Nat.zero_add]; exact rowc_cell h (bls_at hx)⟩
theorem run_quo2I {n : Nat} (hn : n < 9223372036854775808) (t : TypeId) (x y : Operand) (w : World) : (do eqGuard .quo t x y (.int .i64 (n : Int)) (.int .i64 2); binOp .quo t (.int .i64 (n : Int)) (.int .i64 2) : Sem Value).run Tryz.prog w = .ok (.int .i64 ((n / 2 : Nat) : Int)) w := by
 have h1 : (n : Int).tdiv 2 = (n : Int) / 2 := Int.tdiv_eq_ediv_of_nonneg (Int.natCast_nonneg _)
 have h2 : IntKind.i64.wrap ((n : Int) / 2) = (n : Int) / 2 := by
  unfold IntKind.wrap
  simp [IntKind.signed,IntKind.bits]
  omega
 simp [eqGuard,binOp,Op.intDiv,h1,h2]
theorem run_add32 {a b : Nat} (h : a + b < 4294967296) (t : TypeId) (x y : Operand) (w : World) :
  (do eqGuard .add t x y (.int .u32 (a : Int)) (.int .u32 (b : Int)); binOp .add t (.int .u32 (a : Int)) (.int .u32 (b : Int)) : Sem Value).run Tryz.prog w = .ok (.int .u32 ((a + b : Nat) : Int)) w := by
 have h1 := wrap_u32 h
 simp only [Int.natCast_add] at h1
 simp [eqGuard,binOp,Op.intArith,h1]
end Go.Proofs.YtkgllhkhdjodeaaGreat
namespace Dg
def confN : List Nat → Nat → Nat
 | [],_ => 0
 | x :: v,k => (if k % 2 = 1 then 2 ^ x else 0) + confN v (k / 2)
def hasN : List Nat → Nat → Nat
 | [],_ => 0
 | x :: v,c => (if c.testBit x then 1 else 0) + 2 * hasN v c
def numN (v : List Nat) : Nat := v.foldl (fun s x => s ||| 2 ^ x) 0
theorem hasN_lt : ∀ (v : List Nat) (c : Nat),hasN v c < 2 ^ v.length
 | [],_ => by simp [hasN]
 | x :: v,c => by
  have := hasN_lt v c
  simp only [hasN,List.length_cons,Nat.pow_succ]
  split <;> omega
theorem confN_div : ∀ (v : List Nat) (k m : Nat),(∀ y ∈ v,m ≤ y) → ∃ q,confN v k = 2 ^ m * q
 | [],k,m,_ => ⟨0,by simp [confN]⟩
 | x :: v,k,m,h => by
  obtain ⟨q,hq⟩ := confN_div v (k / 2) m (fun y hy => h y (List.mem_cons_of_mem _ hy))
  have hx := h x (List.mem_cons_self ..)
  simp only [confN,hq]
  split
  ·refine ⟨2 ^ (x - m) + q,?_⟩
   rw [Nat.mul_add,← Nat.pow_add,Nat.add_sub_cancel' hx]
  ·exact ⟨q,by simp⟩
theorem confN_cons {x : Nat} {v : List Nat} (hp : (x :: v).Pairwise (· < ·)) (k j : Nat) : (confN (x :: v) k).testBit j = if j = x then decide (k % 2 = 1) else (confN v (k / 2)).testBit j := by
 obtain ⟨q,hq⟩ := confN_div v (k / 2) (x + 1) (fun y hy => (List.pairwise_cons.1 hp).1 y hy)
 have hb : (if k % 2 = 1 then 2 ^ x else 0) < 2 ^ (x + 1) := by
  have : 2 ^ x < 2 ^ (x + 1) := Nat.pow_lt_pow_right (by decide) (Nat.lt_succ_self x)
  split
  ·exact this
  ·exact Nat.two_pow_pos _
 have e : confN (x :: v) k = 2 ^ (x + 1) * q + (if k % 2 = 1 then 2 ^ x else 0) := by
  simp only [confN,hq]; omega
 rw [e,Nat.testBit_two_pow_mul_add _ hb,hq]
 have h2 := Nat.testBit_two_pow_mul_add q (Nat.two_pow_pos (x + 1)) j
 rw [Nat.add_zero] at h2
 by_cases hj : j = x
 ·subst hj
  rw [if_pos (by omega),if_pos rfl]
  split <;> rename_i h
  ·rw [Nat.testBit_two_pow_self,decide_eq_true h]
  rw [Nat.zero_testBit,decide_eq_false h]
 rw [if_neg hj,h2]
 by_cases hl : j < x + 1
 ·rw [if_pos hl,if_pos hl,Nat.zero_testBit]
  split
  ·rw [Nat.testBit_two_pow]; simp; omega
  exact Nat.zero_testBit _
 rw [if_neg hl,if_neg hl]
theorem conf_has : ∀ (v : List Nat) (c : Nat),v.Pairwise (· < ·) → ∀ j,(confN v (hasN v c)).testBit j = (decide (j ∈ v) && c.testBit j)
 | [],c,_,j => by simp [confN]
 | x :: v,c,hp,j => by
  have hp' := List.pairwise_cons.1 hp
  have ih := conf_has v c hp'.2 j
  rw [confN_cons hp]
  have e1 : hasN (x :: v) c / 2 = hasN v c := by simp only [hasN]; split <;> omega
  have e0 : hasN (x :: v) c % 2 = (if c.testBit x then 1 else 0) := by
   simp only [hasN]; split <;> omega
  have e2 : decide (hasN (x :: v) c % 2 = 1) = c.testBit x := by
   by_cases hc : c.testBit x = true
   ·rw [hc,if_pos rfl] at e0
    rw [hc]; exact decide_eq_true e0
   ·have hc' : c.testBit x = false := by simpa using hc
    rw [hc',if_neg (by simp)] at e0
    rw [hc']; exact decide_eq_false (by omega)
  rw [e1,e2,ih]
  by_cases hj : j = x
  ·subst hj; simp
  ·rw [if_neg hj]; simp [hj]
theorem has_conf : ∀ (v : List Nat) (k : Nat),v.Pairwise (· < ·) → k < 2 ^ v.length → hasN v (confN v k) = k
 | [],k,_,h => by simp at h; simp [hasN,h]
 | x :: v,k,hp,h => by
  have hp' := List.pairwise_cons.1 hp
  have hk : k / 2 < 2 ^ v.length := by simp only [List.length_cons,Nat.pow_succ] at h; omega
  have ih := has_conf v (k / 2) hp'.2 hk
  have hx := confN_cons hp k x
  rw [if_pos rfl] at hx
  have hh : ∀ (u : List Nat) (c d : Nat),(∀ y ∈ u,c.testBit y = d.testBit y) → hasN u c = hasN u d := by
   intro u
   induction u with
   | nil => intro c d _; rfl
   | cons y u ihu =>
    intro c d hcd
    simp only [hasN]
    rw [hcd y (List.mem_cons_self ..),ihu c d (fun z hz => hcd z (List.mem_cons_of_mem _ hz))]
  have e : hasN v (confN (x :: v) k) = hasN v (confN v (k / 2)) := hh v _ _ fun y hy => by
   rw [confN_cons hp,if_neg (by have := hp'.1 y hy; omega)]
  simp only [hasN]
  rw [hx,e,ih]
  by_cases h1 : k % 2 = 1
  ·simp [h1]; omega
  ·simp [h1]; omega
theorem hasN_snoc : ∀ (v : List Nat) (x c : Nat),hasN (v ++ [x]) c = hasN v c + (if c.testBit x then 2 ^ v.length else 0)
 | [],x,c => by simp [hasN]
 | y :: v,x,c => by
  have ih := hasN_snoc v x c
  simp only [List.cons_append,hasN,ih,List.length_cons,Nat.pow_succ]
  split <;> split <;> omega
theorem confN_drop {v : List Nat} {i x : Nat} (h : v[i]? = some x) (k : Nat) : confN (v.drop i) k = (if k % 2 = 1 then 2 ^ x else 0) + confN (v.drop (i + 1)) (k / 2) := by
 rw [List.drop_eq_getElem_cons (List.getElem?_eq_some_iff.1 h).1,(List.getElem?_eq_some_iff.1 h).2]
 rfl
theorem confN_lt : ∀ (v : List Nat) (k m : Nat),v.Pairwise (· < ·) → (∀ y ∈ v,y < m) → confN v k < 2 ^ m := by
 intro v k m hp hm
 refine Nat.lt_pow_two_of_testBit _ fun j hj => ?_
 have key : ∀ (u : List Nat) (k : Nat),u.Pairwise (· < ·) → (∀ y ∈ u,y < m) → (confN u k).testBit j = false := by
  intro u
  induction u with
  | nil => intro k _ _; simp [confN]
  | cons y u ih =>
   intro k hp hm
   have hy := hm y (List.mem_cons_self ..)
   rw [confN_cons hp,if_neg (by omega)]
   exact ih (k / 2) (List.pairwise_cons.1 hp).2 (fun z hz => hm z (List.mem_cons_of_mem _ hz))
 exact key v k hp hm
end Dg
namespace Go.Proofs.YtkgllhkhdjodeaaGreat
open Go Go.Eng Go.Proofs Dg
structure CfgG where
 i : Nat
 s : Nat
 k : Nat
theorem bit_two {x : Nat} (h : x < 24) : 2 ^ x < 4294967296 := pow32 (by omega)
theorem Config_c (v : List Nat) (k : Nat) (hk : k < 9223372036854775808) (hp : v.Pairwise (· < ·)) (hv24 : ∀ x ∈ v,x < 24) (hvl : v.length ≤ 24) (a : Option Addr) (c : Nat) (w : World) (hr : RdV w v a) : Pure Tryz.prog 48 [.slice a v.length c,.int .i64 (k : Int)] w (.int .u32 (confN v k : Int)) := by
 have hcl : confN v k < 2 ^ 24 := confN_lt v k 24 hp hv24
 refine enter Tryz.func48 rfl Tryz.ntmps48 rfl (St.init _) ?_
 refine jN 20 ?_
 refine WC.loop (α := CfgG) (fun g => (g.i ≤ v.length ∧ g.k < 9223372036854775808) ∧ g.s + confN (v.drop g.i) g.k = confN v k) (fun g => [(0,.slice a v.length c),(1,.int .i64 (g.k : Int)),(5,.int .u32 (g.s : Int)),(6,.int .i64 (g.i : Int))]) (fun _ => []) (fun g => v.length - g.i) (⟨0,0,k⟩) ?_ ?_ ?_ ?_
 ·exact ⟨⟨Nat.zero_le _,hk⟩,by simp⟩
 ·exact ⟨rfl,rfl,rfl,rfl,trivial⟩
 ·rfl
 rintro ⟨i,s,k1⟩ ⟨⟨hi,hk1⟩,hs⟩
 dsimp only at hi hk1 hs
 show WC _ _ _ _ _ _ _ [(0,.slice a v.length c),(1,.int .i64 (k1 : Int)),(5,.int .u32 (s : Int)),(6,.int .i64 (i : Int))] []
 refine jN 13 ?_
 refine WC.cond rfl (fun h10 => ?_) (fun h10 => ?_)
 ·have hlt : i < v.length := by simpa using h10
  obtain ⟨x,hx⟩ : ∃ x,v[i]? = some x := ⟨_,List.getElem?_eq_getElem hlt⟩
  obtain ⟨b,off,rfl,hcell⟩ := hr i x hx
  have hx24 := hv24 x (List.mem_of_getElem? hx)
  rw [confN_drop hx] at hs
  refine jN 10 ?_
  refine WL.bin (v := .int .i64 ((k1 % 2 : Nat) : Int)) rfl rfl rfl (fun w => run_rem2I _ _ _ w) ?_
  refine jN 4 ?_
  refine WC.cond rfl (fun h15 => ?_) (fun h15 => ?_)
  ·have hb : k1 % 2 = 1 := by (have h9 : ((k1 % 2 : Nat) : Int) = 1 := by simpa using h15); omega
   rw [if_pos hb] at hs
   refine jN 8 ?_
   refine WL.indexAddr F.sl41 rfl rfl rfl hlt ?_
   refine jN 1 ?_
   refine WL.load1 F.one3 rfl rfl (v := .int .i64 (x : Int)) (fun w hS => hS.oldc (by simpa using hcell) (by simp)) ?_
   refine jN 1 ?_
   refine WL.convert rfl rfl (v := .int .u64 (x : Int)) (fun w hS => conv61 (by omega) w) ?_
   refine jN 1 ?_
   refine WL.bin (v := .int .u32 ((2 ^ x : Nat) : Int)) rfl rfl rfl (fun w => run_shl1U (by omega) _ _ _ w) ?_
   refine jN 1 ?_
   refine WL.bin (v := .int .u32 ((s + 2 ^ x : Nat) : Int)) rfl rfl rfl (fun w => run_add32 (by omega) _ _ _ w) ?_
   refine jN 8 ?_
   refine WL.bin (v := .int .i64 ((k1 / 2 : Nat) : Int)) rfl rfl rfl (fun w => run_quo2I hk1 _ _ _ w) ?_
   refine jN 13 ?_
   refine WQ.back (⟨i + 1,s + 2 ^ x,k1 / 2⟩) ?_ ?_ ?_ ?_
   ·exact ⟨⟨by show i + 1 ≤ v.length; omega,by show k1 / 2 < _; omega⟩,by show s + 2 ^ x + confN (v.drop (i + 1)) (k1 / 2) = _; omega⟩
   ·(show v.length - (i + 1) < v.length - i; omega)
   ·exact ⟨rfl,rfl,rfl,rfl,trivial⟩
   rfl
  have hb : ¬ k1 % 2 = 1 := by (intro e; rw [e] at h15; simp at h15)
  rw [if_neg hb] at hs
  refine jN 6 ?_
  refine WL.bin (v := .int .i64 ((k1 / 2 : Nat) : Int)) rfl rfl rfl (fun w => run_quo2I hk1 _ _ _ w) ?_
  refine jN 13 ?_
  refine WQ.back (⟨i + 1,s,k1 / 2⟩) ?_ ?_ ?_ ?_
  ·exact ⟨⟨by show i + 1 ≤ v.length; omega,by show k1 / 2 < _; omega⟩,by show s + confN (v.drop (i + 1)) (k1 / 2) = _; omega⟩
  ·(show v.length - (i + 1) < v.length - i; omega)
  ·exact ⟨rfl,rfl,rfl,rfl,trivial⟩
  rfl
 have hie : i = v.length := by simp at h10; omega
 subst hie
 rw [List.drop_length] at hs
 have hs2 : s = confN v k := by simpa [confN] using hs
 refine jN 14 ?_
 exact WQ.ret (rs := [.tmp 4]) rfl (.tmp rfl .nil) (fun w hS => ⟨by rw [hs2]; rfl,hS⟩)
theorem selected_c (M x : Nat) (hx : x < 24) (w : World) : Pure Tryz.prog 124 [.int .u32 (M : Int),.int .i64 (x : Int)] w (.bool (M.testBit x)) := by
 refine enter Tryz.func124 rfl Tryz.ntmps124 rfl (St.init _) ?_
 refine jN 13 ?_
 refine WL.convert rfl rfl (v := .int .u64 (x : Int)) (fun w hS => conv61 (by omega) w) ?_
 refine jN 1 ?_
 refine WL.bin (v := .int .u32 ((M >>> x : Nat) : Int)) rfl rfl rfl (fun w => run_shrU (by omega) _ _ _ w) ?_
 refine jN 1 ?_
 refine WL.bin (v := .int .u32 ((M >>> x % 2 : Nat) : Int)) rfl rfl rfl (fun w => run_rem2 _ _ _ w) ?_
 refine jN 7 ?_
 exact WQ.ret (rs := [.tmp 4]) rfl (.tmp rfl .nil) (fun w hS => ⟨retB (rem_bit M x),hS⟩)
theorem numN_take {v : List Nat} {i x : Nat} (h : v[i]? = some x) : numN (v.take (i + 1)) = numN (v.take i) ||| 2 ^ x := by
 unfold numN; rw [List.take_add_one,h]; simp
theorem numN_lt : ∀ (v : List Nat) (s : Nat),(∀ x ∈ v,x < 24) → s < 2 ^ 24 → v.foldl (fun s x => s ||| 2 ^ x) s < 2 ^ 24
 | [],s,_,h => h
 | x :: v,s,hx,h => numN_lt v _ (fun y hy => hx y (List.mem_cons_of_mem _ hy)) (Nat.or_lt_two_pow h (Nat.pow_lt_pow_right (by decide) (hx x (List.mem_cons_self ..))))
theorem Number_c (v : List Nat) (hv24 : ∀ x ∈ v,x < 24) (hvl : v.length ≤ 24) (a : Option Addr) (c : Nat) (w : World) (hr : RdV w v a) : Pure Tryz.prog 69 [.slice a v.length c] w (.int .u32 (numN v : Int)) := by
 refine enter Tryz.func69 rfl Tryz.ntmps69 rfl (St.init _) ?_
 refine jN 20 ?_
 refine WC.loop (α := Nat) (fun i => i ≤ v.length) (fun i => [(0,.slice a v.length c),(3,.int .u32 (numN (v.take i) : Int)),(4,.int .i64 (i : Int))]) (fun _ => []) (fun i => v.length - i) (0) ?_ ?_ ?_ ?_
 ·exact Nat.zero_le _
 ·exact ⟨rfl,rfl,rfl,trivial⟩
 ·rfl
 rintro i hi
 show WC _ _ _ _ _ _ _ [(0,.slice a v.length c),(3,.int .u32 (numN (v.take i) : Int)),(4,.int .i64 (i : Int))] []
 refine jN 13 ?_
 refine WC.cond rfl (fun h8 => ?_) (fun h8 => ?_)
 ·have hlt : i < v.length := by simpa using h8
  obtain ⟨x,hx⟩ : ∃ x,v[i]? = some x := ⟨_,List.getElem?_eq_getElem hlt⟩
  obtain ⟨b,off,rfl,hcell⟩ := hr i x hx
  have hx24 := hv24 x (List.mem_of_getElem? hx)
  have hsl : numN (v.take i) < 2 ^ 24 := numN_lt _ _ (fun y hy => hv24 y (List.mem_of_mem_take hy)) (by decide)
  have hx32 := bit_two hx24
  refine jN 12 ?_
  refine WL.indexAddr F.sl41 rfl rfl rfl hlt ?_
  refine jN 1 ?_
  refine WL.load1 F.one3 rfl rfl (v := .int .i64 (x : Int)) (fun w hS => hS.oldc (by simpa using hcell) (by simp)) ?_
  refine jN 1 ?_
  refine WL.convert rfl rfl (v := .int .u64 (x : Int)) (fun w hS => conv61 (by omega) w) ?_
  refine jN 1 ?_
  refine WL.bin (v := .int .u32 ((2 ^ x : Nat) : Int)) rfl rfl rfl (fun w => run_shl1U (by omega) _ _ _ w) ?_
  refine jN 1 ?_
  refine WL.bin rfl rfl rfl (fun w => run_or (by omega) hx32 _ _ _ w) ?_
  refine jN 13 ?_
  refine WQ.back (i + 1) (by show i + 1 ≤ v.length; omega) (by show v.length - (i + 1) < v.length - i; omega) ?_ rfl
  simp only [numN_take hx]
  exact ⟨rfl,rfl,rfl,trivial⟩
 have hie : i = v.length := by simp at h8; omega
 subst hie
 rw [List.take_length]
 refine jN 14 ?_
 exact WQ.ret (rs := [.tmp 2]) rfl (.tmp rfl .nil) (fun w hS => ⟨rfl,hS⟩)
theorem run_twoI {n : Nat} (hn : 2 * n < 9223372036854775808) (t : TypeId) (x y : Operand) (w : World) :
    (do eqGuard .mul t x y (.int .i64 2) (.int .i64 (n : Int)); binOp .mul t (.int .i64 2) (.int .i64 (n : Int)) : Sem Value).run Tryz.prog w = .ok (.int .i64 ((2 * n : Nat) : Int)) w := by
  have h2 : IntKind.i64.wrap (2 * (n : Int)) = 2 * (n : Int) := by
    unfold IntKind.wrap
    simp [IntKind.signed,IntKind.bits]
    omega
  simp [eqGuard,binOp,Op.intArith,h2]
abbrev scells (v : List Nat) (a : Option Addr) (c : Nat) (bs : List Bool) (ta : Option Addr) (tc : Nat) : List Value := [.slice a v.length c,.slice ta bs.length tc]
abbrev sval (v : List Nat) (a : Option Addr) (c : Nat) (bs : List Bool) (ta : Option Addr) (tc : Nat) : Value := .agg (scells v a c bs ta tc).toArray
theorem hasN_take {v : List Nat} {i x : Nat} (h : v[i]? = some x) (M : Nat) : hasN (v.take (i + 1)) M = hasN (v.take i) M + (if M.testBit x then 2 ^ i else 0) := by
  have hi := (List.getElem?_eq_some_iff.1 h).1
  rw [List.take_add_one,h]
  show hasN (v.take i ++ [x]) M = _
  rw [hasN_snoc]
  have : (v.take i).length = i := by simp; omega
  rw [this]
theorem rHas_c (v : List Nat) (bs : List Bool) (M : Nat) (hv24 : ∀ x ∈ v,x < 24) (hvl : v.length ≤ 24) (hbl : bs.length = 2 ^ v.length) (a ta : Option Addr) (c tc : Nat) (w : World) (hr : RdV w v a) (hrb : RdB w bs ta) :
    Pure Tryz.prog 125 [sval v a c bs ta tc,.int .u32 (M : Int)] w (.bool (bs.getD (hasN v M) false)) := by
  refine enter Tryz.func125 rfl Tryz.ntmps125 rfl (St.init _) ?_
  refine WC.seq ?_
  refine WC.region ?_
  refine WL.step ?_
  refine WL.boxN rfl rfl (fun b2 => ?_)
  refine WL.step ?_
  refine WL.assign rfl rfl ?_
  refine WL.nil ?_
  refine WQ.then_normal ?_
  refine WC.seq ?_
  refine WC.region ?_
  refine WL.step ?_
  refine WL.assign rfl rfl ?_
  refine WL.step ?_
  refine WL.assign rfl rfl ?_
  refine WL.nil ?_
  refine WQ.then_normal ?_
  refine WC.seq ?_
  refine WC.seq ?_
  refine WC.region ?_
  refine WL.step ?_
  refine WL.assign rfl rfl ?_
  refine WL.nil ?_
  refine WQ.then_normal ?_
  refine WC.block ?_
  refine WC.chunks (C' := [pt b2 (scells v a c bs ta tc) 44]) (fun w hS => ((St.pick hS (c := pt b2 (scells v a c bs ta tc) 44) (by repeat (first | exact Rem.here | apply Rem.there)))).sublist (List.Sublist.cons_cons _ (List.nil_sublist _))) ?_
  refine WC.loop (α := Nat) (fun i => i ≤ v.length) (fun i => [(1,.int .u32 (M : Int)),(2,pp b2),(5,.int .i64 (hasN (v.take i) M : Int)),(6,.int .i64 ((2 ^ i : Nat) : Int)),(7,.int .i64 (i : Int))]) (fun _ => [pt b2 (scells v a c bs ta tc) 44]) (fun i => v.length - i) (0) ?_ ?_ ?_ ?_
  ·exact Nat.zero_le _
  ·exact ⟨rfl,rfl,rfl,rfl,rfl,trivial⟩
  ·rfl
  rintro i hi
  show WC _ _ _ _ _ _ _ [(1,.int .u32 (M : Int)),(2,pp b2),(5,.int .i64 (hasN (v.take i) M : Int)),(6,.int .i64 ((2 ^ i : Nat) : Int)),(7,.int .i64 (i : Int))] [pt b2 (scells v a c bs ta tc) 44]
  refine WC.seq ?_
  refine WC.seq ?_
  refine WC.region ?_
  refine WL.step ?_
  refine WL.move rfl rfl ?_
  refine WL.step ?_
  refine WL.fieldAddr0 F.fld44_0 rfl rfl ?_
  refine WL.step ?_
  refine WL.loadP F.one41 rfl rfl (by repeat (first | exact List.Mem.head _ | apply List.Mem.tail)) rfl ?_
  refine WL.step ?_
  refine WL.lenSl F.und41 rfl rfl ?_
  refine WL.step ?_
  refine WL.ltI rfl rfl rfl ?_
  refine WL.nil ?_
  refine WQ.then_normal ?_
  refine WC.cond rfl (fun h12 => ?_) (fun h12 => ?_)
  ·skip
   have hlt : i < v.length := by simpa using h12
   obtain ⟨x,hx⟩ : ∃ x,v[i]? = some x := ⟨_,List.getElem?_eq_getElem hlt⟩
   obtain ⟨b,off,rfl,hcell⟩ := hr i x hx
   have hx24 := hv24 x (List.mem_of_getElem? hx)
   have hst := hasN_take hx M
   have hhl := hasN_lt (v.take i) M
   have htl : (v.take i).length = i := by simp; omega
   rw [htl] at hhl
   have h2i : 2 ^ i < 2 ^ 24 := Nat.pow_lt_pow_right (by decide) (by omega)
   have h2s : 2 ^ (i + 1) = 2 * 2 ^ i := by (rw [Nat.pow_succ]; omega)
   refine WC.skip ?_
   refine WQ.then_normal ?_
   refine WC.seq ?_
   refine WC.block ?_
   refine WC.seq ?_
   refine WC.seq ?_
   refine WC.region ?_
   refine WL.step ?_
   refine WL.move rfl rfl ?_
   refine WL.step ?_
   refine WL.fieldAddr0 F.fld44_0 rfl rfl ?_
   refine WL.step ?_
   refine WL.loadP F.one41 rfl rfl (by repeat (first | exact List.Mem.head _ | apply List.Mem.tail)) rfl ?_
   refine WL.step ?_
   refine WL.move rfl rfl ?_
   refine WL.step ?_
   refine WL.indexAddr F.sl41 rfl rfl rfl hlt ?_
   refine WL.step ?_
   refine WL.load1 F.one3 rfl rfl (v := .int .i64 (x : Int)) (fun w hS => hS.oldc (by simpa using hcell) (by simp)) ?_
   refine WL.step ?_
   refine WL.callV F.fun124 rfl rfl (fun w hS => selected_c M x hx24 w) ?_
   refine WL.nil ?_
   refine WQ.then_normal ?_
   refine WC.cond rfl (fun h21 => ?_) (fun h21 => ?_)
   ·skip
    rw [if_pos h21] at hst
    refine WC.region ?_
    refine WL.step ?_
    refine WL.move rfl rfl ?_
    refine WL.step ?_
    refine WL.move rfl rfl ?_
    refine WL.step ?_
    refine WL.add rfl rfl rfl ⟨by omega,by omega⟩ ?_
    refine WL.step ?_
    refine WL.assign rfl rfl ?_
    refine WL.nil ?_
    refine WQ.then_normal ?_
    refine WC.region ?_
    refine WL.step ?_
    refine WL.move rfl rfl ?_
    refine WL.step ?_
    refine WL.bin (v := .int .i64 ((2 * 2 ^ i : Nat) : Int)) rfl rfl rfl (fun w => run_twoI (by omega) _ _ _ w) ?_
    refine WL.step ?_
    refine WL.assign rfl rfl ?_
    refine WL.nil ?_
    refine WQ.block_normal ?_
    refine WQ.then_normal ?_
    refine WC.region ?_
    refine WL.step ?_
    refine WL.move rfl rfl ?_
    refine WL.step ?_
    refine WL.add rfl rfl rfl ⟨by omega,by omega⟩ ?_
    refine WL.step ?_
    refine WL.assign rfl rfl ?_
    refine WL.nil ?_
    refine WQ.chunks (C' := [pt b2 (scells v (some ⟨b,off,none⟩) c bs ta tc) 44]) (fun w hS => ((St.pick hS (c := pt b2 (scells v (some ⟨b,off,none⟩) c bs ta tc) 44) (by repeat (first | exact Rem.here | apply Rem.there)))).sublist (List.Sublist.cons_cons _ (List.nil_sublist _))) ?_
    refine WQ.back (i + 1) (by show i + 1 ≤ v.length; omega) (by show v.length - (i + 1) < v.length - i; omega) ?_ rfl
    simp only [hst,h2s]
    exact ⟨rfl,rfl,rfl,rfl,rfl,trivial⟩
   skip
   rw [if_neg (by rw [h21]; simp)] at hst
   refine WC.skip ?_
   refine WQ.then_normal ?_
   refine WC.region ?_
   refine WL.step ?_
   refine WL.move rfl rfl ?_
   refine WL.step ?_
   refine WL.bin (v := .int .i64 ((2 * 2 ^ i : Nat) : Int)) rfl rfl rfl (fun w => run_twoI (by omega) _ _ _ w) ?_
   refine WL.step ?_
   refine WL.assign rfl rfl ?_
   refine WL.nil ?_
   refine WQ.block_normal ?_
   refine WQ.then_normal ?_
   refine WC.region ?_
   refine WL.step ?_
   refine WL.move rfl rfl ?_
   refine WL.step ?_
   refine WL.add rfl rfl rfl ⟨by omega,by omega⟩ ?_
   refine WL.step ?_
   refine WL.assign rfl rfl ?_
   refine WL.nil ?_
   refine WQ.chunks (C' := [pt b2 (scells v (some ⟨b,off,none⟩) c bs ta tc) 44]) (fun w hS => ((St.pick hS (c := pt b2 (scells v (some ⟨b,off,none⟩) c bs ta tc) 44) (by repeat (first | exact Rem.here | apply Rem.there)))).sublist (List.Sublist.cons_cons _ (List.nil_sublist _))) ?_
   refine WQ.back (i + 1) (by show i + 1 ≤ v.length; omega) (by show v.length - (i + 1) < v.length - i; omega) ?_ rfl
   simp only [hst,h2s,Nat.add_zero]
   exact ⟨rfl,rfl,rfl,rfl,rfl,trivial⟩
  skip
  have hie : i = v.length := by simp at h12; omega
  subst hie
  rw [List.take_length]
  have hhl := hasN_lt v M
  rw [← hbl] at hhl
  obtain ⟨x,hx⟩ : ∃ x,bs[hasN v M]? = some x := ⟨_,List.getElem?_eq_getElem hhl⟩
  obtain ⟨b,off,rfl,hcell⟩ := hrb _ x hx
  have hgd : bs.getD (hasN v M) false = x := by rw [List.getD_eq_getElem?_getD,hx]; rfl
  refine WC.exit ?_
  refine WQ.then_exit ?_
  refine WQ.then_exit ?_
  refine WQ.block_exit ?_
  refine WQ.then_normal ?_
  refine WC.seq ?_
  refine WC.region ?_
  refine WL.step ?_
  refine WL.fieldAddr0 F.fld44_1 rfl rfl ?_
  refine WL.step ?_
  refine WL.loadP F.one42 rfl rfl (by repeat (first | exact List.Mem.head _ | apply List.Mem.tail)) rfl ?_
  refine WL.step ?_
  refine WL.move rfl rfl ?_
  refine WL.step ?_
  refine WL.indexAddr F.sl42 rfl rfl rfl hhl ?_
  refine WL.step ?_
  refine WL.load1 F.one4 rfl rfl (v := .bool x) (fun w hS => hS.oldc (by simpa using hcell) (by simp)) ?_
  refine WL.step ?_
  refine WL.assign rfl rfl ?_
  refine WL.nil ?_
  refine WQ.then_normal ?_
  refine WC.ret ?_
  exact WQ.ret (rs := [.tmp 4]) rfl (.tmp rfl .nil) (fun w hS => ⟨by rw [hgd]; rfl,hS.sublist (List.nil_sublist _)⟩)
theorem Many_c (v : List Nat) (bs : List Bool) (hll : bs.length ≤ 1099511627776) (a ta : Option Addr) (c tc : Nat) (w : World) (hrb : RdB w bs ta) :
    Pure Tryz.prog 123 [sval v a c bs ta tc] w (.int .i64 (cntB bs : Int)) := by
  refine enter Tryz.func123 rfl Tryz.ntmps123 rfl (St.init _) ?_
  refine WC.seq ?_
  refine WC.region ?_
  refine WL.step ?_
  refine WL.boxN rfl rfl (fun b1 => ?_)
  refine WL.step ?_
  refine WL.assign rfl rfl ?_
  refine WL.nil ?_
  refine WQ.then_normal ?_
  refine WC.seq ?_
  refine WC.region ?_
  refine WL.step ?_
  refine WL.assign rfl rfl ?_
  refine WL.nil ?_
  refine WQ.then_normal ?_
  refine WC.seq ?_
  refine WC.seq ?_
  refine WC.region ?_
  refine WL.step ?_
  refine WL.assign rfl rfl ?_
  refine WL.nil ?_
  refine WQ.then_normal ?_
  refine WC.block ?_
  refine WC.chunks (C' := [pt b1 (scells v a c bs ta tc) 44]) (fun w hS => ((St.pick hS (c := pt b1 (scells v a c bs ta tc) 44) (by repeat (first | exact Rem.here | apply Rem.there)))).sublist (List.Sublist.cons_cons _ (List.nil_sublist _))) ?_
  refine WC.loop (α := Nat) (fun i => i ≤ bs.length) (fun i => [(1,pp b1),(3,.int .i64 (cntB (bs.take i) : Int)),(4,.int .i64 (i : Int))]) (fun _ => [pt b1 (scells v a c bs ta tc) 44]) (fun i => bs.length - i) (0) ?_ ?_ ?_ ?_
  ·exact Nat.zero_le _
  ·exact ⟨rfl,rfl,rfl,trivial⟩
  ·rfl
  rintro i hi
  show WC _ _ _ _ _ _ _ [(1,pp b1),(3,.int .i64 (cntB (bs.take i) : Int)),(4,.int .i64 (i : Int))] [pt b1 (scells v a c bs ta tc) 44]
  refine WC.seq ?_
  refine WC.seq ?_
  refine WC.region ?_
  refine WL.step ?_
  refine WL.move rfl rfl ?_
  refine WL.step ?_
  refine WL.fieldAddr0 F.fld44_1 rfl rfl ?_
  refine WL.step ?_
  refine WL.loadP F.one42 rfl rfl (by repeat (first | exact List.Mem.head _ | apply List.Mem.tail)) rfl ?_
  refine WL.step ?_
  refine WL.lenSl F.und42 rfl rfl ?_
  refine WL.step ?_
  refine WL.ltI rfl rfl rfl ?_
  refine WL.nil ?_
  refine WQ.then_normal ?_
  refine WC.cond rfl (fun h9 => ?_) (fun h9 => ?_)
  ·skip
   have hlt : i < bs.length := by simpa using h9
   obtain ⟨x,hx⟩ : ∃ x,bs[i]? = some x := ⟨_,List.getElem?_eq_getElem hlt⟩
   obtain ⟨b,off,rfl,hcell⟩ := hrb i x hx
   have hst : cntB (bs.take (i + 1)) = cntB (bs.take i) + (if x then 1 else 0) := by (rw [List.take_add_one,hx]; exact cntB_snoc _ x)
   have hcl := cntB_le (bs.take i)
   have htl : (bs.take i).length = i := by simp; omega
   refine WC.skip ?_
   refine WQ.then_normal ?_
   refine WC.seq ?_
   refine WC.block ?_
   refine WC.seq ?_
   refine WC.region ?_
   refine WL.step ?_
   refine WL.fieldAddr0 F.fld44_1 rfl rfl ?_
   refine WL.step ?_
   refine WL.loadP F.one42 rfl rfl (by repeat (first | exact List.Mem.head _ | apply List.Mem.tail)) rfl ?_
   refine WL.step ?_
   refine WL.move rfl rfl ?_
   refine WL.step ?_
   refine WL.indexAddr F.sl42 rfl rfl rfl hlt ?_
   refine WL.step ?_
   refine WL.load1 F.one4 rfl rfl (v := .bool x) (fun w hS => hS.oldc (by simpa using hcell) (by simp)) ?_
   refine WL.nil ?_
   refine WQ.then_normal ?_
   refine WC.cond rfl (fun h16 => ?_) (fun h16 => ?_)
   skip
   rw [if_pos h16] at hst
   refine WC.region ?_
   refine WL.step ?_
   refine WL.move rfl rfl ?_
   refine WL.step ?_
   refine WL.add rfl rfl rfl ⟨by omega,by omega⟩ ?_
   refine WL.step ?_
   refine WL.assign rfl rfl ?_
   refine WL.nil ?_
   rotate_left
   skip
   rw [if_neg (by rw [h16]; simp),Nat.add_zero] at hst
   refine WC.skip ?_
   rotate_left
   all_goals
    refine WQ.block_normal ?_
    refine WQ.then_normal ?_
    refine WC.region ?_
    refine WL.step ?_
    refine WL.move rfl rfl ?_
    refine WL.step ?_
    refine WL.add rfl rfl rfl ⟨by omega,by omega⟩ ?_
    refine WL.step ?_
    refine WL.assign rfl rfl ?_
    refine WL.nil ?_
    refine WQ.chunks (C' := [pt b1 (scells v a c bs (some ⟨b,off,none⟩) tc) 44]) (fun w hS => ((St.pick hS (c := pt b1 (scells v a c bs (some ⟨b,off,none⟩) tc) 44) (by repeat (first | exact Rem.here | apply Rem.there)))).sublist (List.Sublist.cons_cons _ (List.nil_sublist _))) ?_
    refine WQ.back (i + 1) (by show i + 1 ≤ bs.length; omega) (by show bs.length - (i + 1) < bs.length - i; omega) ?_ rfl
    simp only [hst]
    exact ⟨rfl,rfl,rfl,trivial⟩
  skip
  have hie : i = bs.length := by simp at h9; omega
  subst hie
  rw [List.take_length]
  refine WC.exit ?_
  refine WQ.then_exit ?_
  refine WQ.then_exit ?_
  refine WQ.block_exit ?_
  refine WQ.then_normal ?_
  refine WC.seq ?_
  refine WC.region ?_
  refine WL.step ?_
  refine WL.move rfl rfl ?_
  refine WL.step ?_
  refine WL.assign rfl rfl ?_
  refine WL.nil ?_
  refine WQ.then_normal ?_
  refine WC.ret ?_
  exact WQ.ret (rs := [.tmp 2]) rfl (.tmp rfl .nil) (fun w hS => ⟨rfl,hS.sublist (List.nil_sublist _)⟩)
theorem rEmpty_c (v : List Nat) (bs : List Bool) (hll : bs.length ≤ 1099511627776) (a ta : Option Addr) (c tc : Nat) (w : World) (hrb : RdB w bs ta) :
    Pure Tryz.prog 59 [sval v a c bs ta tc] w (.bool (!bs.any id)) := by
  refine enter Tryz.func59 rfl Tryz.ntmps59 rfl (St.init _) ?_
  refine WC.seq ?_
  refine WC.region ?_
  refine WL.step ?_
  refine WL.boxN rfl rfl (fun b1 => ?_)
  refine WL.step ?_
  refine WL.assign rfl rfl ?_
  refine WL.nil ?_
  refine WQ.then_normal ?_
  refine WC.seq ?_
  refine WC.region ?_
  refine WL.step ?_
  refine WL.loadW F.agg44 rfl rfl (by repeat (first | exact List.Mem.head _ | apply List.Mem.tail)) rfl ?_
  refine WL.step ?_
  refine WL.callV F.fun123 rfl rfl (fun w hS => Many_c v bs hll a ta c tc w (hrb.next hS)) ?_
  refine WL.step ?_
  refine WL.eqI rfl rfl rfl ?_
  refine WL.step ?_
  refine WL.assign rfl rfl ?_
  refine WL.nil ?_
  refine WQ.then_normal ?_
  refine WC.ret ?_
  refine WQ.ret (rs := [.tmp 2]) rfl (.tmp rfl .nil) (fun w hS => ⟨retB ?_,hS.sublist (List.nil_sublist _)⟩)
  have h9 := cnt_any bs
  cases hq : bs.any id with
  | true => rw [hq] at h9; have := h9.2 rfl; simp; omega
  | false => rw [hq] at h9; have h8 : ¬ 0 < cntB bs := fun h => by (have := h9.1 h; cases this)
             simp; omega
theorem run_quo2 {a : Nat} (ha : a < 4294967296) (t : TypeId) (x y : Operand) (w : World) :
  (do eqGuard .quo t x y (.int .u32 (a : Int)) (.int .u32 2); binOp .quo t (.int .u32 (a : Int)) (.int .u32 2) : Sem Value).run Tryz.prog w = .ok (.int .u32 ((a / 2 : Nat) : Int)) w := by
 have h1 : (a : Int).tdiv 2 = ((a / 2 : Nat) : Int) := by
  rw [Int.tdiv_eq_ediv_of_nonneg (Int.natCast_nonneg _)]; simp
 have h2 := wrap_u32 (show a / 2 < 4294967296 by omega)
 simp only [Int.natCast_ediv] at h2 h1
 simp at h2 h1
 simp [eqGuard,binOp,Op.intDiv,h1,h2]
abbrev nums (l : List Nat) : List Value := l.map (fun (i : Nat) => Value.int .i64 (i : Int))
theorem nums_at {l : List Nat} {i v : Nat} (h : l[i]? = some v) : (nums l)[i]? = some (.int .i64 (v : Int)) := by
 rw [List.getElem?_map,h]; rfl
def featN (f i : Nat) : List Nat := (List.range i).filter (fun j => f.testBit j)
theorem featN_succ (f i : Nat) : featN f (i + 1) = featN f i ++ (if f.testBit i then [i] else []) := by
 unfold featN
 rw [List.range_succ,List.filter_append]
 congr 1
 cases h : f.testBit i <;> simp [h]
theorem featN_len (f i : Nat) : (featN f i).length ≤ i := by
 unfold featN
 exact Nat.le_trans (List.length_filter_le _ _) (by simp)
structure FeatG where
 i : Nat
 a : Option Addr
 c : Nat
theorem Features_c (f : Nat) (hf : f < 4294967296) (w : World) :
  Calls Tryz.prog 34 [.int .u32 (f : Int)].toArray w fun e w' => ∃ x : Option Addr × Nat,e = .returned (.slice x.1 (featL f).length x.2) ∧ St w [] [rowc (.slice x.1 (featL f).length x.2) (featL f).length 3 1 (nums (featL f))] w' := by
 refine enter Tryz.func34 rfl Tryz.ntmps34 rfl (St.init _) ?_
 refine jN 20 ?_
 refine WC.chunks (C' := [rowc (.slice none 0 0) 0 3 1 []]) (fun w hS => (hS.rowNil 3 1)) ?_
 refine WC.loop (α := FeatG) (fun g => g.i ≤ 24) (fun g => [(0,.int .u32 ((f >>> g.i : Nat) : Int)),(3,.slice g.a (featN f g.i).length g.c),(4,.int .i64 (g.i : Int))]) (fun g => [rowc (.slice g.a (featN f g.i).length g.c) (featN f g.i).length 3 1 (nums (featN f g.i))]) (fun g => 24 - g.i) (⟨0,none,0⟩) ?_ ?_ ?_ ?_
 ·exact Nat.zero_le _
 ·exact ⟨rfl,rfl,rfl,trivial⟩
 ·rfl
 rintro ⟨i,a,c⟩ hi
 dsimp only at hi
 show WC _ _ _ _ _ _ _ [(0,.int .u32 ((f >>> i : Nat) : Int)),(3,.slice a (featN f i).length c),(4,.int .i64 (i : Int))] [rowc (.slice a (featN f i).length c) (featN f i).length 3 1 (nums (featN f i))]
 refine jN 9 ?_
 refine WC.cond rfl (fun h6 => ?_) (fun h6 => ?_)
 ·have hlt : i < 24 := by simp at h6; omega
  have hfl := featN_len f i
  have hs32 : f >>> i < 4294967296 := Nat.lt_of_le_of_lt (by rw [Nat.shiftRight_eq_div_pow]; exact Nat.div_le_self _ _) hf
  refine jN 10 ?_
  refine WL.bin (v := .int .u32 ((f >>> i % 2 : Nat) : Int)) rfl rfl rfl (fun w => run_rem2 _ _ _ w) ?_
  refine jN 4 ?_
  refine WC.cond rfl (fun h11 => ?_) (fun h11 => ?_)
  ·have hbit : f.testBit i = true := by (have h9 : ((f >>> i % 2 : Nat) : Int) = 1 := by simpa using h11); rw [Nat.testBit_eq_decide_div_mod_eq,← Nat.shiftRight_eq_div_pow]; exact decide_eq_true (by omega)
   have hsucc := featN_succ f i
   rw [hbit,if_pos rfl] at hsucc
   refine jN 6 ?_
   refine WL.buildSlice F.sl41 F.ez41 rfl rfl rfl rfl jB rfl (fun b14 => ?_)
   refine jN 1 ?_
   refine WL.appendE (news := [.int .i64 (i : Int)]) F.el41 rfl rfl rfl jR (fun w hS jj u hu => by rw [Nat.zero_add]; exact hS.cell (cs := [.int .i64 (i : Int)]) jM hu) (by simp [nums]) jO (Nat.le_trans (m := 24) (by omega) (by decide)) (by omega) (fun a2 c2 => ?_)
   refine jN 8 ?_
   refine WL.bin (v := .int .u32 ((f >>> (i + 1) : Nat) : Int)) rfl rfl rfl (fun w => (run_quo2 hs32 _ _ _ w).trans (by rw [Nat.shiftRight_succ])) ?_
   refine jN 13 ?_
   refine WQ.chunks (C' := [rowc (.slice a2 ((featN f i).length + 1) c2) ((featN f i).length + 1) 3 1 (nums (featN f i) ++ [.int .i64 (i : Int)])]) (fun w hS => (jK hS)) ?_
   refine WQ.back ⟨i + 1,a2,c2⟩ (by show i + 1 ≤ 24; omega) (by show 24 - (i + 1) < 24 - i; omega) ?_ ?_
   ·simp only [hsucc,List.length_append,List.length_singleton]
    exact ⟨rfl,rfl,rfl,trivial⟩
   simp only [hsucc,List.length_append,List.length_singleton,nums,List.map_append,List.map_cons,List.map_nil]
  have hbit : f.testBit i = false := by (have h9 : ¬ ((f >>> i % 2 : Nat) : Int) = 1 := by simpa using h11); rw [Nat.testBit_eq_decide_div_mod_eq,← Nat.shiftRight_eq_div_pow]; exact decide_eq_false (by omega)
  have hsucc := featN_succ f i
  rw [hbit] at hsucc
  simp only [Bool.false_eq_true,if_false,List.append_nil] at hsucc
  refine jN 6 ?_
  refine WL.bin (v := .int .u32 ((f >>> (i + 1) : Nat) : Int)) rfl rfl rfl (fun w => (run_quo2 hs32 _ _ _ w).trans (by rw [Nat.shiftRight_succ])) ?_
  refine jN 13 ?_
  refine WQ.back ⟨i + 1,a,c⟩ (by show i + 1 ≤ 24; omega) (by show 24 - (i + 1) < 24 - i; omega) ?_ ?_
  ·simp only [hsucc]
   exact ⟨rfl,rfl,rfl,trivial⟩
  simp only [hsucc]
 have hie : i = 24 := by simp at h6; omega
 subst hie
 refine jN 14 ?_
 exact WQ.ret (rs := [.tmp 2]) rfl (.tmp rfl .nil) (fun w hS => ⟨(a,c),rfl,hS⟩)
theorem run_shl1W {k : Nat} (hk : k < 62) (t : TypeId) (x y : Operand) (w : World) :
  (do eqGuard .shl t x y (.int .i64 1) (.int .u64 (k : Int)); binOp .shl t (.int .i64 1) (.int .u64 (k : Int)) : Sem Value).run Tryz.prog w = .ok (.int .i64 ((2 ^ k : Nat) : Int)) w := by
 have h1 : ¬ (k : Int) < 0 := by omega
 have h2 : min (k : Int).toNat 64 = k := by omega
 have h3 : 2 ^ k < 2 ^ 62 := Nat.pow_lt_pow_right (by decide) hk
 have h4 : IntKind.i64.wrap ((2 ^ k : Nat) : Int) = ((2 ^ k : Nat) : Int) := by
  generalize 2 ^ k = n at h3
  unfold IntKind.wrap
  simp [IntKind.signed,IntKind.bits]
  omega
 simp only [eqGuard,binOp,Op.shift,IntKind.bits,h1,if_false,h2]
 simp only [Int.natCast_pow] at h4
 simp at h4
 simp [h4]
theorem Blank_c (v : List Nat) (hvl : v.length ≤ 24) (a : Option Addr) (c : Nat) (w : World) :
  Calls Tryz.prog 49 [.slice a v.length c].toArray w fun e w' => ∃ b : Nat,e = .returned (.agg [.slice a v.length c,.slice (some ⟨b,0,none⟩) (2 ^ v.length) (2 ^ v.length)].toArray) ∧ St w [] [rowc (.slice (some ⟨b,0,none⟩) (2 ^ v.length) (2 ^ v.length)) (2 ^ v.length) 4 1 (bls (List.replicate (2 ^ v.length) false))] w' := by
 have h2n : 2 ^ v.length ≤ 2 ^ 24 := Nat.pow_le_pow_right (by decide) hvl
 refine enter Tryz.func49 rfl Tryz.ntmps49 rfl (St.init _) ?_
 refine jN 3 ?_
 refine WL.alloc F.zero44 rfl (fun b2 => ?_)
 refine jN 11 ?_
 refine WL.convert rfl rfl (v := .int .u64 (v.length : Int)) (fun w hS => conv61 (by omega) w) ?_
 refine jN 1 ?_
 refine WL.bin (v := .int .i64 (((2 ^ v.length) : Nat) : Int)) rfl rfl rfl (fun w => run_shl1W (by omega) _ _ _ w) ?_
 refine jN 1 ?_
 refine WL.makeSlice (n := (2 ^ v.length)) (e := 4) (z := .bool false) (bytes := 1) F.und42 (by kernel_rfl) rfl rfl rfl rfl (by omega) (by omega) (fun b8 => ?_)
 refine jN 7 ?_
 refine WQ.ret (rs := [.cell 2 44]) rfl (.cellN F.agg44 rfl jM rfl .nil) (fun w hS => ⟨b8,rfl,?_⟩)
 have hS1 := St.rowOf (n := (2 ^ v.length)) (sz := 1) ((St.pick hS (c := pt b8 (List.replicate (2 ^ v.length) (Value.bool false)) 4) jR)) (by simp) (Nat.le_trans (m := 16777216) (by omega) (by decide))
 have e9 : bls (List.replicate (2 ^ v.length) false) = List.replicate (2 ^ v.length) (Value.bool false) := by simp [bls]
 rw [e9]
 exact (jK hS1)
theorem numN_32 {v : List Nat} (h : ∀ x ∈ v,x < 24) : numN v < 4294967296 := Nat.lt_of_lt_of_le (numN_lt v 0 h (by decide)) (by decide)
theorem Join_c (v u : List Nat) (hv24 : ∀ x ∈ v,x < 24) (hvl : v.length ≤ 24) (hu24 : ∀ x ∈ u,x < 24) (hul : u.length ≤ 24) (a a2 : Option Addr) (c c2 : Nat) (w : World) (hr : RdV w v a) (hr2 : RdV w u a2) :
  Calls Tryz.prog 174 [.slice a v.length c,.slice a2 u.length c2].toArray w fun e w' => ∃ y : Option Addr × Nat,e = .returned (.slice y.1 (featL (numN v ||| numN u)).length y.2) ∧ St w [] [rowc (.slice y.1 (featL (numN v ||| numN u)).length y.2) (featL (numN v ||| numN u)).length 3 1 (nums (featL (numN v ||| numN u)))] w' := by
 have hf32 : (numN v ||| numN u) < 4294967296 := Nat.lt_of_lt_of_le (Nat.or_lt_two_pow (n := 24) (numN_lt v 0 hv24 (by decide)) (numN_lt u 0 hu24 (by decide))) (by decide)
 refine enter Tryz.func174 rfl Tryz.ntmps174 rfl (St.init _) ?_
 refine jN 11 ?_
 refine WL.callV F.fun69 rfl rfl (fun w hS => Number_c v hv24 hvl a c w (hr.next hS)) ?_
 refine jN 3 ?_
 refine WL.callV F.fun69 rfl rfl (fun w hS => Number_c u hu24 hul a2 c2 w (hr2.next hS)) ?_
 refine jN 1 ?_
 refine WL.bin rfl rfl rfl (fun w => run_or (numN_32 hv24) (numN_32 hu24) _ _ _ w) ?_
 refine jN 1 ?_
 refine jC (β := Option Addr × Nat) (res := fun y => .slice y.1 (featL (numN v ||| numN u)).length y.2) (cs := fun y => [rowc (.slice y.1 (featL (numN v ||| numN u)).length y.2) (featL (numN v ||| numN u)).length 3 1 (nums (featL (numN v ||| numN u)))]) F.fun34 rfl (fun w hS _ => Features_c (numN v ||| numN u) hf32 w) (fun y10 => ?_)
 refine jN 5 ?_
 exact WQ.ret (rs := [.tmp 4]) rfl (.tmp rfl .nil) (fun w hS => ⟨y10,rfl,hS⟩)
end Go.Proofs.YtkgllhkhdjodeaaGreat
namespace Go.Eng
open Go Go.RowKit
mutual
def rdW (w : World) : Tree → List Nat → Value → Prop
 | .mk op name kids,F,v => ∃ s,v = .agg #[.int .u8 op,.string (str name),s] ∧
  ((kids = [] ∧ F = [] ∧ ∃ a cap,s = .slice a 0 cap) ∨
   (kids ≠ [] ∧ ∃ g cap G vs,s = .slice (some ⟨g,0,none⟩) kids.length cap ∧ F = g :: G ∧ w.ownsRow 0 24 3 (.slice (some ⟨g,0,none⟩) kids.length cap) kids.length (flat vs) ∧ rdWL w kids G vs))
def rdWL (w : World) : List Tree → List Nat → List Value → Prop
 | [],F,vs => F = [] ∧ vs = []
 | t :: ts,F,vs => ∃ F1 F2 v vs',F = F1 ++ F2 ∧ vs = v :: vs' ∧ rdW w t F1 v ∧ rdWL w ts F2 vs'
end
section
variable {w0 : World} {O : List Nat} {C : List Chunk}
end
open Go Go.RowKit
section
variable {P : Program} {w0 : World} {O : List Nat} {ops : Array Oper} {Q : Exit → Act → World → Prop} {N : Nat} {D : List Deferred} {L : FL} {C : List Chunk} {K : Act → World → Prop}
variable {ty : TypeId} {pos : String} {af : Array Edge}
theorem WL.storeRow1 {t : TypeId} {n sz cap : Nat} {x y : Operand} {g off : Nat} {xs xs' : List Value} {v : Value} {e : TypeId} {C' : List Chunk} (ht : One P t) (hx : ev L x = some (.pointer (some ⟨g,off,none⟩))) (hy : ev L y = some v) (hv : v.oneCell' = true)
  (hu : Upd (rowc (.slice (some ⟨g,0,none⟩) n cap) n e sz xs) (rowc (.slice (some ⟨g,0,none⟩) n cap) n e sz xs') C C') (hn : SetN xs off [v] xs') (h : WA w0 O K N D L C') :
  WK P w0 O ops Q ⟨none,.store t x y,ty,pos,af,none⟩ K N D L C := fun a w hF hS => by
 obtain ⟨hlen,hr⟩ := (show w.ownsRow 0 e sz (.slice (some ⟨g,0,none⟩) n cap) n xs from hS.ok _ hu.mem)
 rcases hr with ⟨h1,_⟩ | ⟨g',cap',cur,h1,_,hh,hnc,hcm,hcs,htk⟩
 ·cases h1
 ·injection h1 with h1 h2 h3
  injection h1 with h1
  injection h1 with h1
  subst h1; subst h3
  have hsplit : cur.toList = xs ++ cur.toList.drop (n * sz) := by rw [← htk,List.take_append_drop]
  have hn' : SetN cur.toList off [v] (xs' ++ cur.toList.drop (n * sz)) := by
   have := hn.append (cur.toList.drop (n * sz))
   rw [← hsplit] at this
   exact this
  have hh' : w.heap[g]? = some (.cells cur.toList.toArray e (0,0)) := by rw [Array.toArray_toList]; exact hh
  have hr := run_storeN (P := P) (t := t) (vs := [v]) ht.size (cells_one hv) (by simpa using hv) hh' hn'
  have hxl : xs'.length = xs.length := hn.len
  have hSt : St w0 O C' (w.setRow g (xs' ++ cur.toList.drop (n * sz)).toArray) := by
   refine hS.rowUpd (b := g) hu (fun k => ?_) (fun k => ?_) ?_
   ·constructor
    ·intro hk; exact (Option.some.inj hk).symm
    ·intro hk; rw [hk]; rfl
   ·constructor
    ·intro hk; exact (Option.some.inj hk).symm
    ·intro hk; rw [hk]; rfl
   ·refine ⟨by rw [hxl,hlen],.inr ⟨g,cap,(xs' ++ cur.toList.drop (n * sz)).toArray,rfl,Nat.zero_le _,setRow_heap w g _ _ e _ hh',hnc,hcm,?_,?_⟩⟩
    ·have := congrArg List.length hsplit
     simp at this ⊢
     omega
    ·have e2 : xs'.length = n * sz := by rw [hxl,hlen]
     show (xs' ++ cur.toList.drop (n * sz)).take (n * sz) = xs'
     rw [List.take_left' e2]
  exact wpo_skip rfl (by simp [execOp,hF.ev hx,hF.ev hy,hr]) (h _ _ hF hSt)
end
end Go.Eng
namespace Go.Proofs.YtkgllhkhdjodeaaGreat
open Go Go.Eng Go.Proofs Dg
def tabN (n i : Nat) (g : Nat → Bool) : List Bool := (List.range n).map (fun k => decide (k < i) && g k)
theorem tabN_len (n i : Nat) (g : Nat → Bool) : (tabN n i g).length = n := by simp [tabN]
theorem tabN_zero (n : Nat) (g : Nat → Bool) : tabN n 0 g = List.replicate n false := by
 unfold tabN
 apply List.ext_getElem (by simp)
 intro i h1 h2
 simp
theorem tabN_set {n i : Nat} (g : Nat → Bool) (hi : i < n) : (tabN n i g).set i (g i) = tabN n (i + 1) g := by
 apply List.ext_getElem (by simp [tabN])
 intro j h1 h2
 rw [List.getElem_set]
 by_cases h : i = j
 ·subst h; rw [if_pos rfl]; simp [tabN]
 rw [if_neg h]; simp [tabN]; have : j < i ↔ j < i + 1 := by omega
 simp [this]
structure RSetG where
 va : Option Addr
 vc : Nat
 b : Nat
end Go.Proofs.YtkgllhkhdjodeaaGreat
namespace Dg
def hasVar (v : Nat) : BT → Prop
 | .lf _ => False
 | .nd x l h => v = x ∨ hasVar v l ∨ hasVar v h
theorem sup_bit (j : Nat) : ∀ (l : List Dec) (s : Nat),(l.foldl (fun s x => s ||| 2 ^ x.1) s).testBit j = true ↔ s.testBit j = true ∨ ∃ x ∈ l,x.1 = j
 | [],s => by simp
 | x :: l,s => by
  rw [List.foldl_cons,sup_bit j l,Nat.testBit_or,Nat.testBit_two_pow]
  simp
  constructor
  ·rintro ((h | h) | h)
   ·exact .inl h
   ·exact .inr (.inl h)
   ·exact .inr (.inr h)
  ·rintro (h | h | h)
   ·exact .inl (.inl h)
   ·exact .inl (.inr h)
   ·exact .inr h
theorem visitT_var (t : BT) : ∀ (out : List Dec),∀ x ∈ (visitT t out).1,x ∈ out ∨ hasVar x.1 t := by
 induction t with
 | lf b => intro out x h; left; simpa [visitT] using h
 | nd v lo hi ihl ihh =>
  intro out x h
  unfold visitT at h
  cases hl : look out (.nd v lo hi) with
  | some p => rw [hl] at h; exact .inl h
  | none =>
   rw [hl] at h
   rcases List.mem_append.1 h with h | h
   ·rcases ihh _ x h with h | h
    ·rcases ihl _ x h with h | h
     ·exact .inl h
     ·exact .inr (.inr (.inl h))
    ·exact .inr (.inr (.inr h))
   ·rw [List.mem_singleton.1 h]; exact .inr (.inl rfl)
theorem trs_var {l : List Dec} (hm : Mk l) {v : Nat} : ∀ (t : BT) (p : Nat),p < l.length + 2 → trs l p = t → hasVar v t → ∃ x ∈ l,x.1 = v
 | .lf _,_,_,_,h => h.elim
 | .nd y lo hi,p,hp,he,h => by
  have h2 : 2 ≤ p := by
   rcases p with _ | _ | p
   ·rw [(trs_zero l).1] at he; cases he
   ·rw [(trs_zero l).2] at he; cases he
   ·omega
  obtain ⟨x,hx⟩ : ∃ x,l[p - 2]? = some x := ⟨_,List.getElem?_eq_getElem (by omega)⟩
  have ha := hm.at hx
  rw [show p - 2 + 2 = p by omega,he] at ha
  injection ha with h3 h4 h5
  have hk := hm.kid _ x hx
  have hxm := List.mem_of_getElem? hx
  rcases h with h | h | h
  ·exact ⟨x,hxm,by rw [h,h3]⟩
  ·exact trs_var hm lo x.2.1 (by have := (List.getElem?_eq_some_iff.1 hx).1; omega) h4.symm h
  ·exact trs_var hm hi x.2.2 (by have := (List.getElem?_eq_some_iff.1 hx).1; omega) h5.symm h
theorem sup_var {t : BT} (ho : t.ok 0) (v : Nat) : (supT (canon t).1).testBit v = true ↔ hasVar v t := by
 unfold supT
 rw [sup_bit]
 constructor
 ·rintro (h | ⟨x,hx,rfl⟩)
  ·simp at h
  rcases visitT_var t [] x hx with h | h
  ·cases h
  exact h
 intro h
 obtain ⟨x,hx,he⟩ := trs_var (canon_mk ho) t (canon t).2 (canon_at t).1 (canon_at t).2 h
 exact .inr ⟨x,hx,he⟩
theorem upd_comm (c : Cf) {x v : Nat} (a b : Bool) (h : x ≠ v) : upd (upd c v b) x a = upd (upd c x a) v b := by
 funext j
 unfold upd
 by_cases h1 : j = x
 ·subst h1; rw [if_pos rfl,if_neg h,if_pos rfl]
 rw [if_neg h1]
 by_cases h2 : j = v
 ·rw [if_pos h2,if_pos h2]
 rw [if_neg h2,if_neg h2,if_neg h1]
theorem not_var : ∀ {t : BT} {m v : Nat},t.ok m → (∀ c,t.ev (upd c v false) = t.ev (upd c v true)) → ¬ hasVar v t
 | .lf _,_,_,_,_ => fun h => h
 | .nd x l h,m,v,ho,hi => by
  have ho' := ho
  obtain ⟨h1,h2,h3,h4,h5⟩ := ho'
  have hl : ∀ c,l.ev c = (BT.nd x l h).ev (upd c x false) := fun c => (BT.ev_lo ho c).symm
  have hh : ∀ c,h.ev c = (BT.nd x l h).ev (upd c x true) := fun c => (BT.ev_hi ho c).symm
  rintro (rfl | hv | hv)
  ·exact h3 (BT.unique h4 h5 fun c => by rw [hl,hh]; exact hi c)
  ·by_cases hx : x = v
   ·subst hx
    exact h3 (BT.unique h4 h5 fun c => by rw [hl,hh]; exact hi c)
   ·exact not_var h4 (fun c => by rw [hl,hl,upd_comm c _ _ hx,upd_comm c _ _ hx]; exact hi _) hv
  ·by_cases hx : x = v
   ·subst hx
    exact h3 (BT.unique h4 h5 fun c => by rw [hl,hh]; exact hi c)
   ·exact not_var h5 (fun c => by rw [hh,hh,upd_comm c _ _ hx,upd_comm c _ _ hx]; exact hi _) hv
theorem no_var : ∀ {t : BT} {v : Nat},¬ hasVar v t → ∀ (c : Cf) (b : Bool),t.ev (upd c v b) = t.ev c
 | .lf _,_,_,_,_ => rfl
 | .nd x l h,v,hn,c,b => by
  have hx : x ≠ v := fun e => hn (.inl e.symm)
  simp only [BT.ev]
  rw [no_var (fun hv => hn (.inr (.inl hv))) c b,no_var (fun hv => hn (.inr (.inr hv))) c b,upd_ne c b hx]
theorem sup_dep {t : BT} (ho : t.ok 0) (v : Nat) : (supT (canon t).1).testBit v = true ↔ ∃ c,t.ev (upd c v false) ≠ t.ev (upd c v true) := by
 rw [sup_var ho]
 constructor
 ·intro h
  refine Classical.byContradiction fun hn => ?_
  exact not_var ho (fun c => Classical.byContradiction fun hc => hn ⟨c,hc⟩) h
 rintro ⟨c,hc⟩
 refine Classical.byContradiction fun hn => hc ?_
 rw [no_var hn,no_var hn]
theorem sup_fold {n : Nat} : ∀ (l : List Dec) (s : Nat),(∀ x ∈ l,x.1 < n) → s < 2 ^ n → l.foldl (fun s x => s ||| 2 ^ x.1) s < 2 ^ n
 | [],s,_,h => h
 | x :: l,s,hx,h => sup_fold l _ (fun y hy => hx y (List.mem_cons_of_mem _ hy)) (Nat.or_lt_two_pow h (Nat.pow_lt_pow_right (by decide) (hx x (List.mem_cons_self ..))))
theorem supT_take {l : List Dec} {k : Nat} {x : Dec} (h : l[k]? = some x) : supT (l.take (k + 1)) = supT (l.take k) ||| 2 ^ x.1 := by
 unfold supT
 rw [List.take_add_one,h]
 simp
end Dg
namespace Go.Proofs.YtkgllhkhdjodeaaGreat
open Go Go.Eng Go.Proofs Dg
theorem Support_c (t : BT) (a : Option Addr) (c : Nat) (w : World) (ht : RdD w t a) : Pure Tryz.prog 35 [dval t a c] w (.int .u32 (supT (canon t).1 : Int)) := by
 have hmk := canon_mk ht.1
 have hcl := canon_len ht.1
 refine enter Tryz.func35 rfl Tryz.ntmps35 rfl (St.init _) ?_
 refine jN 3 ?_
 refine WL.boxN rfl rfl (fun b1 => ?_)
 refine jN 24 ?_
 refine WC.chunks (C' := []) (fun w hS => hS.sublist (List.nil_sublist _)) ?_
 refine WC.loop (α := Nat) (fun i => i ≤ (canon t).1.length) (fun i => [(3,.int .u32 (supT ((canon t).1.take i) : Int)),(7,.slice a (canon t).1.length c),(8,.int .i64 ((canon t).1.length : Int)),(9,.int .i64 (i : Int))]) (fun _ => []) (fun i => (canon t).1.length - i) (0) ?_ ?_ ?_ ?_
 ·exact Nat.zero_le _
 ·exact ⟨rfl,rfl,rfl,rfl,trivial⟩
 ·rfl
 rintro i hi
 show WC _ _ _ _ _ _ _ [(3,.int .u32 (supT ((canon t).1.take i) : Int)),(7,.slice a (canon t).1.length c),(8,.int .i64 ((canon t).1.length : Int)),(9,.int .i64 (i : Int))] []
 refine jN 7 ?_
 refine WC.cond rfl (fun h10 => ?_) (fun h10 => ?_)
 ·have hlt : i < (canon t).1.length := by simpa using h10
  obtain ⟨x,hx⟩ : ∃ x,(canon t).1[i]? = some x := ⟨_,List.getElem?_eq_getElem hlt⟩
  have hkb := hmk.kid i x hx
  obtain ⟨bl,off,rfl,hcx⟩ := ht.2.at hx
  have hsl : supT ((canon t).1.take i) < 2 ^ 24 := sup_fold _ _ (fun y hy => (by obtain ⟨j,hj⟩ := List.getElem?_of_mem (List.mem_of_mem_take hy); exact (hmk.kid j y hj).1)) (by decide)
  have hx32 : 2 ^ x.1 < 4294967296 := pow32 (by omega)
  refine jN 7 ?_
  refine WL.indexAddr F.sl33 rfl rfl rfl hlt ?_
  refine jN 1 ?_
  refine WL.loadN F.agg104 rfl rfl (vs := [.int .i64 (x.1 : Int),.int .i64 (x.2.1 : Int),.int .i64 (x.2.2 : Int)]) rfl (fun w hS j v hv => hS.oldc (hcx j v hv) (by simp)) ?_
  refine jN 1 ?_
  refine WL.alloc F.zero104 rfl (fun b5 => ?_)
  refine jN 12 ?_
  refine WL.bin rfl rfl rfl (fun w => run_shl1 (by omega) _ _ _ w) ?_
  refine jN 1 ?_
  refine WL.bin rfl rfl rfl (fun w => run_or (by omega) hx32 _ _ _ w) ?_
  refine jN 11 ?_
  refine WQ.chunks (C' := []) (fun w hS => hS.sublist (List.nil_sublist _)) ?_
  refine WQ.back (i + 1) (by show i + 1 ≤ (canon t).1.length; omega) (by show (canon t).1.length - (i + 1) < (canon t).1.length - i; omega) ?_ rfl
  simp only [supT_take hx]
  exact ⟨rfl,rfl,rfl,rfl,trivial⟩
 have hie : i = (canon t).1.length := by simp at h10; omega
 subst hie
 rw [List.take_length]
 refine jN 14 ?_
 exact WQ.ret (rs := [.tmp 2]) rfl (.tmp rfl .nil) (fun w hS => ⟨rfl,hS⟩)
end Go.Proofs.YtkgllhkhdjodeaaGreat
namespace Fm
open Go Go.Eng
end Fm
namespace Fm
open Go Go.Eng
end Fm
namespace Go.Proofs.YtkgllhkhdjodeaaGreat
open Go Go.Eng Go.Proofs
end Go.Proofs.YtkgllhkhdjodeaaGreat
