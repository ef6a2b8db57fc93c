/- Parts of the walk, put together by a program. By an AI agent. -/
import Derived.Test.YtkgllhkhdjodeaaGreatPaFormulaSets3
import Derived.RangeFuncOwn
import Derived.RangeFuncLeaves
import Derived.RangeFuncSeq
import Derived.OrdersIn
import Derived.TacticsIn
import Derived.Laws.CopyRow
set_option linter.unusedSimpArgs false
set_option linter.unusedVariables false
namespace Go.Eng
open Go Go.RowKit
theorem SetN.append {cs cs' vs : List Value} {off : Nat} (ys : List Value) (h : SetN cs off vs cs') : SetN (cs ++ ys) off vs (cs' ++ ys) := by
 induction h with
 | nil => exact .done
 | done => exact .done
 | put _ ih => exact .put ih
 | skip _ ih => exact .skip ih
theorem SetN.len {cs cs' vs : List Value} {off : Nat} (h : SetN cs off vs cs') : cs'.length = cs.length := by
 obtain ⟨h1,h2⟩ := h.eq
 rw [← h1]; simp; omega
section
variable {P : Program} {w0 : World} {O : List Nat} {ops : Array Oper} {Q : Exit → Act → World → Prop} {N : Nat} {D : List Deferred} {L : FL} {C : List Chunk} {K : Act → World → Prop}
variable {d : Nat} {ty : TypeId} {pos : String} {af : Array Edge}
theorem St.rowUpd {w : World} {C' : List Chunk} {b : Nat} {c0 c1 : Chunk} {cs : Array Value} (h : St w0 O C w) (hu : Upd c0 c1 C C') (hf : ∀ k,c0.fp k ↔ k = b) (hf' : ∀ k,c1.fp k ↔ k = b) (hok : c1.ok (w.setRow b cs)) : St w0 O C' (w.setRow b cs) := by
 obtain ⟨R,p1,p2⟩ := hu.perm
 have h1 := h.perm p1
 refine St.perm ?_ p2.symm
 have hbO := (h1.bnd _ (List.mem_cons_self ..) b ((hf b).2 rfl))
 have hoth : ∀ k,k ≠ b → (w.setRow b cs).heap[k]? = w.heap[k]? := fun k hk => setRow_other w b k _ hk
 have hdis := List.pairwise_cons.1 h1.disj
 refine ⟨h.os,h.tape,h.output,by simpa using h.size,fun k hk ho => ?_,?_,?_,?_⟩
 ·by_cases hkb : k = b
  ·subst hkb; exact absurd (hbO.2 hk) ho
  rw [hoth k hkb]; exact h.old k hk ho
 ·intro c hc
  rcases List.mem_cons.1 hc with rfl | hc
  ·exact hok
  refine c.loc w _ (fun k hk => hoth k (fun e => ?_)) (h1.ok c (List.mem_cons_of_mem _ hc))
  exact hdis.1 c hc k ((hf k).2 e) hk
 ·intro c hc k hk
  rcases List.mem_cons.1 hc with rfl | hc
  ·have : k = b := (hf' k).1 hk
   subst this
   exact ⟨by simpa using hbO.1,hbO.2⟩
  simpa using h1.bnd c (List.mem_cons_of_mem _ hc) k hk
 exact List.Pairwise.cons (fun c hc k hk hk' => hdis.1 c hc k ((hf k).2 ((hf' k).1 hk)) hk') hdis.2
end
open Go Go.RowKit
def Keeps (wb w : World) (F : List Nat) (w' : World) : Prop := (∀ k ∈ F,w'.heap[k]? = w.heap[k]?) ∧ ∀ k,k < wb.heap.size → w'.heap[k]? = wb.heap[k]?
def shr (wb : World) (F : List Nat) (t : Tree) (v : Value) : Chunk where
 fp k := k ∈ F
 ok w := ∃ G,∀ w',Keeps wb w F w' → rdT w' t G v
 loc w w' h := fun ⟨G,hG⟩ => ⟨G,fun w2 hk => hG w2 ⟨fun k hkF => (hk.1 k hkF).trans (h k hkF),hk.2⟩⟩
section
variable {w0 : World} {O : List Nat} {C : List Chunk}
end
open Go Go.RowKit
section
variable {P : Program} {w0 : World} {O : List Nat} {ops : Array Oper} {Q : Exit → Act → World → Prop} {N : Nat} {D : List Deferred} {L : FL} {C : List Chunk} {K : Act → World → Prop}
variable {Fs : List (List Nat × (World → Prop))}
theorem WD.three {i j l fuel : Nat} {oi oj ol : Oper} {listed : Array Bool} (hr : Region.ready .any ops listed = [i,j,l]) (hi : ops[i]? = some oi) (hj : ops[j]? = some oj) (hl : ops[l]? = some ol)
  (h : WK P w0 O ops Q oi (fun a w => Sx Fs (listed.setIfInBounds i true) w ∧ wpAnyT P ops Q Fs fuel (listed.setIfInBounds i true) a w) N D L C)
  (h' : WK P w0 O ops Q oj (fun a w => Sx Fs (listed.setIfInBounds j true) w ∧ wpAnyT P ops Q Fs fuel (listed.setIfInBounds j true) a w) N D L C)
  (h'' : WK P w0 O ops Q ol (fun a w => Sx Fs (listed.setIfInBounds l true) w ∧ wpAnyT P ops Q Fs fuel (listed.setIfInBounds l true) a w) N D L C) : WD P w0 O ops Q Fs (fuel + 1) listed N D L C := fun hc a w hFr hS hSx => by
 refine ⟨fun h => (by rw [h] at hr; cases hr),fun k hk => ?_⟩
 rw [hr] at hk
 simp only [List.mem_cons,List.not_mem_nil,or_false] at hk
 rcases hk with rfl | rfl | rfl
 ·have := h a w hFr hS
  unfold wpOp
  simp only [hi]
  exact this
 ·have := h' a w hFr hS
  unfold wpOp
  simp only [hj]
  exact this
 ·have := h'' a w hFr hS
  unfold wpOp
  simp only [hl]
  exact this
end
open Go Go.RowKit
section
variable {P : Program} {w0 : World} {O : List Nat} {ops : Array Oper} {Q : Exit → Act → World → Prop} {N : Nat} {D : List Deferred} {L : FL} {C : List Chunk} {K : Act → World → Prop}
variable {d : Nat} {ty : TypeId} {pos : String} {af : Array Edge}
variable {κ : Type} [DecidableEq κ] {enc : κ → Value} {kt : TypeId}
theorem WL.insertG {t et : TypeId} {x y z : Operand} {b : Nat} {f : κ → Option Value} {vy v : Value} {C' : List Chunk} (k : κ) (hm : P.underlying t = some (.map kt et)) (hk : KeyT P kt enc)
  (hx : ev L x = some (.map (some b))) (hy : ev L y = some vy) (hvy : vy = enc k) (hz : ev L z = some v) (hu : Upd (mpg enc b f) (mpg enc b (fun q => if q = k then some v else f q)) C C') (h : WA w0 O K N D L C') :
  WK P w0 O ops Q ⟨none,.insert t x y z,ty,pos,af,none⟩ K N D L C := fun a w hF hS => by
 subst hvy
 obtain ⟨es,clock,kvs,h1,h2,h3⟩ := hS.ok _ hu.mem
 have hb : b < w.heap.size := ((hS.bnd _ hu.mem) b rfl).1
 have hf := hk.find w k es.toList kvs h2
 cases hh : kidx kvs k 0 with
 | none =>
  rw [hh] at hf
  have hr : (Instr.mapUpdate t (.map (some b)) (enc k) v).run P w = .ok () { w with heap := w.heap.setIfInBounds b (.map (es.push { key := enc k,val := v,born := clock }) (clock + 1)) } := by
   simp [Instr.mapUpdate,run_underlying hm,MapKept.run_getObj_map h1,hk.check,hf,MapKept.run_setObj_map _ h1,Result.andThen]
  refine wpo_skip rfl (w' := { w with heap := w.heap.setIfInBounds b (.map (es.push { key := enc k,val := v,born := clock }) (clock + 1)) }) ?_ (h _ _ hF (hS.setObj hu (fun k => Iff.rfl) (fun k => Iff.rfl) ⟨es.push { key := enc k,val := v,born := clock },clock + 1,kvs ++ [(k,v)],?_,?_,?_⟩))
  ·simp [execOp,hF.ev hx,hF.ev hy,hF.ev hz,hr]
  ·show (w.heap.setIfInBounds b _)[b]? = _
   rw [Array.getElem?_setIfInBounds_self_of_lt hb]
  ·simp [h2]
  ·intro q
   rw [kfind_snoc (kidx_none.1 hh) q]
   simp only [h3]
 | some p =>
  obtain ⟨j,u⟩ := p
  rw [hh] at hf
  obtain ⟨_,g2,g3,g4⟩ := kidx_some hh
  simp only [Nat.sub_zero] at g2 g4
  have hlen : es.toList.length = kvs.length := by have := congrArg List.length h2; simpa using this
  have hjl : j < es.toList.length := by rw [hlen]; exact (List.getElem?_eq_some_iff.1 g2).1
  have hej : es.toList[j]? = some es.toList[j] := List.getElem?_eq_getElem hjl
  have hkey : es.toList[j].key = enc k := by
   have e1 : (es.toList.map (fun e => (e.key,e.val)))[j]? = some (es.toList[j].key,es.toList[j].val) := by rw [List.getElem?_map,hej]; rfl
   rw [h2,List.getElem?_map,g2] at e1
   simp only [Option.map_some,Option.some.injEq,Prod.mk.injEq] at e1
   exact e1.1.symm
  have hej' : es[j]? = some es.toList[j] := by rw [← Array.getElem?_toList]; exact hej
  have hkey2 := hkey
  simp only [Array.getElem_toList] at hkey2
  have hr : (Instr.mapUpdate t (.map (some b)) (enc k) v).run P w = .ok () { w with heap := w.heap.setIfInBounds b (.map (es.modify j fun e => { e with key := enc k,val := v }) clock) } := by
   simp [Instr.mapUpdate,run_underlying hm,MapKept.run_getObj_map h1,hk.check,hf,MapKept.run_setObj_map _ h1,Result.andThen,hej',hkey,hkey2,hk.stays]
  refine wpo_skip rfl (w' := { w with heap := w.heap.setIfInBounds b (.map (es.modify j fun e => { e with key := enc k,val := v }) clock) }) ?_ (h _ _ hF (hS.setObj hu (fun k => Iff.rfl) (fun k => Iff.rfl) ⟨es.modify j fun e => { e with key := enc k,val := v },clock,kvs.set j (k,v),?_,?_,?_⟩))
  ·simp [execOp,hF.ev hx,hF.ev hy,hF.ev hz,hr]
  ·show (w.heap.setIfInBounds b _)[b]? = _
   rw [Array.getElem?_setIfInBounds_self_of_lt hb]
  ·rw [Array.toList_modify,map_modify_set _ _ _ _ _ hej,h2,List.map_set]
  ·intro q
   rw [g4 v q]
   simp only [h3]
theorem WC.cutQ {c : Code} (M : FL) (C' : List Chunk) (hq : NoLook Q) (hx : ∀ Q',NoLook Q' → WQ w0 O Q' .normal N D M C' → WC P w0 O c Q' N D L C) (hy : WQ w0 O Q .normal N D M C') : WC P w0 O c Q N D L C := hx Q hq hy
theorem Yl.minI {F : World → Prop} {x y : Operand} {k k' : IntKind} {m n r : Int} {ts : Array TypeId} (hx : ev L x = some (.int k m)) (hy : ev L y = some (.int k' n)) (hr : (if n < m then n else m) = r) :
  Yl P N D L F ⟨some d,.call { callee := .builtin .min,args := #[x,y],argTypes := ts },ty,pos,af,none⟩ (.int k r) := fun a w hF _ => by
 subst hr
 simp [execOp,resolve,invoke,builtin,hF.ev hx,hF.ev hy,Builtin.min_,Builtin.min2]
theorem WL.minI {x y : Operand} {k k' : IntKind} {m n r : Int} {ts : Array TypeId} (hd : Nat.blt d N = true) (hx : ev L x = some (.int k m)) (hy : ev L y = some (.int k' n)) (hr : (if n < m then n else m) = r)
  (h : WA w0 O K N D ((d,.int k r) :: L) C) :
  WK P w0 O ops Q ⟨some d,.call { callee := .builtin .min,args := #[x,y],argTypes := ts },ty,pos,af,none⟩ K N D L C :=
 WL.y (F := fun _ => True) (Yl.minI hx hy hr) hd (fun _ _ => trivial) h
theorem WL.min3 {x y z : Operand} {k k' k'' : IntKind} {m n o r : Int} {ts : Array TypeId} (hd : Nat.blt d N = true) (hx : ev L x = some (.int k m)) (hy : ev L y = some (.int k' n)) (hz : ev L z = some (.int k'' o)) (hr : (if o < (if n < m then n else m) then o else (if n < m then n else m)) = r)
  (h : WA w0 O K N D ((d,.int k r) :: L) C) :
  WK P w0 O ops Q ⟨some d,.call { callee := .builtin .min,args := #[x,y,z],argTypes := ts },ty,pos,af,none⟩ K N D L C := by
 subst hr
 refine WL.y (F := fun _ => True) (fun a w hF _ => ?_) hd (fun _ _ => trivial) h
 simp [execOp,resolve,invoke,builtin,hF.ev hx,hF.ev hy,hF.ev hz,Builtin.min_,Builtin.min2]
theorem run_xor {a b : Nat} (ha : a < 9223372036854775808) (hb : b < 9223372036854775808) (t : TypeId) (x y : Operand) (w : World) :
  (do eqGuard .xor t x y (.int .i64 (a : Int)) (.int .i64 (b : Int)); binOp .xor t (.int .i64 (a : Int)) (.int .i64 (b : Int)) : Sem Value).run P w = .ok (.int .i64 ((a ^^^ b : Nat) : Int)) w := by
 have h1 : (a ^^^ b) < 2 ^ 63 := Nat.xor_lt_two_pow (by omega) (by omega)
 simp only [eqGuard,binOp,Op.intBits,IntKind.bits]
 have e : ∀ n : Nat,BitVec.ofInt 64 (n : Int) = BitVec.ofNat 64 n := fun n => by
  apply BitVec.eq_of_toNat_eq
  simp
 have h2 : ((BitVec.ofInt 64 (a : Int)) ^^^ (BitVec.ofInt 64 (b : Int))).toNat = a ^^^ b := by
  rw [e,e,BitVec.toNat_xor,BitVec.toNat_ofNat,BitVec.toNat_ofNat,Nat.mod_eq_of_lt (by omega),Nat.mod_eq_of_lt (by omega)]
 have h3 : IntKind.i64.wrap (((BitVec.ofInt 64 (a : Int) ^^^ BitVec.ofInt 64 (b : Int)).toNat : Nat) : Int) = ((a ^^^ b : Nat) : Int) := by rw [h2]; exact wrap_in (by omega) (by omega)
 rw [e,e] at h3
 simp
 exact h3
end
end Go.Eng
namespace Go.Proofs.YtkgllhkhdjodeaaGreat
open Go Go.Eng Go.Proofs Dg
theorem venv_of {w0 w : World} {O : List Nat} {Fv : List Nat} {b2 b4 b5 b6 b7 b9 bm bk c : Nat} {l : List Dec} {a : Option Addr} {fk : Dec → Option Nat} (hS : St w0 O [vis Fv b5 b9 l [],pt b7 [visF b6 b2 b7 b5] 237,pt b6 [.map (some b9)] 236,pt b2 [pp bm] 200,pt b4 [.slice none 0 0,.int .i64 0] 35,pt bm [.slice a l.length c,.map (some bk)] 235,rowc (.slice a l.length c) l.length 104 3 (decs l),mpg enc3 bk (fun y => (fk y).map encI)] w) : VEnv w Fv b6 b2 b7 b5 b9 bm l a c := by
 have hd := hS.disj
 simp only [List.pairwise_cons,List.mem_cons,List.not_mem_nil,or_false,forall_eq_or_imp,forall_eq] at hd
 obtain ⟨⟨d1,d2,d3,d4,d5,d6,d7⟩,_⟩ := hd
 have hap : ∀ {b : Nat} {cs : List Value} {e : TypeId},(∀ k,(vis Fv b5 b9 l []).fp k → ¬ (pt b cs e).fp k) → b ∉ Fv := fun h hb => h _ hb rfl
 refine ⟨hS.cell jM rfl,hap d2,hS.cell jM rfl,hap d3,hS.cell jM rfl,hap d1,hS.cell (cs := [.slice a l.length c,.map (some bk)]) jM rfl,hap d5,fun j u hu => ?_⟩
 obtain ⟨b,off,e1,e2⟩ := RdDec.of_row (l := l) (a := a) (cap := c) rfl (hS.ok (rowc (.slice a l.length c) l.length 104 3 (decs l)) jM) j u hu
 refine ⟨b,off,e1,e2,fun hb => d6 b hb ?_⟩
 show (Value.slice a l.length c).ownBlock = some b
 have hpos : 0 < l.length := by
  have h1 := (List.getElem?_eq_some_iff.1 hu).1
  rw [decs_len] at h1; omega
 obtain ⟨g,hg,_,_⟩ := rowc_addr (hS.ok (rowc (.slice a l.length c) l.length 104 3 (decs l)) jM) hpos
 subst hg
 injection e1 with e
 injection e with e _
 rw [← e]; rfl
theorem done_c (Fp : List Nat) (bm : Nat) (l : List Dec) (r : Nat) (w : World) (hm : Mk l) (hr : r < l.length + 2) (ho : (trs l r).ok 0) (hlen : l.length ≤ 16777216) (hS0 : St w Fp [mkr Fp bm l] w) :
  Calls Tryz.prog 148 [pp bm,.int .i64 (r : Int)].toArray w fun e w' => ∃ x : Option Addr × Nat,e = .returned (dval (trs l r) x.1 x.2) ∧ St w Fp [dC x.1 x.2 (trs l r)] w' := by
 obtain ⟨⟨a,c,bk,fk⟩,hk,h1,h2,hS0⟩ := hS0.bunOpen
 simp only [List.cons_append,List.nil_append] at hS0
 refine enter Tryz.func148 rfl Tryz.ntmps148 rfl (C := [pt bm [.slice a l.length c,.map (some bk)] 235,rowc (.slice a l.length c) l.length 104 3 (decs l),mpg enc3 bk (fun y => (fk y).map encI)]) hS0 ?_
 refine jN 3 ?_
 refine WL.box1 rfl rfl rfl (fun b2 => ?_)
 refine jN 1 ?_
 refine WL.alloc F.zero35 rfl (fun b4 => ?_)
 refine jN 5 ?_
 refine WL.alloc F.zero33 rfl (fun b5 => ?_)
 refine jN 5 ?_
 refine WL.makeMapG encI rfl (fun b9 => ?_)
 refine jN 1 ?_
 refine WL.insertG (f := fun _ : Nat => none) 0 undMI keyInt rfl rfl rfl rfl jU ?_
 refine jN 1 ?_
 refine WL.insertG (f := fun q : Nat => if q = 0 then some (.int .i64 0) else none) 1 undMI keyInt rfl rfl rfl rfl jU ?_
 refine jN 3 ?_
 refine WL.alloc F.zero236 rfl (fun b6 => ?_)
 refine jN 7 ?_
 refine WL.alloc F.zero237 rfl (fun b7 => ?_)
 refine jN 12 ?_
 refine WA.chunksE (C' := fun Fv => [vis Fv b5 b9 l [],pt b7 [visF b6 b2 b7 b5] 237,pt b6 [.map (some b9)] 236,pt b2 [pp bm] 200,pt b4 [.slice none 0 0,.int .i64 0] 35,pt bm [.slice a l.length c,.map (some bk)] 235,rowc (.slice a l.length c) l.length 104 3 (decs l),mpg enc3 bk (fun y => (fk y).map encI)]) (fun w hS => ?_) (fun Fv => ?_)
 ·exact St.visClose (l := l) (o := []) (a := none) (c := 0) (bk := b9) (bo := b5) (n := 0) (PlaceOk.nil hm) place_map0 rfl rfl (jK (hS.rowNil 104 3))
 refine jN 5 ?_
 refine WL.callFC (β := List Nat) (us := []) (cap := [pp b6,pp b2,pp b7,pp b5]) (res := fun y => .int .i64 ((visitT (trs l r) []).2 : Int)) (cs := fun y => [vis y b5 b9 l (visitT (trs l r) []).1]) (Cs := [vis Fv b5 b9 l []]) (C1 := [pt b7 [visF b6 b2 b7 b5] 237,pt b6 [.map (some b9)] 236,pt b2 [pp bm] 200,pt b4 [.slice none 0 0,.int .i64 0] 35,pt bm [.slice a l.length c,.map (some bk)] 235,rowc (.slice a l.length c) l.length 104 3 (decs l),mpg enc3 bk (fun y => (fk y).map encI)]) (O' := Fv) F.fun172 (fun d h => by cases h; rfl) rfl rfl (List.Perm.refl _) bun_O1 bun_O2 (fun w hS hS2 => visit_c b6 b2 b7 b5 b9 bm l a c hm (by omega) (r + 1) r (Nat.lt_succ_self _) Fv [] w hr Mk.nil ⟨_,ho⟩ (Nat.le_of_lt (canon_len ho)) (venv_of hS) hS2) (fun F2 => ?_)
 refine jN 6 ?_
 refine WA.openB (fun x3 hk3 h13 h23 => ?_)
 obtain ⟨a3,c3,f3⟩ := x3
 simp only [viCs,List.cons_append,List.nil_append]
 refine jN 11 ?_
 refine WQ.ret (rs := [.cell 4 35]) rfl (.cellN F.agg35 rfl jM rfl .nil) (fun w hS => ⟨(a3,c3),rfl,(jK hS)⟩)
structure FoldG (σ : Type) where
 i : Nat
 out : List Int
 ad : Option Addr
 ac : Nat
 s : σ
theorem Fold_c {σ : Type} (ch : σ → Chunk) (Fs : σ → List Nat) (hF : ∀ s,FpIs (ch s) (Fs s)) (fj : Nat) (hg : funB Tryz.prog fj = some true) (us cap : List Value) (l : List Dec) (a : Option Addr) (c root : Nat) (e0 e1 : Int) (I : List Int → σ → Prop)
  (hll : l.length ≤ 16777216) (hkid : ∀ k x,l[k]? = some x → x.2.1 < k + 2 ∧ x.2.2 < k + 2) (hroot : root < l.length + 2) (s0 : σ) (h0 : I [e0,e1] s0)
  (hj : ∀ (out : List Int) (s : σ) (x : Dec) (z1 z2 : Int) (w : World),l[out.length - 2]? = some x → I out s → out[x.2.1]? = some z1 → out[x.2.2]? = some z2 → St w (Fs s) [ch s] w →
   Calls Tryz.prog fj (us ++ [Value.int .i64 (x.1 : Int),.int .i64 z1,.int .i64 z2] ++ cap).toArray w fun e w' => ∃ y : { y : σ × Int // I (out ++ [y.2]) y.1 },e = .returned (.int .i64 y.1.2) ∧ St w (Fs s) [ch y.1.1] w')
  (w : World) (hrd : RdDecO w l a (Fs s0)) (hS0 : St w (Fs s0) [ch s0] w) :
  Calls Tryz.prog 53 [.agg [.slice a l.length c,.int .i64 (root : Int)].toArray,.int .i64 e0,.int .i64 e1,Value.func (.func fj) us.toArray cap.toArray].toArray w fun e w' =>
   ∃ y : { y : List Int × σ × Int // I y.1 y.2.1 ∧ y.1.length = l.length + 2 ∧ y.1[root]? = some y.2.2 },e = .returned (.int .i64 y.1.2.2) ∧ St w (Fs s0) [ch y.1.2.1] w' := by
 refine enter Tryz.func53 rfl Tryz.ntmps53 rfl (C := [ch s0]) hS0 ?_
 refine jN 3 ?_
 refine WL.boxN rfl rfl (fun b4 => ?_)
 refine jN 11 ?_
 refine WL.buildSlice F.sl41 F.ez41 rfl rfl rfl rfl jB rfl (fun b14 => ?_)
 refine jN 18 ?_
 refine WC.chunks (fun w hS => St.rowOf (n := 2) (sz := 1) (cs := [e0,e1].map (Value.int .i64)) (hS.pick (c := pt b14 [.int .i64 e0,.int .i64 e1] 3) jR) rfl (by decide)) ?_
 refine WC.chunks (C' := [ch s0,rowc (.slice (some ⟨b14,0,none⟩) 2 2) 2 3 1 ([e0,e1].map (Value.int .i64)),pt b4 [.slice a l.length c,.int .i64 (root : Int)] 35]) (fun w hS => (jK hS)) ?_
 refine WC.loop (α := FoldG σ) (fun g => g.i ≤ l.length ∧ g.out.length = g.i + 2 ∧ I g.out g.s) (fun g => [(3,Value.func (.func fj) us.toArray cap.toArray),(4,pp b4),(9,.slice g.ad (g.i + 2) g.ac),(16,.slice a l.length c),(17,.int .i64 (l.length : Int)),(18,.int .i64 (g.i : Int))]) (fun g => [ch g.s,rowc (.slice g.ad (g.i + 2) g.ac) (g.i + 2) 3 1 (g.out.map (Value.int .i64)),pt b4 [.slice a l.length c,.int .i64 (root : Int)] 35]) (fun g => l.length - g.i) (⟨0,[e0,e1],some ⟨b14,0,none⟩,2,s0⟩) ?_ ?_ ?_ ?_
 ·exact ⟨Nat.zero_le _,rfl,h0⟩
 ·exact ⟨rfl,rfl,rfl,rfl,rfl,rfl,trivial⟩
 ·rfl
 rintro ⟨i,out,ad,ac,s⟩ ⟨hi,hol,hI⟩
 dsimp only at hi hol hI
 show WC _ _ _ _ _ _ _ [(3,Value.func (.func fj) us.toArray cap.toArray),(4,pp b4),(9,.slice ad (i + 2) ac),(16,.slice a l.length c),(17,.int .i64 (l.length : Int)),(18,.int .i64 (i : Int))] [ch s,rowc (.slice ad (i + 2) ac) (i + 2) 3 1 (out.map (Value.int .i64)),pt b4 [.slice a l.length c,.int .i64 (root : Int)] 35]
 refine jN 7 ?_
 refine WC.cond rfl (fun h19 => ?_) (fun h19 => ?_)
 ·have hlt : i < l.length := by simpa using h19
  obtain ⟨x,hx⟩ : ∃ x,l[i]? = some x := ⟨_,List.getElem?_eq_getElem hlt⟩
  obtain ⟨k1,k2⟩ := hkid i x hx
  obtain ⟨bl,off,rfl,hbl,hcx⟩ := hrd.at hx
  obtain ⟨z1,hz1⟩ : ∃ z,out[x.2.1]? = some z := ⟨_,List.getElem?_eq_getElem (by omega)⟩
  obtain ⟨z2,hz2⟩ : ∃ z,out[x.2.2]? = some z := ⟨_,List.getElem?_eq_getElem (by omega)⟩
  refine jN 7 ?_
  refine WL.indexAddr F.sl33 rfl rfl rfl hlt ?_
  refine jN 1 ?_
  refine WL.loadN F.agg104 rfl rfl (vs := [Value.int .i64 (x.1 : Int),.int .i64 (x.2.1 : Int),.int .i64 (x.2.2 : Int)]) rfl (fun w hS j v hv => hS.oldc (hcx j v hv) hbl) ?_
  refine jN 1 ?_
  refine WL.alloc F.zero104 rfl (fun b11 => ?_)
  refine jN 4 ?_
  refine WC.know (φ := ∃ g2,ad = some ⟨g2,0,none⟩ ∧ i + 2 = i + 2 ∧ i + 2 ≤ ac) (fun w hS => rowc_addr (hS.ok (rowc (.slice ad (i + 2) ac) (i + 2) 3 1 (out.map (Value.int .i64))) jM) (by omega)) (fun ⟨g2,hg2,_,_⟩ => ?_)
  subst hg2
  refine WC.drawsL (by kernel_rfl) (FactsOk.cons (ds := [14,15,16]) (LoadOk.one (t := 11) (off := 0) rfl jM rfl) (FactsOk.cons (ds := [14,15,16]) (LoadOk.one (t := 11) (off := 1) rfl jM rfl) (FactsOk.cons (ds := [14,15,16]) (LoadOk.by (Y := fun w => w.cell? ⟨g2,0 + x.2.1 * 1,none⟩ = some (.int .i64 z1)) (fun w hS => by rw [Nat.zero_add,Nat.mul_one]; exact rowc_cell (hS.ok (rowc (.slice (some ⟨g2,0,none⟩) (i + 2) ac) (i + 2) 3 1 (out.map (Value.int .i64))) jM) (by simp [hz1]))) (FactsOk.cons (ds := [14,15,16]) (LoadOk.one (t := 11) (off := 2) rfl jM rfl) (FactsOk.cons (ds := [14,15,16]) (LoadOk.by (Y := fun w => w.cell? ⟨g2,0 + x.2.2 * 1,none⟩ = some (.int .i64 z2)) (fun w hS => by rw [Nat.zero_add,Nat.mul_one]; exact rowc_cell (hS.ok (rowc (.slice (some ⟨g2,0,none⟩) (i + 2) ac) (i + 2) 3 1 (out.map (Value.int .i64))) jM) (by simp [hz2]))) (FactsOk.nil)))))) ?_
  refine jT 0 rfl (Yl.move rfl) ?_
  refine jT 1 rfl (Yl.move rfl) ?_
  refine jT 2 rfl (Yl.fieldAddr0 F.fld104_0 rfl) ?_
  refine jF 3 0 rfl rfl (Yl.load1 F.one3 rfl) ?_
  refine jT 4 rfl (Yl.move rfl) ?_
  refine jT 5 rfl (Yl.fieldAddr0 F.fld104_1 rfl) ?_
  refine jF 6 1 rfl rfl (Yl.load1 F.one3 rfl) ?_
  refine jT 7 rfl (Yl.indexAddr F.sl41 rfl rfl (by omega)) ?_
  refine jF 8 2 rfl rfl (Yl.load1 F.one3 rfl) ?_
  refine jT 9 rfl (Yl.move rfl) ?_
  refine jT 10 rfl (Yl.fieldAddr0 F.fld104_2 rfl) ?_
  refine jF 11 3 rfl rfl (Yl.load1 F.one3 rfl) ?_
  refine jT 12 rfl (Yl.indexAddr F.sl41 rfl rfl (by omega)) ?_
  refine jF 13 4 rfl rfl (Yl.load1 F.one3 rfl) ?_
  refine jA 14 rfl ?_
  refine WL.callFC (β := { y : σ × Int // I (out ++ [y.2]) y.1 }) (us := us) (cap := cap) (res := fun y => .int .i64 y.1.2) (cs := fun y => [ch y.1.1]) (Cs := [ch s]) (C1 := [pt b11 [Value.int .i64 (x.1 : Int),.int .i64 (x.2.1 : Int),.int .i64 (x.2.2 : Int)] 104,rowc (.slice (some ⟨g2,0,none⟩) (i + 2) ac) (i + 2) 3 1 (out.map (Value.int .i64)),pt b4 [.slice (some ⟨bl,off,none⟩) l.length c,.int .i64 (root : Int)] 35]) (O' := Fs s) hg (fun d h => by cases h; rfl) rfl rfl ?_ (fun c hc k hk => (by rw [List.mem_singleton.1 hc] at hk; exact (hF s k).1 hk)) (fun k hk => ⟨_,List.mem_singleton.2 rfl,(hF s k).2 hk⟩) (fun w hS hS2 => hj out s x z1 z2 w (by rw [hol]; simpa using hx) hI hz1 hz2 hS2) (fun y36 => ?_)
  ·exact ((List.Perm.swap _ _ _).trans (List.Perm.refl _))
  refine jG ?_
  refine jA 15 rfl ?_
  refine WL.buildSlice F.sl41 F.ez41 rfl rfl rfl rfl jB rfl (fun b37 => ?_)
  refine jG ?_
  refine jA 16 rfl ?_
  refine WL.appendE (news := [.int .i64 y36.1.2]) F.el41 rfl rfl rfl jR (fun w hS jj u hu => by rw [Nat.zero_add]; exact hS.cell (cs := [.int .i64 y36.1.2]) jM hu) rfl jO (Nat.le_trans (m := 33554432) (by omega) (by decide)) (by omega) (fun ad2 ac2 => ?_)
  refine jG ?_
  refine jT 17 rfl (Yl.assign rfl) ?_
  refine jD ?_
  refine jN 8 ?_
  refine WQ.chunks (C' := [ch y36.1.1,rowc (.slice ad2 (i + 1 + 2) ac2) (i + 1 + 2) 3 1 ((out ++ [y36.1.2]).map (Value.int .i64)),pt b4 [.slice (some ⟨bl,off,none⟩) l.length c,.int .i64 (root : Int)] 35]) (fun w hS => ?_) ?_
  ·rw [List.map_append]
   exact (jK hS)
  refine WQ.back (⟨i + 1,out ++ [y36.1.2],ad2,ac2,y36.1.1⟩) ?_ ?_ ?_ ?_
  ·exact ⟨by show i + 1 ≤ _; omega,by simp [hol],y36.2⟩
  ·(show l.length - (i + 1) < l.length - i; omega)
  ·exact ⟨rfl,rfl,rfl,rfl,rfl,rfl,trivial⟩
  rfl
 have hie : i = l.length := by simp at h19; omega
 subst hie
 obtain ⟨z,hz⟩ : ∃ z,out[root]? = some z := ⟨_,List.getElem?_eq_getElem (by omega)⟩
 refine jN 7 ?_
 refine WA.know (φ := ∃ g2,ad = some ⟨g2,0,none⟩ ∧ l.length + 2 = l.length + 2 ∧ l.length + 2 ≤ ac) (fun w hS => rowc_addr (hS.ok (rowc (.slice ad (l.length + 2) ac) (l.length + 2) 3 1 (out.map (Value.int .i64))) jM) (by omega)) (fun ⟨g2,hg2,_,_⟩ => ?_)
 subst hg2
 refine jN 7 ?_
 refine WL.indexAddr F.sl41 rfl rfl rfl (by omega) ?_
 refine jN 1 ?_
 refine WL.load1 F.one3 rfl rfl (v := .int .i64 z) (fun w hS => by rw [Nat.zero_add,Nat.mul_one]; exact rowc_cell (hS.ok (rowc (.slice (some ⟨g2,0,none⟩) (l.length + 2) ac) (l.length + 2) 3 1 (out.map (Value.int .i64))) jM) (by simp [hz])) ?_
 refine jN 5 ?_
 refine WQ.ret (rs := [.tmp 8]) rfl (.tmp rfl .nil) (fun w hS => ⟨⟨(out,s,z),hI,hol,hz⟩,rfl,(jK hS)⟩)
theorem at_c (l : List Dec) (a : Option Addr) (c root r : Nat) (w : World) (hll : l.length ≤ 16777216) (hr : r < l.length + 2) (hrd : RdDec w l a) :
  Pure Tryz.prog 176 [.agg [.slice a l.length c,.int .i64 (root : Int)].toArray,.int .i64 (r : Int)] w (.agg [.int .i64 ((atD l r).1 : Int),.int .i64 ((atD l r).2.1 : Int),.int .i64 ((atD l r).2.2 : Int)].toArray) := by
 refine enter Tryz.func176 rfl Tryz.ntmps176 rfl (St.init _) ?_
 refine jN 3 ?_
 refine WL.boxN rfl rfl (fun b2 => ?_)
 refine jN 1 ?_
 refine WL.alloc F.zero104 rfl (fun b4 => ?_)
 refine jN 11 ?_
 refine WC.cond rfl (fun h6 => ?_) (fun h6 => ?_)
 have h2 : r < 2 := by simp at h6; omega
 have ha : atD l r = (24,r,r) := by unfold atD; rw [if_pos h2]
 refine jN 14 ?_
 rotate_left
 have h2 : 2 ≤ r := by simp at h6; omega
 obtain ⟨x,hx⟩ : ∃ x,l[r - 2]? = some x := ⟨_,List.getElem?_eq_getElem (by omega)⟩
 have ha : atD l r = x := atD_ge h2 hx
 obtain ⟨bl,off,rfl,hcx⟩ := hrd.at hx
 have hri : ((r - 2 : Nat) : Int) = (r : Int) - 2 := by omega
 refine jN 12 ?_
 refine WA.say 13 (.int .i64 ((r - 2 : Nat) : Int)) (by rw [hri]; rfl) ?_
 refine jN 1 ?_
 refine WL.indexAddr F.sl33 rfl rfl rfl (List.getElem?_eq_some_iff.1 hx).1 ?_
 refine jN 1 ?_
 refine WL.loadN F.agg104 rfl rfl (vs := [Value.int .i64 (x.1 : Int),.int .i64 (x.2.1 : Int),.int .i64 (x.2.2 : Int)]) rfl (fun w hS j v hv => hS.oldc (hcx j v hv) (by simp)) ?_
 refine jN 5 ?_
 rotate_left
 all_goals
  exact WQ.ret (rs := [.cell 4 104]) rfl (.cellN F.agg104 rfl jM rfl .nil) (fun w hS => ⟨by rw [ha]; rfl,hS.sublist (List.nil_sublist _)⟩)
structure OpOk (g : Nat) (bop : Bool → Bool → Bool) (opf : Nat → Nat → Nat × Bool) : Prop where
 fn : funB Tryz.prog g = some true
 spec : OpSpec bop opf
 call : ∀ (x y : Nat) (w : World),x ≤ 1099511627776 → y ≤ 1099511627776 → Pure Tryz.prog g [.int .i64 (x : Int),.int .i64 (y : Int)] w (.tuple #[.int .i64 ((opf x y).1 : Int),.bool (opf x y).2])
theorem both_c (x y : Nat) (w : World) (hx : x ≤ 1099511627776) (hy : y ≤ 1099511627776) : Pure Tryz.prog 130 [.int .i64 (x : Int),.int .i64 (y : Int)] w (.tuple #[.int .i64 ((andF x y).1 : Int),.bool (andF x y).2]) := by
 refine enter Tryz.func130 rfl Tryz.ntmps130 rfl (St.init _) ?_
 refine jN 15 ?_
 refine WL.min3 (r := ((min (min x y) 1 : Nat) : Int)) rfl rfl rfl rfl (by (repeat split) <;> omega) ?_
 refine jN 6 ?_
 refine WA.splitB (i := 11) rfl (fun g11 => ?_) (fun g11 => ?_)
 ·refine jN 29 ?_
  refine WQ.ret (rs := [.tmp 4,.tmp 5]) rfl (.tmp rfl (.tmp rfl .nil)) (fun w hS => ⟨?_,hS⟩)
  have e : ∀ b : Bool,b = (andF x y).2 → Ending.returned (tup [.int .i64 ((min (min x y) 1 : Nat) : Int),.bool b]) = .returned (.tuple #[.int .i64 ((andF x y).1 : Int),.bool (andF x y).2]) := fun b hb => by rw [hb]; rfl
  refine e _ ?_
  unfold andF
  simp at *
  first | done | omega | (simp [*]; done) | (rw [Bool.eq_iff_iff]; simp; omega)
 refine jN 10 ?_
 refine WA.splitB (i := 15) rfl (fun g15 => ?_) (fun g15 => ?_)
 ·refine jN 21 ?_
  refine WQ.ret (rs := [.tmp 4,.tmp 5]) rfl (.tmp rfl (.tmp rfl .nil)) (fun w hS => ⟨?_,hS⟩)
  have e : ∀ b : Bool,b = (andF x y).2 → Ending.returned (tup [.int .i64 ((min (min x y) 1 : Nat) : Int),.bool b]) = .returned (.tuple #[.int .i64 ((andF x y).1 : Int),.bool (andF x y).2]) := fun b hb => by rw [hb]; rfl
  refine e _ ?_
  unfold andF
  simp at *
  first | done | omega | (simp [*]; done) | (rw [Bool.eq_iff_iff]; simp; omega)
 refine jN 9 ?_
 refine WA.splitB (i := 18) rfl (fun g18 => ?_) (fun g18 => ?_)
 refine jN 18 ?_
 rotate_left
 refine jN 16 ?_
 rotate_left
 all_goals
  refine WQ.ret (rs := [.tmp 4,.tmp 5]) rfl (.tmp rfl (.tmp rfl .nil)) (fun w hS => ⟨?_,hS⟩)
  have e : ∀ b : Bool,b = (andF x y).2 → Ending.returned (tup [.int .i64 ((min (min x y) 1 : Nat) : Int),.bool b]) = .returned (.tuple #[.int .i64 ((andF x y).1 : Int),.bool (andF x y).2]) := fun b hb => by rw [hb]; rfl
  refine e _ ?_
  unfold andF
  simp at *
  first | done | omega | (simp [*]; done) | (rw [Bool.eq_iff_iff]; simp; omega)
theorem both_ok : OpOk 130 (fun p q => p && q) andF := ⟨F.fun130,and_spec,both_c⟩
theorem odd_c (x y : Nat) (w : World) (hx : x ≤ 1099511627776) (hy : y ≤ 1099511627776) : Pure Tryz.prog 150 [.int .i64 (x : Int),.int .i64 (y : Int)] w (.tuple #[.int .i64 ((xorF x y).1 : Int),.bool (xorF x y).2]) := by
 refine enter Tryz.func150 rfl Tryz.ntmps150 rfl (St.init _) ?_
 refine jN 15 ?_
 refine WL.bin rfl rfl rfl (fun w => run_xor (by omega) (by omega) _ _ _ w) ?_
 refine jN 6 ?_
 refine WA.splitB (i := 11) rfl (fun g11 => ?_) (fun g11 => ?_)
 refine jN 15 ?_
 rotate_left
 refine jN 13 ?_
 rotate_left
 all_goals
  refine WQ.ret (rs := [.tmp 4,.tmp 5]) rfl (.tmp rfl (.tmp rfl .nil)) (fun w hS => ⟨?_,hS⟩)
  have e : ∀ b : Bool,b = (xorF x y).2 → Ending.returned (tup [.int .i64 ((x ^^^ y : Nat) : Int),.bool b]) = .returned (.tuple #[.int .i64 ((xorF x y).1 : Int),.bool (xorF x y).2]) := fun b hb => by rw [hb]; rfl
  refine e _ ?_
  unfold xorF
  simp at *
  first | done | omega | (simp [*]; done) | (rw [Bool.eq_iff_iff]; simp; omega)
theorem odd_ok : OpOk 150 (fun p q => p != q) xorF := ⟨F.fun150,xor_spec,odd_c⟩
theorem either_c (x y : Nat) (w : World) (hx : x ≤ 1099511627776) (hy : y ≤ 1099511627776) : Pure Tryz.prog 151 [.int .i64 (x : Int),.int .i64 (y : Int)] w (.tuple #[.int .i64 ((orF x y).1 : Int),.bool (orF x y).2]) := by
 refine enter Tryz.func151 rfl Tryz.ntmps151 rfl (St.init _) ?_
 refine jN 17 ?_
 refine WA.splitB (i := 8) rfl (fun g8 => ?_) (fun g8 => ?_)
 ·have hor : x = 1 ∨ y = 1 := by (simp at g8; omega)
  have ho : orF x y = (1,true) := by (unfold orF; rw [if_pos hor])
  refine jN 19 ?_
  refine WQ.ret (rs := [.tmp 4,.tmp 5]) rfl (.tmp rfl (.tmp rfl .nil)) (fun w hS => ⟨?_,hS⟩)
  rw [ho]; rfl
 refine jN 10 ?_
 refine WC.cond rfl (fun h11 => ?_) (fun h11 => ?_)
 ·have hor : x = 1 ∨ y = 1 := by (first | (simp at g8; omega) | (simp at h11; omega) | (simp at *; omega))
  have ho : orF x y = (1,true) := by (unfold orF; rw [if_pos hor])
  refine jN 10 ?_
  refine WQ.ret (rs := [.tmp 4,.tmp 5]) rfl (.tmp rfl (.tmp rfl .nil)) (fun w hS => ⟨?_,hS⟩)
  rw [ho]; rfl
 have hor : ¬ (x = 1 ∨ y = 1) := by (simp at g8 h11; omega)
 have ho : orF x y = (0,x == 0 && y == 0) := by (unfold orF; rw [if_neg hor])
 refine jN 10 ?_
 refine WA.splitB (i := 14) rfl (fun g14 => ?_) (fun g14 => ?_)
 refine jN 15 ?_
 rotate_left
 refine jN 13 ?_
 rotate_left
 all_goals
  refine WQ.ret (rs := [.tmp 4,.tmp 5]) rfl (.tmp rfl (.tmp rfl .nil)) (fun w hS => ⟨?_,hS⟩)
  rw [ho]
  have e : ∀ b : Bool,b = (x == 0 && y == 0) → Ending.returned (tup [.int .i64 0,.bool b]) = .returned (.tuple #[.int .i64 ((0 : Nat) : Int),.bool (x == 0 && y == 0)]) := fun b hb => by rw [hb]; rfl
  refine e _ ?_
  simp at *
  first | done | omega | (simp [*]; done) | (rw [Bool.eq_iff_iff]; simp; omega)
theorem either_ok : OpOk 151 (fun p q => p || q) orF := ⟨F.fun151,or_spec,either_c⟩
theorem keyPair : KeyT Tryz.prog 243 enc2 := KeyT.twoOf (by kernel_rfl)
theorem undMP : Tryz.prog.underlying 221 = some (.map 243 3) := by kernel_rfl
abbrev jnCs (bm bs : Nat) (l : List Dec) (f : Nat × Nat → Option Nat) (F1 : List Nat) : List Chunk := [mkr F1 bm l,mpg enc2 bs (fun q => (f q).map encI)]
def jns (F : List Nat) (bm bs : Nat) (l : List Dec) (f : Nat × Nat → Option Nat) : Chunk := bun F (jnCs bm bs l f) (fun _ => True)
theorem St.jnsClose {w0 w : World} {O : List Nat} {C : List Chunk} {F1 : List Nat} {bm bs : Nat} {l : List Dec} {f : Nat × Nat → Option Nat} (h : St w0 O (mkr F1 bm l :: mpg enc2 bs (fun q => (f q).map encI) :: C) w) : St w0 O (jns (F1 ++ ([bs] ++ [])) bm bs l f :: C) w :=
 St.bunClose' (Cs := jnCs bm bs l f) F1 trivial (.cons FpIs.bun (.cons FpIs.mpg .nil)) h
theorem pair_map {f : Nat × Nat → Option Nat} {k : Nat × Nat} {n : Nat} {z : Int} (hz : z = (n : Int)) : (fun q : Nat × Nat => if q = k then some (Value.int .i64 z) else (f q).map encI) = (fun y => (if y = k then some n else f y).map encI) := by
 funext q
 by_cases h : q = k
 ·rw [if_pos h,if_pos h,hz]; rfl
 rw [if_neg h,if_neg h]
theorem RdDecO.now {w0 w : World} {F : List Nat} {C : List Chunk} {l : List Dec} {a : Option Addr} (h : RdDecO w0 l a F) (hS : St w0 F C w) : RdDec w l a := fun j u hu => by
 obtain ⟨b,off,e1,e2,e3⟩ := h j u hu
 exact ⟨b,off,e1,hS.oldc e2 e3⟩
structure JEnv (w : World) (F : List Nat) (bp bm bs : Nat) (la lb : List Dec) (aa ab : Option Addr) (ca cb ra rb : Nat) : Prop where
 ce : ∀ j v,[pp bm,.slice aa la.length ca,.int .i64 (ra : Int),.slice ab lb.length cb,.int .i64 (rb : Int),.map (some bs)][j]? = some v → w.cell? ⟨bp,j,none⟩ = some v
 ce' : bp ∉ F
 rda : RdDecO w la aa F
 rdb : RdDecO w lb ab F
theorem JEnv.next {w0 w : World} {F F' : List Nat} {C1 : List Chunk} {bp bm bs ca cb ra rb : Nat} {la lb l : List Dec} {aa ab : Option Addr} {f : Nat × Nat → Option Nat} (h : JEnv w0 F bp bm bs la lb aa ab ca cb ra rb) (hS : St w0 F ([jns F' bm bs l f] ++ C1) w) : JEnv w F' bp bm bs la lb aa ab ca cb ra rb := by
 have hap := fun {z : Nat} (h1 : z < w0.heap.size) (h2 : z ∉ F) => hS.apart (F := F') bun_O2 h1 h2
 refine ⟨fun j v hv => hS.oldc (h.ce j v hv) h.ce',hap (World.block_lt_of_cell? w0 _ (h.ce 0 _ rfl)) h.ce',fun j u hu => ?_,fun j u hu => ?_⟩
 ·obtain ⟨b,off,e1,e2,e3⟩ := h.rda j u hu
  exact ⟨b,off,e1,hS.oldc e2 e3,hap (World.block_lt_of_cell? w0 _ e2) e3⟩
 obtain ⟨b,off,e1,e2,e3⟩ := h.rdb j u hu
 exact ⟨b,off,e1,hS.oldc e2 e3,hap (World.block_lt_of_cell? w0 _ e2) e3⟩
abbrev JT := List Nat × List Dec × (Nat × Nat → Option Nat) × Nat
structure JPost (bop : Bool → Bool → Bool) (la lb l : List Dec) (m x y : Nat) (z : JT) : Prop where
 ismk : Mk z.2.1
 pre : ∃ t,z.2.1 = l ++ t
 len : z.2.1.length + 1 ≤ l.length + 2 ^ (24 - m)
 jr : JR bop z.2.1 z.2.2.2 (trs la x) (trs lb y)
 seen : SeenOk bop la lb z.2.1 z.2.2.1
set_option maxRecDepth 100000 in
theorem join_c (g : Nat) (bop : Bool → Bool → Bool) (opf : Nat → Nat → Nat × Bool) (hop : OpOk g bop opf) (bp bm bs : Nat) (la lb : List Dec) (aa ab : Option Addr) (ca cb ra rb : Nat) (ha : Mk la) (hb : Mk lb) (hla : la.length ≤ 16777216) (hlb : lb.length ≤ 16777216) : ∀ (n m : Nat),m ≤ 24 → 24 - m < n →
  ∀ (Fp : List Nat) (l : List Dec) (f : Nat × Nat → Option Nat) (x y : Nat) (w : World),x < la.length + 2 → y < lb.length + 2 → (trs la x).ok m → (trs lb y).ok m → Mk l → SeenOk bop la lb l f → l.length + 2 ^ (24 - m) ≤ 16777216 → JEnv w Fp bp bm bs la lb aa ab ca cb ra rb → St w Fp [jns Fp bm bs l f] w →
  Calls Tryz.prog 163 [pp bp,.int .i64 (x : Int),.int .i64 (y : Int),Value.func (.func g) [].toArray [].toArray].toArray w fun e w' => ∃ z : { z : JT // JPost bop la lb l m x y z },e = .returned (.int .i64 (z.1.2.2.2 : Int)) ∧ St w Fp [jns z.1.1 bm bs z.1.2.1 z.1.2.2.1] w' := by
 intro n
 induction n with
 | zero => intro m; omega
 | succ n hrec =>
 intro m hm24 hmn Fp l f x y w hx hy hox hoy hm hsn hsz hE hS0
 have hpow : l.length + 1 ≤ l.length + 2 ^ (24 - m) := by have := Nat.one_le_two_pow (n := 24 - m); omega
 obtain ⟨F1,_,h1,h2,hS0⟩ := hS0.bunOpen
 simp only [jnCs,List.cons_append,List.nil_append] at hS0
 refine enter Tryz.func163 rfl Tryz.ntmps163 rfl (C := [mkr F1 bm l,mpg enc2 bs (fun q => (f q).map encI)]) hS0 ?_
 refine jN 16 ?_
 refine WL.callF0 (β := Unit) (res := fun _ => .returned (.tuple #[.int .i64 ((opf x y).1 : Int),.bool (opf x y).2])) (cs := fun _ => []) (ψ := fun _ => True) (us := []) (cap := []) hop.fn (fun d h => by cases h; rfl) rfl rfl (fun w hS => (hop.call x y w (by omega) (by omega)).mono (fun e w2 h => ⟨(),trivial,h.1,h.2⟩)) (fun _ _ => ?_)
 refine WL.step ?_
 refine WL.move rfl rfl ?_
 refine WL.step ?_
 refine WL.extract rfl rfl rfl ?_
 refine WL.step ?_
 refine WL.extract rfl rfl rfl ?_
 refine WL.step ?_
 refine WL.assign rfl rfl ?_
 refine WL.step ?_
 refine WL.assign rfl rfl ?_
 refine WL.nil ?_
 refine WQ.then_normal ?_
 refine WC.seq ?_
 refine WC.region ?_
 refine WL.step ?_
 refine WL.move rfl rfl ?_
 refine WL.nil ?_
 refine WQ.then_normal ?_
 refine WC.cond rfl (fun h28 => ?_) (fun h28 => ?_)
 ·refine jN 10 ?_
  refine WQ.ret (rs := [.tmp 8]) rfl (.tmp rfl .nil) (fun w hS => ⟨⟨(_,l,f,(opf x y).1),⟨hm,⟨[],by simp⟩,hpow,hop.spec.done h28,hsn⟩⟩,rfl,St.jnsClose hS⟩)
 refine jN 9 ?_
 refine WL.buildA F.arT243 rfl jB rfl ?_
 refine jN 1 ?_
 refine WL.alloc F.zero243 rfl (fun b11 => ?_)
 refine jN 6 ?_
 rcases Option.eq_none_or_eq_some (f (x,y)) with hf | ⟨r,hf⟩
 ·refine WC.drawsL (by kernel_rfl) (FactsOk.cons (ds := []) (LoadOk.by (Y := fun w => w.cell? ⟨bp,5,none⟩ = some (.map (some bs))) (fun w hS => hS.oldc (hE.ce 5 _ rfl) hE.ce')) (FactsOk.cons (ds := []) (LoadOk.whole (t := 11) rfl jM) (FactsOk.cons (ds := []) (LoadOk.by (Y := fun w => (mpg enc2 bs (fun q => (f q).map encI)).ok w) (fun w hS => hS.ok _ jM)) (FactsOk.nil)))) ?_
  refine jT 0 rfl (Yl.move rfl) ?_
  refine jT 1 rfl (Yl.nilCheck rfl) ?_
  refine jT 2 rfl (Yl.fieldAddr0 F.fld223_3 rfl) ?_
  refine jF 3 0 rfl rfl (Yl.load1 F.one221 rfl) ?_
  refine jF 4 1 rfl rfl (Yl.loadN F.agg243 rfl rfl) ?_
  refine jF 5 2 rfl rfl (Yl.lookupMiss (f := fun q => (f q).map encI) (x,y) undMP keyPair zeroInt rfl rfl rfl (by rw [hf]; rfl)) ?_
  refine jT 6 rfl (Yl.move rfl) ?_
  refine jT 7 rfl (Yl.extract rfl rfl) ?_
  refine jT 8 rfl (Yl.extract rfl rfl) ?_
  refine jT 9 rfl (Yl.assign rfl) ?_
  refine jT 10 rfl (Yl.assign rfl) ?_
  refine jD ?_
  refine jN 11 ?_
  refine WC.cutPE (α := Nat × Nat) (fun z => [(0,pp bp),(1,.int .i64 (x : Int)),(2,.int .i64 (y : Int)),(3,Value.func (.func g) [].toArray [].toArray),(11,pp b11),(14,pp z.1),(15,pp z.2)]) (fun z => [pt z.1 [Value.int .i64 ((atD la x).1 : Int),.int .i64 ((atD la x).2.1 : Int),.int .i64 ((atD la x).2.2 : Int)] 104,pt z.2 [Value.int .i64 ((atD lb y).1 : Int),.int .i64 ((atD lb y).2.1 : Int),.int .i64 ((atD lb y).2.2 : Int)] 104,pt b11 [Value.int .i64 (x : Int),.int .i64 (y : Int)] 243,mkr F1 bm l,mpg enc2 bs (fun q => (f q).map encI)]) (fun c a d v w h => by cases d <;> exact h) (fun Q' hP hQ => ?_) (fun xE => ?_)
  ·refine WC.drawsL (by kernel_rfl) (FactsOk.cons (ds := [5,11,14,15]) (LoadOk.by (Y := fun w => ∀ j v,[Value.slice aa la.length ca,.int .i64 (ra : Int)][j]? = some v → w.cell? ⟨bp,1 + j,none⟩ = some v) (fun w hS => fun j v hv => hS.oldc (hE.ce (1 + j) v (by rw [Nat.add_comm]; rcases j with _ | _ | j <;> first | exact hv | simp at hv)) hE.ce')) (FactsOk.cons (ds := [11,14,15]) (LoadOk.by (Y := fun w => ∀ j v,[Value.slice ab lb.length cb,.int .i64 (rb : Int)][j]? = some v → w.cell? ⟨bp,3 + j,none⟩ = some v) (fun w hS => fun j v hv => hS.oldc (hE.ce (3 + j) v (by rw [Nat.add_comm]; rcases j with _ | _ | j <;> first | exact hv | simp at hv)) hE.ce')) (FactsOk.nil))) ?_
   refine jT 0 rfl (Yl.move rfl) ?_
   refine jT 1 rfl (Yl.nilCheck rfl) ?_
   refine jT 2 rfl (Yl.fieldAddr0 F.fld223_1 rfl) ?_
   refine jF 3 0 rfl rfl (Yl.loadN F.agg35 rfl rfl) ?_
   refine jT 4 rfl (Yl.move rfl) ?_
   refine jT 6 rfl (Yl.move rfl) ?_
   refine jT 7 rfl (Yl.nilCheck rfl) ?_
   refine jT 8 rfl (Yl.fieldAddr0 F.fld223_2 rfl) ?_
   refine jF 9 1 rfl rfl (Yl.loadN F.agg35 rfl rfl) ?_
   refine jT 10 rfl (Yl.move rfl) ?_
   refine WD.three (i := 5) (j := 12) (l := 13) (by kernel_rfl) rfl rfl rfl ?_ ?_ ?_
   ·refine WL.callV F.fun176 rfl rfl (fun w hS => at_c la aa ca ra x w (by omega) hx (hE.rda.now hS)) ?_
    refine WD.on (closed_of (by kernel_rfl)) (fun w hS => Sx.gone rfl (Sx.keep (fun j v hv => hS.oldc (hE.ce (3 + j) v (by rw [Nat.add_comm]; rcases j with _ | _ | j <;> first | exact hv | simp at hv)) hE.ce') (Sx.none))) ?_
    refine WD.three (i := 11) (j := 12) (l := 13) (by kernel_rfl) rfl rfl rfl ?_ ?_ ?_
    refine WL.callV F.fun176 rfl rfl (fun w hS => at_c lb ab cb rb y w (by omega) hy (hE.rdb.now hS)) ?_
    refine jG ?_
    refine WD.two (i := 12) (j := 13) (by kernel_rfl) rfl rfl ?_ ?_
    refine WL.alloc F.zero104 rfl (fun b14 => ?_)
    refine jG ?_
    refine jA 13 rfl ?_
    refine WL.alloc F.zero104 rfl (fun b15 => ?_)
    rotate_left
    refine WL.alloc F.zero104 rfl (fun b15 => ?_)
    refine jG ?_
    refine jA 12 rfl ?_
    refine WL.alloc F.zero104 rfl (fun b14 => ?_)
    rotate_left
    refine WL.alloc F.zero104 rfl (fun b14 => ?_)
    refine WD.on (closed_of (by kernel_rfl)) (fun w hS => Sx.gone rfl (Sx.keep (fun j v hv => hS.oldc (hE.ce (3 + j) v (by rw [Nat.add_comm]; rcases j with _ | _ | j <;> first | exact hv | simp at hv)) hE.ce') (Sx.none))) ?_
    refine WD.two (i := 11) (j := 13) (by kernel_rfl) rfl rfl ?_ ?_
    refine WL.callV F.fun176 rfl rfl (fun w hS => at_c lb ab cb rb y w (by omega) hy (hE.rdb.now hS)) ?_
    refine jG ?_
    refine jA 13 rfl ?_
    refine WL.alloc F.zero104 rfl (fun b15 => ?_)
    rotate_left
    refine WL.alloc F.zero104 rfl (fun b15 => ?_)
    refine WD.on (closed_of (by kernel_rfl)) (fun w hS => Sx.gone rfl (Sx.keep (fun j v hv => hS.oldc (hE.ce (3 + j) v (by rw [Nat.add_comm]; rcases j with _ | _ | j <;> first | exact hv | simp at hv)) hE.ce') (Sx.none))) ?_
    refine jA 11 rfl ?_
    refine WL.callV F.fun176 rfl rfl (fun w hS => at_c lb ab cb rb y w (by omega) hy (hE.rdb.now hS)) ?_
    rotate_left
    refine WL.alloc F.zero104 rfl (fun b15 => ?_)
    refine WD.on (closed_of (by kernel_rfl)) (fun w hS => Sx.gone rfl (Sx.keep (fun j v hv => hS.oldc (hE.ce (3 + j) v (by rw [Nat.add_comm]; rcases j with _ | _ | j <;> first | exact hv | simp at hv)) hE.ce') (Sx.none))) ?_
    refine WD.two (i := 11) (j := 12) (by kernel_rfl) rfl rfl ?_ ?_
    refine WL.callV F.fun176 rfl rfl (fun w hS => at_c lb ab cb rb y w (by omega) hy (hE.rdb.now hS)) ?_
    refine jG ?_
    refine jA 12 rfl ?_
    refine WL.alloc F.zero104 rfl (fun b14 => ?_)
    rotate_left
    refine WL.alloc F.zero104 rfl (fun b14 => ?_)
    refine WD.on (closed_of (by kernel_rfl)) (fun w hS => Sx.gone rfl (Sx.keep (fun j v hv => hS.oldc (hE.ce (3 + j) v (by rw [Nat.add_comm]; rcases j with _ | _ | j <;> first | exact hv | simp at hv)) hE.ce') (Sx.none))) ?_
    refine jA 11 rfl ?_
    refine WL.callV F.fun176 rfl rfl (fun w hS => at_c lb ab cb rb y w (by omega) hy (hE.rdb.now hS)) ?_
    rotate_left
    all_goals
     rotate_left
     all_goals
      refine jG ?_
      refine jA 14 rfl ?_
      refine WL.storeN F.agg104 rfl rfl rfl jO jU jS ?_
      refine jG ?_
      refine jA 15 rfl ?_
      refine WL.storeN F.agg104 rfl rfl rfl jO jU jS ?_
      refine jG ?_
      refine jD ?_
      refine WQ.chunks (C' := [pt (b14,b15).1 [Value.int .i64 ((atD la x).1 : Int),.int .i64 ((atD la x).2.1 : Int),.int .i64 ((atD la x).2.2 : Int)] 104,pt (b14,b15).2 [Value.int .i64 ((atD lb y).1 : Int),.int .i64 ((atD lb y).2.1 : Int),.int .i64 ((atD lb y).2.2 : Int)] 104,pt b11 [Value.int .i64 (x : Int),.int .i64 (y : Int)] 243,mkr F1 bm l,mpg enc2 bs (fun q => (f q).map encI)]) (fun w hS => (jK hS)) ?_
      exact WQ.byCut (hQ (b14,b15)) ⟨rfl,rfl,rfl,rfl,rfl,rfl,rfl,trivial⟩
   ·refine WL.alloc F.zero104 rfl (fun b14 => ?_)
    refine WD.on (closed_of (by kernel_rfl)) (fun w hS => Sx.keep (fun j v hv => hS.oldc (hE.ce (1 + j) v (by rw [Nat.add_comm]; rcases j with _ | _ | j <;> first | exact hv | simp at hv)) hE.ce') (Sx.keep (fun j v hv => hS.oldc (hE.ce (3 + j) v (by rw [Nat.add_comm]; rcases j with _ | _ | j <;> first | exact hv | simp at hv)) hE.ce') (Sx.none))) ?_
    refine WD.two (i := 5) (j := 13) (by kernel_rfl) rfl rfl ?_ ?_
    ·refine WL.callV F.fun176 rfl rfl (fun w hS => at_c la aa ca ra x w (by omega) hx (hE.rda.now hS)) ?_
     refine WD.on (closed_of (by kernel_rfl)) (fun w hS => Sx.gone rfl (Sx.keep (fun j v hv => hS.oldc (hE.ce (3 + j) v (by rw [Nat.add_comm]; rcases j with _ | _ | j <;> first | exact hv | simp at hv)) hE.ce') (Sx.none))) ?_
     refine WD.two (i := 11) (j := 13) (by kernel_rfl) rfl rfl ?_ ?_
     refine WL.callV F.fun176 rfl rfl (fun w hS => at_c lb ab cb rb y w (by omega) hy (hE.rdb.now hS)) ?_
     refine jG ?_
     refine jA 13 rfl ?_
     refine WL.alloc F.zero104 rfl (fun b15 => ?_)
     rotate_left
     refine WL.alloc F.zero104 rfl (fun b15 => ?_)
     refine WD.on (closed_of (by kernel_rfl)) (fun w hS => Sx.gone rfl (Sx.keep (fun j v hv => hS.oldc (hE.ce (3 + j) v (by rw [Nat.add_comm]; rcases j with _ | _ | j <;> first | exact hv | simp at hv)) hE.ce') (Sx.none))) ?_
     refine jA 11 rfl ?_
     refine WL.callV F.fun176 rfl rfl (fun w hS => at_c lb ab cb rb y w (by omega) hy (hE.rdb.now hS)) ?_
     rotate_left
     all_goals
      refine jG ?_
      refine jA 14 rfl ?_
      refine WL.storeN F.agg104 rfl rfl rfl jO jU jS ?_
      refine jG ?_
      refine jA 15 rfl ?_
      refine WL.storeN F.agg104 rfl rfl rfl jO jU jS ?_
      refine jG ?_
      refine jD ?_
      refine WQ.chunks (C' := [pt (b14,b15).1 [Value.int .i64 ((atD la x).1 : Int),.int .i64 ((atD la x).2.1 : Int),.int .i64 ((atD la x).2.2 : Int)] 104,pt (b14,b15).2 [Value.int .i64 ((atD lb y).1 : Int),.int .i64 ((atD lb y).2.1 : Int),.int .i64 ((atD lb y).2.2 : Int)] 104,pt b11 [Value.int .i64 (x : Int),.int .i64 (y : Int)] 243,mkr F1 bm l,mpg enc2 bs (fun q => (f q).map encI)]) (fun w hS => (jK hS)) ?_
      exact WQ.byCut (hQ (b14,b15)) ⟨rfl,rfl,rfl,rfl,rfl,rfl,rfl,trivial⟩
    refine WL.alloc F.zero104 rfl (fun b15 => ?_)
    refine WD.on (closed_of (by kernel_rfl)) (fun w hS => Sx.keep (fun j v hv => hS.oldc (hE.ce (1 + j) v (by rw [Nat.add_comm]; rcases j with _ | _ | j <;> first | exact hv | simp at hv)) hE.ce') (Sx.keep (fun j v hv => hS.oldc (hE.ce (3 + j) v (by rw [Nat.add_comm]; rcases j with _ | _ | j <;> first | exact hv | simp at hv)) hE.ce') (Sx.none))) ?_
    refine jA 5 rfl ?_
    refine WL.callV F.fun176 rfl rfl (fun w hS => at_c la aa ca ra x w (by omega) hx (hE.rda.now hS)) ?_
    refine WD.on (closed_of (by kernel_rfl)) (fun w hS => Sx.gone rfl (Sx.keep (fun j v hv => hS.oldc (hE.ce (3 + j) v (by rw [Nat.add_comm]; rcases j with _ | _ | j <;> first | exact hv | simp at hv)) hE.ce') (Sx.none))) ?_
    refine jA 11 rfl ?_
    refine WL.callV F.fun176 rfl rfl (fun w hS => at_c lb ab cb rb y w (by omega) hy (hE.rdb.now hS)) ?_
    refine jG ?_
    refine jA 14 rfl ?_
    refine WL.storeN F.agg104 rfl rfl rfl jO jU jS ?_
    refine jG ?_
    refine jA 15 rfl ?_
    refine WL.storeN F.agg104 rfl rfl rfl jO jU jS ?_
    refine jG ?_
    refine jD ?_
    refine WQ.chunks (C' := [pt (b14,b15).1 [Value.int .i64 ((atD la x).1 : Int),.int .i64 ((atD la x).2.1 : Int),.int .i64 ((atD la x).2.2 : Int)] 104,pt (b14,b15).2 [Value.int .i64 ((atD lb y).1 : Int),.int .i64 ((atD lb y).2.1 : Int),.int .i64 ((atD lb y).2.2 : Int)] 104,pt b11 [Value.int .i64 (x : Int),.int .i64 (y : Int)] 243,mkr F1 bm l,mpg enc2 bs (fun q => (f q).map encI)]) (fun w hS => (jK hS)) ?_
    exact WQ.byCut (hQ (b14,b15)) ⟨rfl,rfl,rfl,rfl,rfl,rfl,rfl,trivial⟩
   refine WL.alloc F.zero104 rfl (fun b15 => ?_)
   refine WD.on (closed_of (by kernel_rfl)) (fun w hS => Sx.keep (fun j v hv => hS.oldc (hE.ce (1 + j) v (by rw [Nat.add_comm]; rcases j with _ | _ | j <;> first | exact hv | simp at hv)) hE.ce') (Sx.keep (fun j v hv => hS.oldc (hE.ce (3 + j) v (by rw [Nat.add_comm]; rcases j with _ | _ | j <;> first | exact hv | simp at hv)) hE.ce') (Sx.none))) ?_
   refine WD.two (i := 5) (j := 12) (by kernel_rfl) rfl rfl ?_ ?_
   ·refine WL.callV F.fun176 rfl rfl (fun w hS => at_c la aa ca ra x w (by omega) hx (hE.rda.now hS)) ?_
    refine WD.on (closed_of (by kernel_rfl)) (fun w hS => Sx.gone rfl (Sx.keep (fun j v hv => hS.oldc (hE.ce (3 + j) v (by rw [Nat.add_comm]; rcases j with _ | _ | j <;> first | exact hv | simp at hv)) hE.ce') (Sx.none))) ?_
    refine WD.two (i := 11) (j := 12) (by kernel_rfl) rfl rfl ?_ ?_
    refine WL.callV F.fun176 rfl rfl (fun w hS => at_c lb ab cb rb y w (by omega) hy (hE.rdb.now hS)) ?_
    refine jG ?_
    refine jA 12 rfl ?_
    refine WL.alloc F.zero104 rfl (fun b14 => ?_)
    rotate_left
    refine WL.alloc F.zero104 rfl (fun b14 => ?_)
    refine WD.on (closed_of (by kernel_rfl)) (fun w hS => Sx.gone rfl (Sx.keep (fun j v hv => hS.oldc (hE.ce (3 + j) v (by rw [Nat.add_comm]; rcases j with _ | _ | j <;> first | exact hv | simp at hv)) hE.ce') (Sx.none))) ?_
    refine jA 11 rfl ?_
    refine WL.callV F.fun176 rfl rfl (fun w hS => at_c lb ab cb rb y w (by omega) hy (hE.rdb.now hS)) ?_
    rotate_left
    all_goals
     refine jG ?_
     refine jA 14 rfl ?_
     refine WL.storeN F.agg104 rfl rfl rfl jO jU jS ?_
     refine jG ?_
     refine jA 15 rfl ?_
     refine WL.storeN F.agg104 rfl rfl rfl jO jU jS ?_
     refine jG ?_
     refine jD ?_
     refine WQ.chunks (C' := [pt (b14,b15).1 [Value.int .i64 ((atD la x).1 : Int),.int .i64 ((atD la x).2.1 : Int),.int .i64 ((atD la x).2.2 : Int)] 104,pt (b14,b15).2 [Value.int .i64 ((atD lb y).1 : Int),.int .i64 ((atD lb y).2.1 : Int),.int .i64 ((atD lb y).2.2 : Int)] 104,pt b11 [Value.int .i64 (x : Int),.int .i64 (y : Int)] 243,mkr F1 bm l,mpg enc2 bs (fun q => (f q).map encI)]) (fun w hS => (jK hS)) ?_
     exact WQ.byCut (hQ (b14,b15)) ⟨rfl,rfl,rfl,rfl,rfl,rfl,rfl,trivial⟩
   refine WL.alloc F.zero104 rfl (fun b14 => ?_)
   refine WD.on (closed_of (by kernel_rfl)) (fun w hS => Sx.keep (fun j v hv => hS.oldc (hE.ce (1 + j) v (by rw [Nat.add_comm]; rcases j with _ | _ | j <;> first | exact hv | simp at hv)) hE.ce') (Sx.keep (fun j v hv => hS.oldc (hE.ce (3 + j) v (by rw [Nat.add_comm]; rcases j with _ | _ | j <;> first | exact hv | simp at hv)) hE.ce') (Sx.none))) ?_
   refine jA 5 rfl ?_
   refine WL.callV F.fun176 rfl rfl (fun w hS => at_c la aa ca ra x w (by omega) hx (hE.rda.now hS)) ?_
   refine WD.on (closed_of (by kernel_rfl)) (fun w hS => Sx.gone rfl (Sx.keep (fun j v hv => hS.oldc (hE.ce (3 + j) v (by rw [Nat.add_comm]; rcases j with _ | _ | j <;> first | exact hv | simp at hv)) hE.ce') (Sx.none))) ?_
   refine jA 11 rfl ?_
   refine WL.callV F.fun176 rfl rfl (fun w hS => at_c lb ab cb rb y w (by omega) hy (hE.rdb.now hS)) ?_
   refine jG ?_
   refine jA 14 rfl ?_
   refine WL.storeN F.agg104 rfl rfl rfl jO jU jS ?_
   refine jG ?_
   refine jA 15 rfl ?_
   refine WL.storeN F.agg104 rfl rfl rfl jO jU jS ?_
   refine jG ?_
   refine jD ?_
   refine WQ.chunks (C' := [pt (b14,b15).1 [Value.int .i64 ((atD la x).1 : Int),.int .i64 ((atD la x).2.1 : Int),.int .i64 ((atD la x).2.2 : Int)] 104,pt (b14,b15).2 [Value.int .i64 ((atD lb y).1 : Int),.int .i64 ((atD lb y).2.1 : Int),.int .i64 ((atD lb y).2.2 : Int)] 104,pt b11 [Value.int .i64 (x : Int),.int .i64 (y : Int)] 243,mkr F1 bm l,mpg enc2 bs (fun q => (f q).map encI)]) (fun w hS => (jK hS)) ?_
   exact WQ.byCut (hQ (b14,b15)) ⟨rfl,rfl,rfl,rfl,rfl,rfl,rfl,trivial⟩
  obtain ⟨b14,b15⟩ := xE
  show WQ _ _ _ _ _ _ [(0,pp bp),(1,.int .i64 (x : Int)),(2,.int .i64 (y : Int)),(3,Value.func (.func g) [].toArray [].toArray),(11,pp b11),(14,pp b14),(15,pp b15)] [pt b14 [Value.int .i64 ((atD la x).1 : Int),.int .i64 ((atD la x).2.1 : Int),.int .i64 ((atD la x).2.2 : Int)] 104,pt b15 [Value.int .i64 ((atD lb y).1 : Int),.int .i64 ((atD lb y).2.1 : Int),.int .i64 ((atD lb y).2.2 : Int)] 104,pt b11 [Value.int .i64 (x : Int),.int .i64 (y : Int)] 243,mkr F1 bm l,mpg enc2 bs (fun q => (f q).map encI)]
  obtain ⟨i,hi⟩ : ∃ i,i = min (atD la x).1 (atD lb y).1 := ⟨_,rfl⟩
  have hgo := hop.spec.go x y h28
  have hi24 : i < 24 := by
   rcases hgo with h | h
   ·have := atD_lt ha hx h; omega
   ·have := atD_lt hb hy h; omega
  have hmi : m ≤ i := by have e1 := atD_ok ha hx hox hm24; have e2 := atD_ok hb hy hoy hm24; omega
  obtain ⟨a1,a2,a3,a4,_,_,a7⟩ := half_at ha hx hox (i := i) (by omega) hi24
  obtain ⟨c1,c2,c3,c4,_,_,c7⟩ := half_at hb hy hoy (i := i) (by omega) hi24
  have hp2 : 2 ^ (24 - (i + 1)) + 2 ^ (24 - (i + 1)) ≤ 2 ^ (24 - m) := by (have e1 : 2 ^ (24 - i) = 2 ^ (24 - (i + 1)) * 2 := by (rw [← Nat.pow_succ]; congr 1; omega)); (have e2 : 2 ^ (24 - i) ≤ 2 ^ (24 - m) := Nat.pow_le_pow_right (by decide) (by omega)); omega
  refine jN 12 ?_
  refine WL.minI (r := (i : Int)) rfl rfl rfl (by (split) <;> omega) ?_
  refine jN 11 ?_
  refine WL.buildA F.arT243 rfl jB rfl ?_
  refine jN 5 ?_
  refine WL.buildA F.arT243 rfl jB rfl ?_
  refine jN 1 ?_
  refine WL.alloc F.zero243 rfl (fun b17 => ?_)
  refine jN 1 ?_
  refine WL.alloc F.zero243 rfl (fun b18 => ?_)
  refine jN 19 ?_
  refine WC.cutQ ([(0,pp bp),(1,.int .i64 (x : Int)),(2,.int .i64 (y : Int)),(3,Value.func (.func g) [].toArray [].toArray),(11,pp b11),(14,pp b14),(15,pp b15),(16,.int .i64 (i : Int)),(17,pp b17),(18,pp b18)]) ([pt b17 [.int .i64 (loP la x i : Int),.int .i64 (y : Int)] 243,pt b18 [.int .i64 (hiP la x i : Int),.int .i64 (y : Int)] 243,pt b15 [Value.int .i64 ((atD lb y).1 : Int),.int .i64 ((atD lb y).2.1 : Int),.int .i64 ((atD lb y).2.2 : Int)] 104,pt b11 [Value.int .i64 (x : Int),.int .i64 (y : Int)] 243,mkr F1 bm l,mpg enc2 bs (fun q => (f q).map encI)]) (fun c a d v w h => by cases d <;> exact h) (fun Q' hP hQ => ?_) ?_
  ·refine WC.cond rfl (fun h70 => ?_) (fun h70 => ?_)
   have h70n : (atD la x).1 = i := by simp at h70; omega
   have e70 : loP la x i = (atD la x).2.1 ∧ hiP la x i = (atD la x).2.2 := by unfold loP hiP; rw [if_pos h70n,if_pos h70n]; exact ⟨rfl,rfl⟩
   refine WC.drawsL (by kernel_rfl) (FactsOk.cons (ds := [5,7]) (LoadOk.one (t := 14) (off := 1) rfl jM rfl) (FactsOk.cons (ds := [7]) (LoadOk.one (t := 14) (off := 2) rfl jM rfl) (FactsOk.nil))) ?_
   refine jT 0 rfl (Yl.fieldAddr0 F.fld104_1 rfl) ?_
   refine jF 1 0 rfl rfl (Yl.load1 F.one3 rfl) ?_
   refine jT 2 rfl (Yl.fieldAddr0 F.fld104_2 rfl) ?_
   refine jF 3 1 rfl rfl (Yl.load1 F.one3 rfl) ?_
   refine jT 4 rfl (Yl.indexAddrA (i := 0) F.arT243 rfl rfl (by decide)) ?_
   refine jA 5 rfl ?_
   refine WL.store1 F.one3 rfl rfl rfl jU jS ?_
   refine WD.on (closed_of (by kernel_rfl)) (fun w hS => Sx.gone rfl (Sx.keep (hS.cell jM rfl) (Sx.none))) ?_
   refine jT 6 rfl (Yl.indexAddrA (i := 0) F.arT243 rfl rfl (by decide)) ?_
   refine jA 7 rfl ?_
   refine WL.store1 F.one3 rfl rfl rfl jU jS ?_
   refine jG ?_
   refine jD ?_
   rotate_left
   have h70n : ¬ (atD la x).1 = i := by simp at h70; omega
   have e70 : loP la x i = x ∧ hiP la x i = x := by unfold loP hiP; rw [if_neg h70n,if_neg h70n]; exact ⟨rfl,rfl⟩
   refine jN 1 ?_
   rotate_left
   all_goals
    refine WQ.chunks (C' := [pt b17 [.int .i64 (loP la x i : Int),.int .i64 (y : Int)] 243,pt b18 [.int .i64 (hiP la x i : Int),.int .i64 (y : Int)] 243,pt b15 [Value.int .i64 ((atD lb y).1 : Int),.int .i64 ((atD lb y).2.1 : Int),.int .i64 ((atD lb y).2.2 : Int)] 104,pt b11 [Value.int .i64 (x : Int),.int .i64 (y : Int)] 243,mkr F1 bm l,mpg enc2 bs (fun q => (f q).map encI)]) (fun w hS => ?_) (WQ.byCut hQ ⟨rfl,rfl,rfl,rfl,rfl,rfl,rfl,rfl,rfl,rfl,trivial⟩)
    rw [e70.1,e70.2]
    first | exact (jK hS) | exact (jK hS)
  refine jN 14 ?_
  refine WC.cutQ ([(0,pp bp),(3,Value.func (.func g) [].toArray [].toArray),(11,pp b11),(14,pp b14),(15,pp b15),(16,.int .i64 (i : Int)),(17,pp b17),(18,pp b18)]) ([pt b17 [.int .i64 (loP la x i : Int),.int .i64 (loP lb y i : Int)] 243,pt b18 [.int .i64 (hiP la x i : Int),.int .i64 (hiP lb y i : Int)] 243,pt b11 [Value.int .i64 (x : Int),.int .i64 (y : Int)] 243,mkr F1 bm l,mpg enc2 bs (fun q => (f q).map encI)]) (fun c a d v w h => by cases d <;> exact h) (fun Q' hP hQ => ?_) ?_
  ·refine WC.cond rfl (fun h80 => ?_) (fun h80 => ?_)
   have h80n : (atD lb y).1 = i := by simp at h80; omega
   have e80 : loP lb y i = (atD lb y).2.1 ∧ hiP lb y i = (atD lb y).2.2 := by unfold loP hiP; rw [if_pos h80n,if_pos h80n]; exact ⟨rfl,rfl⟩
   refine WC.drawsL (by kernel_rfl) (FactsOk.cons (ds := [5,7]) (LoadOk.one (t := 15) (off := 1) rfl jM rfl) (FactsOk.cons (ds := [7]) (LoadOk.one (t := 15) (off := 2) rfl jM rfl) (FactsOk.nil))) ?_
   refine jT 0 rfl (Yl.fieldAddr0 F.fld104_1 rfl) ?_
   refine jF 1 0 rfl rfl (Yl.load1 F.one3 rfl) ?_
   refine jT 2 rfl (Yl.fieldAddr0 F.fld104_2 rfl) ?_
   refine jF 3 1 rfl rfl (Yl.load1 F.one3 rfl) ?_
   refine jT 4 rfl (Yl.indexAddrA (i := 1) F.arT243 rfl rfl (by decide)) ?_
   refine jA 5 rfl ?_
   refine WL.store1 F.one3 rfl rfl rfl jU jS ?_
   refine WD.on (closed_of (by kernel_rfl)) (fun w hS => Sx.gone rfl (Sx.keep (hS.cell jM rfl) (Sx.none))) ?_
   refine jT 6 rfl (Yl.indexAddrA (i := 1) F.arT243 rfl rfl (by decide)) ?_
   refine jA 7 rfl ?_
   refine WL.store1 F.one3 rfl rfl rfl jU jS ?_
   refine jG ?_
   refine jD ?_
   rotate_left
   have h80n : ¬ (atD lb y).1 = i := by simp at h80; omega
   have e80 : loP lb y i = y ∧ hiP lb y i = y := by unfold loP hiP; rw [if_neg h80n,if_neg h80n]; exact ⟨rfl,rfl⟩
   refine jN 1 ?_
   rotate_left
   all_goals
    refine WQ.chunks (C' := [pt b17 [.int .i64 (loP la x i : Int),.int .i64 (loP lb y i : Int)] 243,pt b18 [.int .i64 (hiP la x i : Int),.int .i64 (hiP lb y i : Int)] 243,pt b11 [Value.int .i64 (x : Int),.int .i64 (y : Int)] 243,mkr F1 bm l,mpg enc2 bs (fun q => (f q).map encI)]) (fun w hS => ?_) (WQ.byCut hQ ⟨rfl,rfl,rfl,rfl,rfl,rfl,rfl,rfl,trivial⟩)
    rw [e80.1,e80.2]
    first | exact (jK hS) | exact (jK hS)
  refine jN 6 ?_
  refine WL.indexAddrA (i := 0) F.arT243 rfl rfl rfl (by decide) ?_
  refine jN 3 ?_
  refine WL.indexAddrA (i := 1) F.arT243 rfl rfl rfl (by decide) ?_
  refine jN 4 ?_
  refine WA.chunks (C' := [jns (F1 ++ ([bs] ++ [])) bm bs l f,pt b17 [.int .i64 (loP la x i : Int),.int .i64 (loP lb y i : Int)] 243,pt b18 [.int .i64 (hiP la x i : Int),.int .i64 (hiP lb y i : Int)] 243,pt b11 [Value.int .i64 (x : Int),.int .i64 (y : Int)] 243]) (fun w hS => St.jnsClose (jK hS)) ?_
  refine jN 1 ?_
  refine WL.callC (β := { z : JT // JPost bop la lb l (i + 1) (loP la x i) (loP lb y i) z }) (res := fun z => .int .i64 (z.1.2.2.2 : Int)) (cs := fun z => [jns z.1.1 bm bs z.1.2.1 z.1.2.2.1]) (Cs := [jns (F1 ++ ([bs] ++ [])) bm bs l f]) (C1 := [pt b17 [.int .i64 (loP la x i : Int),.int .i64 (loP lb y i : Int)] 243,pt b18 [.int .i64 (hiP la x i : Int),.int .i64 (hiP lb y i : Int)] 243,pt b11 [Value.int .i64 (x : Int),.int .i64 (y : Int)] 243]) (O' := (F1 ++ ([bs] ++ []))) F.fun163 (fun d h => by cases h; rfl) rfl (List.Perm.refl _) bun_O1 bun_O2 (fun w hS hS2 => hrec (i + 1) (by omega) (by omega) (F1 ++ ([bs] ++ [])) l f (loP la x i) (loP lb y i) w a1 c1 a3 c3 hm hsn (by omega) (hE.next hS) hS2) (fun ⟨z1,hz1⟩ => ?_)
  obtain ⟨G1,l1,f1,p1⟩ := z1
  obtain ⟨j1,j2,j3,j4,j5⟩ := hz1
  dsimp only at j1 j2 j3 j4 j5 ⊢
  refine jN 5 ?_
  refine WC.drawsL (by kernel_rfl) (FactsOk.cons (ds := [13]) (LoadOk.by (Y := fun w => w.cell? ⟨bp,0,none⟩ = some (pp bm)) (fun w hS => hS.oldc (hE.ce 0 _ rfl) hE.ce')) (FactsOk.cons (ds := [12,13]) (LoadOk.by (Y := fun w => w.cell? ⟨b18,0 + 0 * 1,none⟩ = some (.int .i64 (hiP la x i : Int))) (fun w hS => hS.cell (cs := [.int .i64 (hiP la x i : Int),.int .i64 (hiP lb y i : Int)]) jM rfl)) (FactsOk.cons (ds := [12,13]) (LoadOk.by (Y := fun w => w.cell? ⟨b18,0 + 1 * 1,none⟩ = some (.int .i64 (hiP lb y i : Int))) (fun w hS => hS.cell (cs := [.int .i64 (hiP la x i : Int),.int .i64 (hiP lb y i : Int)]) jM rfl)) (FactsOk.nil)))) ?_
  refine jT 0 rfl (Yl.move rfl) ?_
  refine jT 1 rfl (Yl.nilCheck rfl) ?_
  refine jT 2 rfl (Yl.fieldAddr0 F.fld223_0 rfl) ?_
  refine jF 3 0 rfl rfl (Yl.load1 F.one200 rfl) ?_
  refine jT 4 rfl (Yl.move rfl) ?_
  refine jT 5 rfl (Yl.move rfl) ?_
  refine jT 6 rfl (Yl.move rfl) ?_
  refine jT 7 rfl (Yl.indexAddrA (i := 0) F.arT243 rfl rfl (by decide)) ?_
  refine jF 8 1 rfl rfl (Yl.load1 F.one3 rfl) ?_
  refine jT 9 rfl (Yl.indexAddrA (i := 1) F.arT243 rfl rfl (by decide)) ?_
  refine jF 10 2 rfl rfl (Yl.load1 F.one3 rfl) ?_
  refine jT 11 rfl (Yl.move rfl) ?_
  refine jA 12 rfl ?_
  refine WL.callC (β := { z : JT // JPost bop la lb l1 (i + 1) (hiP la x i) (hiP lb y i) z }) (res := fun z => .int .i64 (z.1.2.2.2 : Int)) (cs := fun z => [jns z.1.1 bm bs z.1.2.1 z.1.2.2.1]) (Cs := [jns G1 bm bs l1 f1]) (C1 := [pt b17 [.int .i64 (loP la x i : Int),.int .i64 (loP lb y i : Int)] 243,pt b18 [.int .i64 (hiP la x i : Int),.int .i64 (hiP lb y i : Int)] 243,pt b11 [Value.int .i64 (x : Int),.int .i64 (y : Int)] 243]) (O' := G1) F.fun163 (fun d h => by cases h; rfl) rfl (List.Perm.refl _) bun_O1 bun_O2 (fun w hS hS2 => hrec (i + 1) (by omega) (by omega) G1 l1 f1 (hiP la x i) (hiP lb y i) w a2 c2 a4 c4 j1 j5 (by omega) (hE.next hS) hS2) (fun ⟨z2,hz2⟩ => ?_)
  refine WD.on (closed_of (by kernel_rfl)) (fun w hS => Sx.keep (hS.oldc (hE.ce 0 _ rfl) hE.ce') (Sx.gone rfl (Sx.gone rfl (Sx.none)))) ?_
  obtain ⟨G2,l2,f2,p2⟩ := z2
  obtain ⟨k1,k2,k3,k4,k5⟩ := hz2
  dsimp only at k1 k2 k3 k4 k5 ⊢
  refine jA 13 rfl ?_
  refine WA.openB (fun G3 _ _ _ => ?_)
  simp only [jnCs,List.cons_append,List.nil_append]
  refine WL.callC (β := { z : List Nat × List Dec × Nat // MadeN l2 z.2.1 z.2.2 (mkN i (trs l2 p1) (trs l2 p2)) ∧ z.2.1.length ≤ l2.length + 1 }) (res := fun z => .int .i64 (z.1.2.2 : Int)) (cs := fun z => [mkr z.1.1 bm z.1.2.1]) (Cs := [mkr G3 bm l2]) (C1 := [mpg enc2 bs (fun q => (f2 q).map encI),pt b17 [.int .i64 (loP la x i : Int),.int .i64 (loP lb y i : Int)] 243,pt b18 [.int .i64 (hiP la x i : Int),.int .i64 (hiP lb y i : Int)] 243,pt b11 [Value.int .i64 (x : Int),.int .i64 (y : Int)] 243]) (O' := G3) F.fun149 (fun d h => by cases h; rfl) rfl (List.Perm.refl _) bun_O1 bun_O2 (fun w hS hS2 => mnode_c G3 bm l2 i p1 p2 w hi24 k1 (j4.ext k2).lt k4.lt (by omega) hS2) (fun ⟨z3,hz3,hz3l⟩ => ?_)
  refine jG ?_
  obtain ⟨G4,l3,r3⟩ := z3
  dsimp only at hz3 hz3l ⊢
  refine jT 14 rfl (Yl.assign rfl) ?_
  refine jD ?_
  refine jN 2 ?_
  refine WC.drawsL (by kernel_rfl) (FactsOk.cons (ds := [6]) (LoadOk.by (Y := fun w => w.cell? ⟨bp,5,none⟩ = some (.map (some bs))) (fun w hS => hS.oldc (hE.ce 5 _ rfl) hE.ce')) (FactsOk.cons (ds := [6]) (LoadOk.whole (t := 11) rfl jM) (FactsOk.nil))) ?_
  refine jT 0 rfl (Yl.move rfl) ?_
  refine jT 1 rfl (Yl.nilCheck rfl) ?_
  refine jT 2 rfl (Yl.fieldAddr0 F.fld223_3 rfl) ?_
  refine jF 3 0 rfl rfl (Yl.load1 F.one221 rfl) ?_
  refine jF 4 1 rfl rfl (Yl.loadN F.agg243 rfl rfl) ?_
  refine jT 5 rfl (Yl.move rfl) ?_
  refine jA 6 rfl ?_
  refine WL.mapPutG (f := fun q => (f2 q).map encI) (x,y) undMP keyPair rfl rfl rfl rfl jU ?_
  refine jG ?_
  refine jD ?_
  refine jN 10 ?_
  have hjr := JR.node ha hb hx hy hox hoy hi hi24 j4 k4 k2 hz3
  have hpre : ∃ t,l3 = l ++ t := by (obtain ⟨t1,e1⟩ := j2; obtain ⟨t2,e2⟩ := k2; obtain ⟨t3,e3⟩ := hz3.pre; exact ⟨t1 ++ t2 ++ t3,by rw [e3,e2,e1]; simp⟩)
  refine WQ.ret (rs := [.tmp 8]) rfl (.tmp rfl .nil) (fun w hS => ⟨⟨(G4 ++ ([bs] ++ []),l3,fun q => if q = (x,y) then some r3 else f2 q,r3),⟨hz3.ismk,hpre,by dsimp only; omega,hjr,(k5.ext hz3.pre).put hjr⟩⟩,rfl,?_⟩)
  refine St.jnsClose (F1 := G4) ?_
  rw [← pair_map (z := (r3 : Int)) rfl]
  exact (jK hS)
 refine WC.drawsL (by kernel_rfl) (FactsOk.cons (ds := []) (LoadOk.by (Y := fun w => w.cell? ⟨bp,5,none⟩ = some (.map (some bs))) (fun w hS => hS.oldc (hE.ce 5 _ rfl) hE.ce')) (FactsOk.cons (ds := []) (LoadOk.whole (t := 11) rfl jM) (FactsOk.cons (ds := []) (LoadOk.by (Y := fun w => (mpg enc2 bs (fun q => (f q).map encI)).ok w) (fun w hS => hS.ok _ jM)) (FactsOk.nil)))) ?_
 refine jT 0 rfl (Yl.move rfl) ?_
 refine jT 1 rfl (Yl.nilCheck rfl) ?_
 refine jT 2 rfl (Yl.fieldAddr0 F.fld223_3 rfl) ?_
 refine jF 3 0 rfl rfl (Yl.load1 F.one221 rfl) ?_
 refine jF 4 1 rfl rfl (Yl.loadN F.agg243 rfl rfl) ?_
 refine jF 5 2 rfl rfl (Yl.lookupHit (f := fun q => (f q).map encI) (v := encI r) (x,y) undMP keyPair zeroInt rfl rfl rfl (by rw [hf]; rfl)) ?_
 refine jT 6 rfl (Yl.move rfl) ?_
 refine jT 7 rfl (Yl.extract rfl rfl) ?_
 refine jT 8 rfl (Yl.extract rfl rfl) ?_
 refine jT 9 rfl (Yl.assign rfl) ?_
 refine jT 10 rfl (Yl.assign rfl) ?_
 refine jD ?_
 refine jN 18 ?_
 refine WQ.ret (rs := [.tmp 8]) rfl (.tmp rfl .nil) (fun w hS => ⟨⟨(_,l,f,r),⟨hm,⟨[],by simp⟩,hpow,hsn x y r hf,hsn⟩⟩,rfl,St.jnsClose (jK hS)⟩)
abbrev DRes (f : Cf → Bool) : Type := { z : BT × Option Addr × Nat // z.1.ok 0 ∧ ∀ c,z.1.ev c = f c }
abbrev DRes.v {f : Cf → Bool} (z : DRes f) : Value := dval z.1.1 z.1.2.1 z.1.2.2
abbrev DRes.ch {f : Cf → Bool} (z : DRes f) : Chunk := dC z.1.2.1 z.1.2.2 z.1.1
def DPost (f : Cf → Bool) (w : World) (e : Ending) (w' : World) : Prop := ∃ z : DRes f,e = .returned z.v ∧ St w [] [z.ch] w'
theorem DRes.rd {f : Cf → Bool} (z : DRes f) {w0 w : World} {O : List Nat} {C : List Chunk} (hS : St w0 O C w) (hm : z.ch ∈ C) : RdD w z.1.1 z.1.2.1 := RdD.of_row z.2.1 (hS.ok _ hm)
theorem jenv_of {w0 w : World} {C : List Chunk} {F : List Nat} {bp bm bs ca cb ra rb : Nat} {la lb l : List Dec} {aa ab : Option Addr} {f : Nat × Nat → Option Nat} {e : TypeId}
  (hS : St w0 [] (jns F bm bs l f :: pt bp [pp bm,.slice aa la.length ca,.int .i64 (ra : Int),.slice ab lb.length cb,.int .i64 (rb : Int),.map (some bs)] e :: C) w) (hra : RdDec w0 la aa) (hrb : RdDec w0 lb ab) : JEnv w F bp bm bs la lb aa ab ca cb ra rb := by
 have hd := (List.pairwise_cons.1 hS.disj).1
 have hnew : ∀ b,b < w0.heap.size → b ∉ F := fun b hb hF => by
  have := (hS.bnd _ (List.mem_cons_self ..) b hF).2 hb
  simp at this
 refine ⟨fun j v hv => hS.cell (List.mem_cons_of_mem _ (List.mem_cons_self ..)) hv,fun hF => hd _ (List.mem_cons_self ..) bp hF rfl,fun j u hu => ?_,fun j u hu => ?_⟩
 obtain ⟨b,off,e1,e2⟩ := hra j u hu
 rotate_left
 obtain ⟨b,off,e1,e2⟩ := hrb j u hu
 rotate_left
 all_goals
  exact ⟨b,off,e1,hS.oldc e2 (by simp),hnew b (World.block_lt_of_cell? w0 _ e2)⟩
theorem dwith_c (g : Nat) (bop : Bool → Bool → Bool) (opf : Nat → Nat → Nat × Bool) (hop : OpOk g bop opf) (s t : BT) (aa ab : Option Addr) (ca cb : Nat) (w : World) (hs : RdD w s aa) (ht : RdD w t ab) :
  Calls Tryz.prog 129 [dval s aa ca,dval t ab cb,Value.func (.func g) [].toArray [].toArray].toArray w (DPost (fun c => bop (s.ev c) (t.ev c)) w) := by
 refine enter Tryz.func129 rfl Tryz.ntmps129 rfl (St.init _) ?_
 refine jN 3 ?_
 refine WL.boxN rfl rfl (fun b3 => ?_)
 refine jN 1 ?_
 refine WL.boxN rfl rfl (fun b4 => ?_)
 refine jN 1 ?_
 refine WL.alloc F.zero35 rfl (fun b6 => ?_)
 refine jN 3 ?_
 refine WC.cutPE (α := Nat × Nat × Nat × List Nat) (fun x => [(7,pp x.1),(2,Value.func (.func g) [].toArray [].toArray),(3,pp b3),(4,pp b4),(6,pp b6)]) (fun x => [pt x.1 [pp x.2.1,.slice aa (canon s).1.length ca,.int .i64 ((canon s).2 : Int),.slice ab (canon t).1.length cb,.int .i64 ((canon t).2 : Int),.map (some x.2.2.1)] 223,mkr x.2.2.2 x.2.1 [],mpg enc2 x.2.2.1 (fun _ => none),pt b3 [.slice aa (canon s).1.length ca,.int .i64 ((canon s).2 : Int)] 35,pt b4 [.slice ab (canon t).1.length cb,.int .i64 ((canon t).2 : Int)] 35,pt b6 [.slice none 0 0,.int .i64 0] 35]) (fun c a d v w h => by cases d <;> exact h) (fun Q' hP hQ => ?_) (fun xE => ?_)
 ·refine WC.drawsL (by kernel_rfl) (FactsOk.cons (ds := [5]) (LoadOk.whole (t := 3) rfl jM) (FactsOk.cons (ds := [5]) (LoadOk.whole (t := 4) rfl jM) (FactsOk.nil))) ?_
  refine jF 1 0 rfl rfl (Yl.loadN F.agg35 rfl rfl) ?_
  refine jF 2 1 rfl rfl (Yl.loadN F.agg35 rfl rfl) ?_
  refine WD.two (i := 0) (j := 3) (by kernel_rfl) rfl rfl ?_ ?_
  refine WL.call0 (β := List Nat × Nat) (res := fun x => .returned (pp x.2)) (cs := fun x => [mkr x.1 x.2 []]) (ψ := fun _ => True) F.fun147 (fun d h => by cases h; rfl) rfl (fun w hS => (newMaker_c w).mono (fun e w2 ⟨x,h1,h2⟩ => ⟨x,trivial,h1,h2⟩)) (fun x8 _ => ?_)
  refine WD.on (closed_of (by kernel_rfl)) (fun w hS => Sx.keep ((fun j v hv => by rw [Nat.zero_add]; exact hS.cell jM hv)) (Sx.keep ((fun j v hv => by rw [Nat.zero_add]; exact hS.cell jM hv)) (Sx.none))) ?_
  refine jA 3 rfl ?_
  refine WL.makeMapG enc2 rfl (fun b11 => ?_)
  rotate_left
  refine WL.makeMapG enc2 rfl (fun b11 => ?_)
  refine WD.on (closed_of (by kernel_rfl)) (fun w hS => Sx.keep ((fun j v hv => by rw [Nat.zero_add]; exact hS.cell jM hv)) (Sx.keep ((fun j v hv => by rw [Nat.zero_add]; exact hS.cell jM hv)) (Sx.none))) ?_
  refine jA 0 rfl ?_
  refine WL.call0 (β := List Nat × Nat) (res := fun x => .returned (pp x.2)) (cs := fun x => [mkr x.1 x.2 []]) (ψ := fun _ => True) F.fun147 (fun d h => by cases h; rfl) rfl (fun w hS => (newMaker_c w).mono (fun e w2 ⟨x,h1,h2⟩ => ⟨x,trivial,h1,h2⟩)) (fun x8 _ => ?_)
  rotate_left
  all_goals
   refine WD.on (closed_of (by kernel_rfl)) (fun w hS => Sx.keep ((fun j v hv => by rw [Nat.zero_add]; exact hS.cell jM hv)) (Sx.keep ((fun j v hv => by rw [Nat.zero_add]; exact hS.cell jM hv)) (Sx.none))) ?_
   refine jT 4 rfl (Yl.build F.stT223 rfl jB) ?_
   refine jA 5 rfl ?_
   refine WL.boxN rfl rfl (fun b13 => ?_)
   refine jG ?_
   refine jT 6 rfl (Yl.assign rfl) ?_
   refine jD ?_
   refine WQ.chunks (C' := [pt b13 [pp x8.2,.slice aa (canon s).1.length ca,.int .i64 ((canon s).2 : Int),.slice ab (canon t).1.length cb,.int .i64 ((canon t).2 : Int),.map (some b11)] 223,mkr x8.1 x8.2 [],mpg enc2 b11 (fun _ => none),pt b3 [.slice aa (canon s).1.length ca,.int .i64 ((canon s).2 : Int)] 35,pt b4 [.slice ab (canon t).1.length cb,.int .i64 ((canon t).2 : Int)] 35,pt b6 [.slice none 0 0,.int .i64 0] 35]) (fun w hS => (jK hS)) ?_
   exact WQ.byCut (hQ (b13,x8.2,b11,x8.1)) ⟨rfl,rfl,rfl,rfl,rfl,trivial⟩
 obtain ⟨bp,bm,bs,F1⟩ := xE
 show WQ _ _ _ _ _ _ [(7,pp bp),(2,Value.func (.func g) [].toArray [].toArray),(3,pp b3),(4,pp b4),(6,pp b6)] [pt bp [pp bm,.slice aa (canon s).1.length ca,.int .i64 ((canon s).2 : Int),.slice ab (canon t).1.length cb,.int .i64 ((canon t).2 : Int),.map (some bs)] 223,mkr F1 bm [],mpg enc2 bs (fun _ => none),pt b3 [.slice aa (canon s).1.length ca,.int .i64 ((canon s).2 : Int)] 35,pt b4 [.slice ab (canon t).1.length cb,.int .i64 ((canon t).2 : Int)] 35,pt b6 [.slice none 0 0,.int .i64 0] 35]
 refine jN 2 ?_
 refine WC.chunks (C' := [jns (F1 ++ ([bs] ++ [])) bm bs [] (fun _ => none),pt bp [pp bm,.slice aa (canon s).1.length ca,.int .i64 ((canon s).2 : Int),.slice ab (canon t).1.length cb,.int .i64 ((canon t).2 : Int),.map (some bs)] 223,pt b3 [.slice aa (canon s).1.length ca,.int .i64 ((canon s).2 : Int)] 35,pt b4 [.slice ab (canon t).1.length cb,.int .i64 ((canon t).2 : Int)] 35,pt b6 [.slice none 0 0,.int .i64 0] 35]) (fun w hS => St.jnsClose (f := fun _ => none) (jK hS)) ?_
 refine WC.drawsL (by kernel_rfl) (FactsOk.cons (ds := [11,12]) (LoadOk.one (t := 7) (off := 0) rfl jM rfl) (FactsOk.cons (ds := [10,11,12]) (LoadOk.one (t := 3) (off := 1) rfl jM rfl) (FactsOk.cons (ds := [10,11,12]) (LoadOk.one (t := 4) (off := 1) rfl jM rfl) (FactsOk.nil)))) ?_
 refine jT 0 rfl (Yl.move rfl) ?_
 refine jT 1 rfl (Yl.nilCheck rfl) ?_
 refine jT 2 rfl (Yl.fieldAddr0 F.fld223_0 rfl) ?_
 refine jF 3 0 rfl rfl (Yl.load1 F.one200 rfl) ?_
 refine jT 4 rfl (Yl.move rfl) ?_
 refine jT 5 rfl (Yl.fieldAddr0 F.fld35_1 rfl) ?_
 refine jF 6 1 rfl rfl (Yl.load1 F.one3 rfl) ?_
 refine jT 7 rfl (Yl.fieldAddr0 F.fld35_1 rfl) ?_
 refine jF 8 2 rfl rfl (Yl.load1 F.one3 rfl) ?_
 refine jT 9 rfl (Yl.move rfl) ?_
 refine jA 10 rfl ?_
 refine WL.callC (β := { z : JT // JPost bop (canon s).1 (canon t).1 [] 0 (canon s).2 (canon t).2 z }) (res := fun z => .int .i64 (z.1.2.2.2 : Int)) (cs := fun z => [jns z.1.1 bm bs z.1.2.1 z.1.2.2.1]) (Cs := [jns (F1 ++ ([bs] ++ [])) bm bs [] (fun _ => none)]) (C1 := [pt bp [pp bm,.slice aa (canon s).1.length ca,.int .i64 ((canon s).2 : Int),.slice ab (canon t).1.length cb,.int .i64 ((canon t).2 : Int),.map (some bs)] 223,pt b3 [.slice aa (canon s).1.length ca,.int .i64 ((canon s).2 : Int)] 35,pt b4 [.slice ab (canon t).1.length cb,.int .i64 ((canon t).2 : Int)] 35,pt b6 [.slice none 0 0,.int .i64 0] 35]) (O' := (F1 ++ ([bs] ++ []))) F.fun163 (fun d h => by cases h; rfl) rfl (List.Perm.refl _) bun_O1 bun_O2 (fun w hS hS2 => join_c g bop opf hop bp bm bs (canon s).1 (canon t).1 aa ab ca cb (canon s).2 (canon t).2 (canon_mk hs.1) (canon_mk ht.1) (Nat.le_of_lt (canon_len hs.1)) (Nat.le_of_lt (canon_len ht.1)) 25 0 (by omega) (by omega) (F1 ++ ([bs] ++ [])) [] (fun _ => none) (canon s).2 (canon t).2 w (canon_at s).1 (canon_at t).1 (by rw [(canon_at s).2]; exact hs.1) (by rw [(canon_at t).2]; exact ht.1) Mk.nil (fun _ _ _ h => by cases h) (by decide) (jenv_of hS hs.2 ht.2) hS2) (fun ⟨z1,hz1⟩ => ?_)
 refine WD.on (closed_of (by kernel_rfl)) (fun w hS => Sx.keep (hS.cell jM rfl) (Sx.gone rfl (Sx.gone rfl (Sx.none)))) ?_
 refine jA 11 rfl ?_
 obtain ⟨G1,l1,f1,r1⟩ := z1
 obtain ⟨j1,j2,j3,j4,j5⟩ := hz1
 dsimp only at j1 j2 j3 j4 j5 ⊢
 rw [(canon_at s).2,(canon_at t).2] at j4
 have hl1 : l1.length ≤ 16777216 := by
  have e : 2 ^ (24 - 0) = 16777216 := by decide
  simp only [List.length_nil] at j3
  omega
 refine WA.openB (fun G3 _ _ _ => ?_)
 simp only [jnCs,List.cons_append,List.nil_append]
 refine WL.callC (β := Option Addr × Nat) (res := fun z => dval (trs l1 r1) z.1 z.2) (cs := fun z => [dC z.1 z.2 (trs l1 r1)]) (Cs := [mkr G3 bm l1]) (C1 := [mpg enc2 bs (fun q => (f1 q).map encI),pt bp [pp bm,.slice aa (canon s).1.length ca,.int .i64 ((canon s).2 : Int),.slice ab (canon t).1.length cb,.int .i64 ((canon t).2 : Int),.map (some bs)] 223,pt b3 [.slice aa (canon s).1.length ca,.int .i64 ((canon s).2 : Int)] 35,pt b4 [.slice ab (canon t).1.length cb,.int .i64 ((canon t).2 : Int)] 35,pt b6 [.slice none 0 0,.int .i64 0] 35]) (O' := G3) F.fun148 (fun d h => by cases h; rfl) rfl (List.Perm.refl _) bun_O1 bun_O2 (fun w hS hS2 => done_c G3 bm l1 r1 w j1 j4.lt (j4.ok 0 hs.1 ht.1) hl1 hS2) (fun z3 => ?_)
 refine jG ?_
 refine jA 12 rfl ?_
 refine WL.storeN F.agg35 rfl rfl rfl jO jU jS ?_
 refine jG ?_
 refine jD ?_
 refine jN 2 ?_
 refine WQ.ret (rs := [.cell 6 35]) rfl (.cellN F.agg35 rfl jM rfl .nil) (fun w hS => ⟨⟨(trs l1 r1,z3),j4.ok 0 hs.1 ht.1,j4.ev⟩,rfl,(jK hS)⟩)
theorem And_c (s t : BT) (aa ab : Option Addr) (ca cb : Nat) (w : World) (hs : RdD w s aa) (ht : RdD w t ab) :
  Calls Tryz.prog 75 [dval s aa ca,dval t ab cb].toArray w (DPost (fun c => (fun p q : Bool => p && q) (s.ev c) (t.ev c)) w) := by
 refine enter Tryz.func75 rfl Tryz.ntmps75 rfl (St.init _) ?_
 refine jN 3 ?_
 refine WL.boxN rfl rfl (fun b2 => ?_)
 refine jN 1 ?_
 refine WL.boxN rfl rfl (fun b3 => ?_)
 refine jN 1 ?_
 refine WL.alloc F.zero35 rfl (fun b4 => ?_)
 refine jN 9 ?_
 refine WL.call0 (β := DRes (fun c => (fun p q : Bool => p && q) (s.ev c) (t.ev c))) (res := fun z => .returned z.v) (cs := fun z => [z.ch]) (ψ := fun _ => True) F.fun129 (fun d h => by cases h; rfl) rfl (fun w hS => (dwith_c _ _ _ both_ok s t aa ab ca cb w (hs.next0 hS) (ht.next0 hS)).mono (fun e w2 ⟨x,h1,h2⟩ => ⟨x,trivial,h1,h2⟩)) (fun z7 _ => ?_)
 refine WL.step ?_
 refine WL.storeN F.agg35 rfl rfl rfl (by simp [Value.oneCell']) (by repeat (first | exact Upd.here | apply Upd.there)) (by repeat constructor) ?_
 refine WL.nil ?_
 refine WQ.then_normal ?_
 refine WC.ret ?_
 refine WQ.ret (rs := [.cell 4 35]) rfl (.cellN F.agg35 rfl jM rfl .nil) (fun w hS => ⟨z7,rfl,(jK hS)⟩)
theorem Or_c (s t : BT) (aa ab : Option Addr) (ca cb : Nat) (w : World) (hs : RdD w s aa) (ht : RdD w t ab) :
  Calls Tryz.prog 105 [dval s aa ca,dval t ab cb].toArray w (DPost (fun c => (fun p q : Bool => p || q) (s.ev c) (t.ev c)) w) := by
 refine enter Tryz.func105 rfl Tryz.ntmps105 rfl (St.init _) ?_
 refine jN 3 ?_
 refine WL.boxN rfl rfl (fun b2 => ?_)
 refine jN 1 ?_
 refine WL.boxN rfl rfl (fun b3 => ?_)
 refine jN 1 ?_
 refine WL.alloc F.zero35 rfl (fun b4 => ?_)
 refine jN 9 ?_
 refine WL.call0 (β := DRes (fun c => (fun p q : Bool => p || q) (s.ev c) (t.ev c))) (res := fun z => .returned z.v) (cs := fun z => [z.ch]) (ψ := fun _ => True) F.fun129 (fun d h => by cases h; rfl) rfl (fun w hS => (dwith_c _ _ _ either_ok s t aa ab ca cb w (hs.next0 hS) (ht.next0 hS)).mono (fun e w2 ⟨x,h1,h2⟩ => ⟨x,trivial,h1,h2⟩)) (fun z7 _ => ?_)
 refine WL.step ?_
 refine WL.storeN F.agg35 rfl rfl rfl (by simp [Value.oneCell']) (by repeat (first | exact Upd.here | apply Upd.there)) (by repeat constructor) ?_
 refine WL.nil ?_
 refine WQ.then_normal ?_
 refine WC.ret ?_
 refine WQ.ret (rs := [.cell 4 35]) rfl (.cellN F.agg35 rfl jM rfl .nil) (fun w hS => ⟨z7,rfl,(jK hS)⟩)
theorem Xor_c (s t : BT) (aa ab : Option Addr) (ca cb : Nat) (w : World) (hs : RdD w s aa) (ht : RdD w t ab) :
  Calls Tryz.prog 104 [dval s aa ca,dval t ab cb].toArray w (DPost (fun c => (fun p q : Bool => p != q) (s.ev c) (t.ev c)) w) := by
 refine enter Tryz.func104 rfl Tryz.ntmps104 rfl (St.init _) ?_
 refine jN 3 ?_
 refine WL.boxN rfl rfl (fun b2 => ?_)
 refine jN 1 ?_
 refine WL.boxN rfl rfl (fun b3 => ?_)
 refine jN 1 ?_
 refine WL.alloc F.zero35 rfl (fun b4 => ?_)
 refine jN 9 ?_
 refine WL.call0 (β := DRes (fun c => (fun p q : Bool => p != q) (s.ev c) (t.ev c))) (res := fun z => .returned z.v) (cs := fun z => [z.ch]) (ψ := fun _ => True) F.fun129 (fun d h => by cases h; rfl) rfl (fun w hS => (dwith_c _ _ _ odd_ok s t aa ab ca cb w (hs.next0 hS) (ht.next0 hS)).mono (fun e w2 ⟨x,h1,h2⟩ => ⟨x,trivial,h1,h2⟩)) (fun z7 _ => ?_)
 refine WL.step ?_
 refine WL.storeN F.agg35 rfl rfl rfl (by simp [Value.oneCell']) (by repeat (first | exact Upd.here | apply Upd.there)) (by repeat constructor) ?_
 refine WL.nil ?_
 refine WQ.then_normal ?_
 refine WC.ret ?_
 refine WQ.ret (rs := [.cell 4 35]) rfl (.cellN F.agg35 rfl jM rfl .nil) (fun w hS => ⟨z7,rfl,(jK hS)⟩)
theorem True_c (w : World) : Calls Tryz.prog 74 [].toArray w (DPost (fun _ => true) w) := by
 refine enter Tryz.func74 rfl Tryz.ntmps74 rfl (St.init _) ?_
 refine jN 3 ?_
 refine WL.alloc F.zero35 rfl (fun b0 => ?_)
 refine jN 11 ?_
 refine WQ.ret (rs := [.cell 0 35]) rfl (.cellN F.agg35 rfl jM rfl .nil) (fun w hS => ⟨⟨(.lf true,none,0),trivial,fun _ => rfl⟩,rfl,?_⟩)
 exact (hS.drop).rowNil _ _
theorem False_c (w : World) : Calls Tryz.prog 103 [].toArray w (DPost (fun _ => false) w) := by
 refine enter Tryz.func103 rfl Tryz.ntmps103 rfl (St.init _) ?_
 refine jN 3 ?_
 refine WL.alloc F.zero35 rfl (fun b0 => ?_)
 refine jN 11 ?_
 refine WQ.ret (rs := [.cell 0 35]) rfl (.cellN F.agg35 rfl jM rfl .nil) (fun w hS => ⟨⟨(.lf false,none,0),trivial,fun _ => rfl⟩,rfl,?_⟩)
 exact (hS.drop).rowNil _ _
theorem canon_var (i : Nat) : canon (.nd i (.lf false) (.lf true)) = ([(i,0,1)],2) := by
 have h : Dg.look [] (.nd i (.lf false) (.lf true)) = none := by
  cases hl : Dg.look [] (.nd i (.lf false) (.lf true)) with
  | none => rfl
  | some p =>
   obtain ⟨h1,h2⟩ := look_some hl
   rcases p with _ | _ | p
   ·rw [(trs_zero _).1] at h2; cases h2
   ·rw [(trs_zero _).2] at h2; cases h2
   ·simp at h1; omega
 unfold canon
 conv => lhs; unfold visitT
 rw [h]
 simp [visitT]
theorem Var_in (n : Nat) (hn : n < 24) (w : World) : Calls Tryz.prog 99 [.int .i64 (n : Int)].toArray w fun e w' => ∃ z : DRes (fun c => c n),e = .returned (.tuple #[z.v,.int .i64 0]) ∧ St w [] [z.ch] w' := by
 refine enter Tryz.func99 rfl Tryz.ntmps99 rfl (St.init _) ?_
 refine jN 3 ?_
 refine WL.alloc F.zero35 rfl (fun b2 => ?_)
 refine jN 13 ?_
 refine WA.splitB (i := 6) rfl (fun g6 => ?_) (fun g6 => ?_)
 ·exfalso; simp at g6; omega
 refine jN 10 ?_
 refine WC.cond rfl (fun h9 => ?_) (fun h9 => ?_)
 ·exfalso; simp at h9; omega
 refine jN 9 ?_
 refine WL.buildSlice F.sl33 F.ez33 rfl rfl rfl rfl jB rfl (fun b13 => ?_)
 refine jN 9 ?_
 refine WQ.ret (rs := [.cell 2 35,.tmp 3]) rfl (.cellN F.agg35 rfl jM rfl (.tmp rfl .nil)) (fun w hS => ?_)
 refine ⟨⟨(.nd n (.lf false) (.lf true),some ⟨b13,0,none⟩,1),⟨Nat.zero_le _,hn,fun e => (by simp at e),trivial,trivial⟩,fun c => ?_⟩,?_,?_⟩
 ·simp only [BT.ev]; cases c n <;> rfl
 ·show _ = Ending.returned (.tuple #[dval _ _ _,_])
  rw [dval,canon_var]; rfl
 show St _ [] [dC (some ⟨b13,0,none⟩) 1 (.nd n (.lf false) (.lf true))] w
 rw [dC,canon_var]
 exact (jK (St.rowOf (n := 1) (sz := 3) (hS.pick (c := pt b13 [.int .i64 (n : Int),.int .i64 0,.int .i64 1] 104) jR) rfl (by decide)))
theorem Var_out (i : Int) (hi : i < 0 ∨ 24 ≤ i) (w : World) : Calls Tryz.prog 99 [.int .i64 i].toArray w fun e w' => ∃ z : DRes (fun _ => false),e = .returned (.tuple #[z.v,.int .i64 3]) ∧ St w [] [z.ch] w' := by
 refine enter Tryz.func99 rfl Tryz.ntmps99 rfl (St.init _) ?_
 refine jN 3 ?_
 refine WL.alloc F.zero35 rfl (fun b2 => ?_)
 refine jN 13 ?_
 refine WA.splitB (i := 6) rfl (fun g6 => ?_) (fun g6 => ?_)
 ·refine jN 21 ?_
  refine WQ.ret (rs := [.cell 2 35,.tmp 3]) rfl (.cellN F.agg35 rfl jM rfl (.tmp rfl .nil)) (fun w hS => ?_)
  exact ⟨⟨(.lf false,none,0),trivial,fun _ => rfl⟩,rfl,(hS.drop).rowNil _ _⟩
 refine jN 10 ?_
 refine WC.cond rfl (fun h9 => ?_) (fun h9 => ?_)
 ·refine jN 12 ?_
  refine WQ.ret (rs := [.cell 2 35,.tmp 3]) rfl (.cellN F.agg35 rfl jM rfl (.tmp rfl .nil)) (fun w hS => ?_)
  exact ⟨⟨(.lf false,none,0),trivial,fun _ => rfl⟩,rfl,(hS.drop).rowNil _ _⟩
 exfalso; simp at *; omega
theorem rdO_new {w0 w : World} {C : List Chunk} {ch : Chunk} {F : List Nat} {l : List Dec} {a : Option Addr} (hS : St w0 [] C w) (hm : ch ∈ C) (hc : FpIs ch F) (h : RdDec w0 l a) : RdDecO w l a F := fun j u hu => by
 obtain ⟨b,off,e1,e2⟩ := h j u hu
 refine ⟨b,off,e1,hS.oldc e2 (by simp),fun hF => ?_⟩
 have := (hS.bnd _ hm b ((hc b).2 hF)).2 (World.block_lt_of_cell? w0 _ e2)
 simp at this
theorem fi_len {φ : BT → BT} {la l : List Dec} {out : List Int} {x : Dec} (h : FI φ la out l) (hla : la.length < 16777216) (hx : la[out.length - 2]? = some x) : l.length ≤ 16777214 := by
 have h1 := (List.getElem?_eq_some_iff.1 hx).1
 have := h.len
 omega
theorem not_join (bm : Nat) (la : List Dec) (hla : Mk la) (hll : la.length < 16777216) (out : List Int) (s : List Nat × List Dec) (x : Dec) (z1 z2 : Int) (w : World) (hx : la[out.length - 2]? = some x) (hI : FI notT la out s.2) (h1 : out[x.2.1]? = some z1) (h2 : out[x.2.2]? = some z2) (hS : St w s.1 [mkr s.1 bm s.2] w) :
  Calls Tryz.prog 149 ([pp bm] ++ [Value.int .i64 (x.1 : Int),.int .i64 z1,.int .i64 z2] ++ []).toArray w fun e w' => ∃ y : { y : (List Nat × List Dec) × Int // FI notT la (out ++ [y.2]) y.1.2 },e = .returned (.int .i64 y.1.2) ∧ St w s.1 [mkr y.1.1.1 bm y.1.1.2] w' := by
 obtain ⟨p1,rfl,e1,f1⟩ := hI.at' _ _ h1
 obtain ⟨p2,rfl,e2,f2⟩ := hI.at' _ _ h2
 refine (mnode_c s.1 bm s.2 x.1 p1 p2 w (hla.kid _ _ hx).1 hI.ismk e1 e2 (fi_len hI hll hx) hS).mono ?_
 rintro e w' ⟨⟨⟨F',l',r⟩,hm,hl⟩,he,hS'⟩
 refine ⟨⟨((F',l'),(r : Int)),hI.step hla hx hm.ismk hm.pre hl hm.lt ?_⟩,he,hS'⟩
 rw [hm.tree,f1,f2]; rfl
abbrev wcCs (bi bmv bon bm : Nat) (i : Int) (on : Bool) (l : List Dec) (F1 : List Nat) : List Chunk := [pt bi [.int .i64 i] 3,pt bmv [pp bm] 200,pt bon [.bool on] 4,mkr F1 bm l]
def wch (F : List Nat) (bi bmv bon bm : Nat) (i : Int) (on : Bool) (l : List Dec) : Chunk := bun F (wcCs bi bmv bon bm i on l) (fun _ => True)
theorem wch_mv {F : List Nat} {bi bmv bon bm : Nat} {i : Int} {on : Bool} {l : List Dec} {w : World} (h : (wch F bi bmv bon bm i on l).ok w) : w.cell? ⟨bmv,0,none⟩ = some (pp bm) := by
 obtain ⟨x,_,h2,_⟩ := h
 have := h2 (pt bmv [pp bm] 200) (by simp [wcCs])
 simp [World.cell?,show w.heap[bmv]? = some (.cells [pp bm].toArray 200 (0,0)) from this]
theorem St.wchClose {w0 w : World} {O : List Nat} {C : List Chunk} {F1 : List Nat} {bi bmv bon bm : Nat} {i : Int} {on : Bool} {l : List Dec} (h : St w0 O (pt bi [.int .i64 i] 3 :: pt bmv [pp bm] 200 :: pt bon [.bool on] 4 :: mkr F1 bm l :: C) w) :
  St w0 O (wch ([bi] ++ ([bmv] ++ ([bon] ++ (F1 ++ [])))) bi bmv bon bm i on l :: C) w :=
 St.bunClose' (Cs := wcCs bi bmv bon bm i on l) F1 trivial (.cons FpIs.pt (.cons FpIs.pt (.cons FpIs.pt (.cons FpIs.bun .nil)))) h
theorem Not_c (t : BT) (a : Option Addr) (c : Nat) (w : World) (ht : RdD w t a) : Calls Tryz.prog 100 [dval t a c].toArray w (DPost (fun c => !t.ev c) w) := by
 have hmk := canon_mk ht.1
 have hcl := canon_len ht.1
 refine enter Tryz.func100 rfl Tryz.ntmps100 rfl (St.init _) ?_
 refine jN 3 ?_
 refine WL.boxN rfl rfl (fun b1 => ?_)
 refine jN 1 ?_
 refine WL.alloc F.zero35 rfl (fun b2 => ?_)
 refine jN 5 ?_
 refine WL.call0 (β := List Nat × Nat) (res := fun x => .returned (pp x.2)) (cs := fun x => [mkr x.1 x.2 []]) (ψ := fun _ => True) F.fun147 (fun d h => by cases h; rfl) rfl (fun w hS => (newMaker_c w).mono (fun e w2 ⟨x,h1,h2⟩ => ⟨x,trivial,h1,h2⟩)) (fun ⟨F1,bm⟩ _ => ?_)
 refine WL.step ?_
 refine WL.assign rfl rfl ?_
 refine WL.nil ?_
 refine WQ.then_normal ?_
 refine WC.seq ?_
 refine WC.region ?_
 refine WL.step ?_
 refine WL.move rfl rfl ?_
 refine WL.step ?_
 refine WL.loadW F.agg35 rfl rfl (by repeat (first | exact List.Mem.head _ | apply List.Mem.tail)) rfl ?_
 refine WL.step ?_
 refine WL.move rfl rfl ?_
 refine WL.step ?_
 refine WL.makeFunc (us := [pp bm]) (vs := []) rfl rfl rfl ?_
 refine jN 1 ?_
 refine WL.callC (β := { y : List Int × (List Nat × List Dec) × Int // FI notT (canon t).1 y.1 y.2.1.2 ∧ y.1.length = (canon t).1.length + 2 ∧ y.1[(canon t).2]? = some y.2.2 }) (res := fun y => .int .i64 y.1.2.2) (cs := fun y => [mkr y.1.2.1.1 bm y.1.2.1.2]) (Cs := [mkr F1 bm []]) (C1 := [pt b2 [.slice none 0 0,.int .i64 0] 35,pt b1 [.slice a (canon t).1.length c,.int .i64 ((canon t).2 : Int)] 35]) (O' := F1) F.fun53 (fun d h => by cases h; rfl) rfl (List.Perm.refl _) bun_O1 bun_O2 (fun w hS hS2 => Fold_c (σ := List Nat × List Dec) (fun s => mkr s.1 bm s.2) (fun s => s.1) (fun s => FpIs.bun) 149 F.fun149 [pp bm] [] (canon t).1 a c (canon t).2 1 0 (fun out s => FI notT (canon t).1 out s.2) (Nat.le_of_lt hcl) (fun k x hx => ⟨(hmk.kid k x hx).2.1,(hmk.kid k x hx).2.2.1⟩) (canon_at t).1 (F1,[]) (FI.nil (b0 := true) (b1 := false) rfl rfl) (not_join bm (canon t).1 hmk hcl) w (rdO_new hS jM FpIs.bun ht.2) hS2) (fun ⟨⟨out,⟨G1,l1⟩,z⟩,hI,hol,hz⟩ => ?_)
 obtain ⟨r1,rfl,hr1,htr⟩ := hI.at' _ _ hz
 rw [(canon_at t).2] at htr
 have hI9 := hI.len
 dsimp only at hI9 hol hI
 have hl1 : l1.length ≤ 16777216 := by omega
 refine jN 1 ?_
 refine WL.callC (β := Option Addr × Nat) (res := fun z => dval (trs l1 r1) z.1 z.2) (cs := fun z => [dC z.1 z.2 (trs l1 r1)]) (Cs := [mkr G1 bm l1]) (C1 := [pt b2 [.slice none 0 0,.int .i64 0] 35,pt b1 [.slice a (canon t).1.length c,.int .i64 ((canon t).2 : Int)] 35]) (O' := G1) F.fun148 (fun d h => by cases h; rfl) rfl (List.Perm.refl _) bun_O1 bun_O2 (fun w hS hS2 => done_c G1 bm l1 r1 w hI.ismk hr1 (by rw [htr]; exact notT_ok ht.1) hl1 hS2) (fun z3 => ?_)
 refine jN 5 ?_
 refine WQ.ret (rs := [.cell 2 35]) rfl (.cellN F.agg35 rfl jM rfl .nil) (fun w hS => ⟨⟨(trs l1 r1,z3),by rw [htr]; exact notT_ok ht.1,fun c => by rw [htr]; exact notT_ev t c⟩,rfl,(jK hS)⟩)
theorem fix_join (bi bmv bon bm : Nat) (i : Int) (on : Bool) (la : List Dec) (hla : Mk la) (hll : la.length < 16777216) (out : List Int) (s : List Nat × List Dec) (x : Dec) (z1 z2 : Int) (w : World) (hx : la[out.length - 2]? = some x) (hI : FI (fixT i on) la out s.2) (h1 : out[x.2.1]? = some z1) (h2 : out[x.2.2]? = some z2) (hS0 : St w s.1 [wch s.1 bi bmv bon bm i on s.2] w) :
  Calls Tryz.prog 152 ([] ++ [Value.int .i64 (x.1 : Int),.int .i64 z1,.int .i64 z2] ++ [pp bi,pp bmv,pp bon]).toArray w fun e w' => ∃ y : { y : (List Nat × List Dec) × Int // FI (fixT i on) la (out ++ [y.2]) y.1.2 },e = .returned (.int .i64 y.1.2) ∧ St w s.1 [wch y.1.1.1 bi bmv bon bm i on y.1.1.2] w' := by
 obtain ⟨p1,rfl,e1,f1⟩ := hI.at' _ _ h1
 obtain ⟨p2,rfl,e2,f2⟩ := hI.at' _ _ h2
 obtain ⟨F1,_,g1,g2,hS0⟩ := hS0.bunOpen
 simp only [wcCs,List.cons_append,List.nil_append] at hS0
 refine enter Tryz.func152 rfl Tryz.ntmps152 rfl (C := [pt bi [.int .i64 i] 3,pt bmv [pp bm] 200,pt bon [.bool on] 4,mkr F1 bm s.2]) hS0 ?_
 refine jN 20 ?_
 refine WC.cond rfl (fun h10 => ?_) (fun h10 => ?_)
 ·have hne : ¬ (x.1 : Int) = i := by simpa using h10
  refine jN 2 ?_
  refine WA.chunks (C' := [mkr F1 bm s.2,pt bi [.int .i64 i] 3,pt bmv [pp bm] 200,pt bon [.bool on] 4]) (fun w hS => (jK hS)) ?_
  refine jN 9 ?_
  refine WL.callC (β := { z : List Nat × List Dec × Nat // MadeN s.2 z.2.1 z.2.2 (mkN x.1 (trs s.2 p1) (trs s.2 p2)) ∧ z.2.1.length ≤ s.2.length + 1 }) (res := fun z => .int .i64 (z.1.2.2 : Int)) (cs := fun z => [mkr z.1.1 bm z.1.2.1]) (Cs := [mkr F1 bm s.2]) (C1 := [pt bi [.int .i64 i] 3,pt bmv [pp bm] 200,pt bon [.bool on] 4]) (O' := F1) F.fun149 (fun d h => by cases h; rfl) rfl (List.Perm.refl _) bun_O1 bun_O2 (fun w hS hS2 => mnode_c F1 bm s.2 x.1 p1 p2 w (hla.kid _ _ hx).1 hI.ismk e1 e2 (fi_len hI hll hx) hS2) (fun ⟨⟨F2,l2,r2⟩,hm2,hl2⟩ => ?_)
  refine jN 7 ?_
  refine WQ.ret (rs := [.tmp 9]) rfl (.tmp rfl .nil) (fun w hS => ⟨⟨(([bi] ++ ([bmv] ++ ([bon] ++ (F2 ++ []))),l2),(r2 : Int)),hI.step hla hx hm2.ismk hm2.pre hl2 hm2.lt (by rw [hm2.tree,f1,f2,fixT,if_neg hne])⟩,rfl,St.wchClose (F1 := F2) (jK hS)⟩)
 have heq : (x.1 : Int) = i := by simpa using h10
 refine jN 8 ?_
 refine WC.cond rfl (fun h19 => ?_) (fun h19 => ?_)
 ·refine jN 11 ?_
  refine WQ.ret (rs := [.tmp 9]) rfl (.tmp rfl .nil) (fun w hS => ⟨⟨(([bi] ++ ([bmv] ++ ([bon] ++ (F1 ++ []))),s.2),(p2 : Int)),hI.step hla hx hI.ismk ⟨[],by simp⟩ (Nat.le_succ _) e2 (by rw [f2,fixT,if_pos heq,h19]; rfl)⟩,rfl,St.wchClose (F1 := F1) (jK hS)⟩)
 refine jN 12 ?_
 refine WQ.ret (rs := [.tmp 9]) rfl (.tmp rfl .nil) (fun w hS => ⟨⟨(([bi] ++ ([bmv] ++ ([bon] ++ (F1 ++ []))),s.2),(p1 : Int)),hI.step hla hx hI.ismk ⟨[],by simp⟩ (Nat.le_succ _) e1 (by rw [f1,fixT,if_pos heq,h19]; rfl)⟩,rfl,St.wchClose (F1 := F1) (jK hS)⟩)
theorem With_c (t : BT) (a : Option Addr) (c : Nat) (i : Int) (on : Bool) (w : World) (ht : RdD w t a) : Calls Tryz.prog 108 [dval t a c,.int .i64 i,.bool on].toArray w (DPost (fun c => t.ev (updI c i on)) w) := by
 have hmk := canon_mk ht.1
 have hcl := canon_len ht.1
 refine enter Tryz.func108 rfl Tryz.ntmps108 rfl (St.init _) ?_
 refine jN 3 ?_
 refine WL.boxN rfl rfl (fun b3 => ?_)
 refine jN 1 ?_
 refine WL.box1 rfl rfl rfl (fun b4 => ?_)
 refine jN 1 ?_
 refine WL.box1 rfl rfl rfl (fun b5 => ?_)
 refine jN 1 ?_
 refine WL.alloc F.zero35 rfl (fun b6 => ?_)
 refine jN 5 ?_
 refine WL.call0 (β := List Nat × Nat) (res := fun x => .returned (pp x.2)) (cs := fun x => [mkr x.1 x.2 []]) (ψ := fun _ => True) F.fun147 (fun d h => by cases h; rfl) rfl (fun w hS => (newMaker_c w).mono (fun e w2 ⟨x,h1,h2⟩ => ⟨x,trivial,h1,h2⟩)) (fun ⟨F1,bm⟩ _ => ?_)
 refine WL.step ?_
 refine WL.alloc F.zero200 rfl (fun b7 => ?_)
 refine jN 5 ?_
 refine WC.drawsL (by kernel_rfl) (FactsOk.cons (ds := [4,5]) (LoadOk.by (Y := fun w => w.cell? ⟨b7,0,none⟩ = some (pp bm)) (fun w hS => hS.cell jM rfl)) (FactsOk.cons (ds := [3,4,5]) (LoadOk.whole (t := 3) rfl jM) (FactsOk.nil))) ?_
 refine jF 0 0 rfl rfl (Yl.load1 F.one200 rfl) ?_
 refine jF 1 1 rfl rfl (Yl.loadN F.agg35 rfl rfl) ?_
 refine jT 2 rfl (Yl.makeFunc rfl rfl) ?_
 refine jA 3 rfl ?_
 refine WA.chunks (C' := [wch ([b4] ++ ([b7] ++ ([b5] ++ (F1 ++ [])))) b4 b7 b5 bm i on [],pt b3 [.slice a (canon t).1.length c,.int .i64 ((canon t).2 : Int)] 35,pt b6 [.slice none 0 0,.int .i64 0] 35]) (fun w hS => St.wchClose (jK hS)) ?_
 refine WL.callC (β := { y : List Int × (List Nat × List Dec) × Int // FI (fixT i on) (canon t).1 y.1 y.2.1.2 ∧ y.1.length = (canon t).1.length + 2 ∧ y.1[(canon t).2]? = some y.2.2 }) (res := fun y => .int .i64 y.1.2.2) (cs := fun y => [wch y.1.2.1.1 b4 b7 b5 bm i on y.1.2.1.2]) (Cs := [wch ([b4] ++ ([b7] ++ ([b5] ++ (F1 ++ [])))) b4 b7 b5 bm i on []]) (C1 := [pt b3 [.slice a (canon t).1.length c,.int .i64 ((canon t).2 : Int)] 35,pt b6 [.slice none 0 0,.int .i64 0] 35]) (O' := ([b4] ++ ([b7] ++ ([b5] ++ (F1 ++ []))))) F.fun53 (fun d h => by cases h; rfl) rfl (List.Perm.refl _) bun_O1 bun_O2 (fun w hS hS2 => Fold_c (σ := List Nat × List Dec) (fun s => wch s.1 b4 b7 b5 bm i on s.2) (fun s => s.1) (fun s => FpIs.bun) 152 F.fun152 [] [pp b4,pp b7,pp b5] (canon t).1 a c (canon t).2 0 1 (fun out s => FI (fixT i on) (canon t).1 out s.2) (Nat.le_of_lt hcl) (fun k x hx => ⟨(hmk.kid k x hx).2.1,(hmk.kid k x hx).2.2.1⟩) (canon_at t).1 (([b4] ++ ([b7] ++ ([b5] ++ (F1 ++ [])))),[]) (FI.nil (b0 := false) (b1 := true) rfl rfl) (fix_join b4 b7 b5 bm i on (canon t).1 hmk hcl) w (rdO_new hS jM FpIs.bun ht.2) hS2) (fun ⟨⟨out,⟨G1,l1⟩,z⟩,hI,hol,hz⟩ => ?_)
 refine WD.on (closed_of (by kernel_rfl)) (fun w hS => Sx.keep (wch_mv (hS.ok (wch G1 b4 b7 b5 bm i on l1) jM)) (Sx.gone rfl (Sx.none))) ?_
 refine jA 4 rfl ?_
 obtain ⟨r1,rfl,hr1,htr⟩ := hI.at' _ _ hz
 rw [(canon_at t).2] at htr
 have hI9 := hI.len
 dsimp only at hI9 hol hI
 have hl1 : l1.length ≤ 16777216 := by omega
 refine WA.openB (fun F3 _ _ _ => ?_)
 simp only [wcCs,List.cons_append,List.nil_append]
 refine WA.chunks (C' := [mkr F3 bm l1,pt b4 [.int .i64 i] 3,pt b7 [pp bm] 200,pt b5 [.bool on] 4,pt b3 [.slice a (canon t).1.length c,.int .i64 ((canon t).2 : Int)] 35,pt b6 [.slice none 0 0,.int .i64 0] 35]) (fun w hS => (jK hS)) ?_
 refine WL.callC (β := Option Addr × Nat) (res := fun z => dval (trs l1 r1) z.1 z.2) (cs := fun z => [dC z.1 z.2 (trs l1 r1)]) (Cs := [mkr F3 bm l1]) (C1 := [pt b4 [.int .i64 i] 3,pt b7 [pp bm] 200,pt b5 [.bool on] 4,pt b3 [.slice a (canon t).1.length c,.int .i64 ((canon t).2 : Int)] 35,pt b6 [.slice none 0 0,.int .i64 0] 35]) (O' := F3) F.fun148 (fun d h => by cases h; rfl) rfl (List.Perm.refl _) bun_O1 bun_O2 (fun w hS hS2 => done_c F3 bm l1 r1 w hI.ismk hr1 (by rw [htr]; exact fixT_ok ht.1) hl1 hS2) (fun z3 => ?_)
 refine jG ?_
 refine jA 5 rfl ?_
 refine WL.storeN F.agg35 rfl rfl rfl jO jU jS ?_
 refine jG ?_
 refine jD ?_
 refine jN 2 ?_
 refine WQ.ret (rs := [.cell 6 35]) rfl (.cellN F.agg35 rfl jM rfl .nil) (fun w hS => ⟨⟨(trs l1 r1,z3),by rw [htr]; exact fixT_ok ht.1,fun c => by rw [htr]; exact fixT_ev t c⟩,rfl,(jK hS)⟩)
end Go.Proofs.YtkgllhkhdjodeaaGreat
namespace Dg
open Go.Proofs.YtkgllhkhdjodeaaGreat
def idxS (l : List (List UInt8)) (s : List UInt8) : Int := if l.contains s then ((l.findIdx (fun x => x == s) : Nat) : Int) else -1
end Dg
namespace Go.Proofs.YtkgllhkhdjodeaaGreat
open Go Go.Eng Go.Proofs Dg
end Go.Proofs.YtkgllhkhdjodeaaGreat
namespace Fm
open Go Go.Eng
abbrev Tk := Nat × List UInt8
abbrev RS := Nat × Bool
def rword (T : List Tk) (r : RS) : List UInt8 := if r.2 = true then [] else match T[r.1]? with
 | some t => t.2
 | none => []
def rskip (T : List Tk) (r : RS) (s : List UInt8) : RS × Bool := if rword T r = s then ((r.1 + 1,r.2),true) else (r,false)
inductive RN where
 | choice | implies | row (i : Nat) | rest (i : Nat) (acc : List Tree) | least
def rp (T : List Tk) : Nat → RN → RS → Option (Tree × RS)
 | 0,_,_ => none
 | n + 1,.choice,r => (rp T n .implies r).bind fun q1 =>
   (if (rskip T q1.2 [60,61,62]).2 then (rp T n .implies (rskip T q1.2 [60,61,62]).1).bind fun q2 => some (Tree.mk 9 [] [q1.1,q2.1],q2.2) else some q1).bind fun q =>
   if (rskip T q.2 [63]).2 then (rp T n .choice (rskip T q.2 [63]).1).bind fun q2 =>
    if (rskip T q2.2 [58]).2 then (rp T n .choice (rskip T q2.2 [58]).1).bind fun q3 => some (Tree.mk 10 [] [q.1,q2.1,q3.1],q3.2)
    else some (q.1,(q2.2.1,true))
   else some q
 | n + 1,.implies,r => (rp T n (.row 0) r).bind fun q => if (rskip T q.2 [61,62]).2 then (rp T n .implies (rskip T q.2 [61,62]).1).bind fun q2 => some (Tree.mk 8 [] [q.1,q2.1],q2.2) else some q
 | n + 1,.row i,r => if 3 ≤ i then rp T n .least r else (rp T n (.row (i + 1)) r).bind fun q => rp T n (.rest i [q.1]) q.2
 | n + 1,.rest i acc,r => if (rskip T r (rowSign i)).2 then (rp T n (.row (i + 1)) (rskip T r (rowSign i)).1).bind fun q => rp T n (.rest i (acc ++ [q.1])) q.2 else some (mkRow i acc,r)
 | n + 1,.least,r => if rword T r = [] then some (zeroTree,(r.1,true))
   else if rword T r = [33] then (rp T n .least (r.1 + 1,r.2)).bind fun q => some (Tree.mk 4 [] [q.1],q.2)
   else if rword T r = [40] then (rp T n .choice (r.1 + 1,r.2)).bind fun q => if (rskip T q.2 [41]).2 then some (q.1,(rskip T q.2 [41]).1) else some (q.1,(q.2.1,true))
   else if rword T r = [48] then some (.mk 1 [] [],(r.1 + 1,r.2))
   else if rword T r = [49] then some (.mk 2 [] [],(r.1 + 1,r.2))
   else if isNameB (rword T r) then some (.mk 3 (rword T r) [],(r.1 + 1,r.2))
   else some (zeroTree,(r.1,true))
section
variable {text : List UInt8} {T : List Tk} {e : Int} {I a : Nat} {x : List UInt8}
end
end Fm
namespace Fm
open Go Go.Eng
section
variable {text : List UInt8} {T : List Tk} {e : Int} {I a b : Nat} {x s : List UInt8} {r : RS} {q : Tree × RS} {t : Tree}
end
end Fm
namespace Go.Proofs.YtkgllhkhdjodeaaGreat
open Go Go.Eng Go.Proofs
open Go Go.Eng Go.Proofs Dg
end Go.Proofs.YtkgllhkhdjodeaaGreat
namespace Go.Eng
open Go Go.RowKit Go.Proofs.YtkgllhkhdjodeaaGreat
abbrev FR (l : Nat) : Fence := Fence.wide.inRound l
def isDefer : Op → Bool
 | .defer _ => true
 | _ => false
theorem not_defer {op : Op} (h : isDefer op = false) : ∀ c,op ≠ .defer c := fun c e => by rw [e] at h; cases h
section
variable {P : Program} {ops : Array Oper} {Q : Exit → Act → World → Prop} {n : Nat}
theorem rowsIn_wide {row : String} {args : Array Value} {w : World} {R : Value → World → Prop} (h : Rows P row args w R) : RowsIn Fence.wide n P row args w R := fun c cs _ => by
 obtain ⟨v,w',h1,h2⟩ := h c cs
 exact ⟨v,w',h1,stepsIn_wide.2 h2⟩
theorem upon_in {F : Fence} (hF : F = Fence.wide ∨ ∃ l,F = FR l) {o : Oper} {a : Act} {K : Act → World → Prop} {r : Result Next} (h : o.upon P a K Q r) : o.uponIn F n P a K Q r := by
 have hc : ∀ {m : Nat} {f : FuncId} {args : Array Value} {w : World} {R : Ending → World → Prop},Calls P f args w R → CallsIn F m P f args w R := fun {m} {f} {args} {w} {R} h => by
  rcases hF with rfl | ⟨l,rfl⟩
  ·exact callsIn_wide.2 h
  ·exact callsIn_wide.2 h
 have hr : ∀ {m : Nat} {row : String} {args : Array Value} {w : World} {R : Value → World → Prop},Rows P row args w R → RowsIn F m P row args w R := fun {m} {row} {args} {w} {R} h => by
  rcases hF with rfl | ⟨l,rfl⟩
  ·exact rowsIn_wide h
  ·exact rowsIn_wide h
 have hd : F.depth.isSome = true → 1 ≤ n := by
  rcases hF with rfl | ⟨l,rfl⟩ <;> (intro h; cases h)
 cases r with
 | ok x w' =>
  cases x <;> simp only [Oper.upon] at h <;> first
   | exact h
   | exact ⟨hd,hc h⟩
   | exact ⟨hd,hr h⟩
   | exact h.elim
 | halt x w' => cases x <;> first | exact h | exact h.elim
theorem semAt_nd {ρ : Operand → Value} {o : Oper} {ro : Option Nat} (h : isDefer o.op = false) : Oper.semAt ro ρ o = execOp ρ o := Oper.semAt_eq ro ρ o (not_defer h)
theorem fn_in {F : Fence} (hF : F = Fence.wide ∨ ∃ l,F = FR l) (f : FuncId) : F.fn f := by
 rcases hF with rfl | ⟨l,rfl⟩ <;> trivial
theorem oper_in {F : Fence} (hF : F = Fence.wide ∨ ∃ l,F = FR l) {o : Oper} {a : Act} {w : World} {K : Act → World → Prop} (hd : isDefer o.op = false) (h : o.wp P a w K Q) : o.wpIn F n P a w K Q :=
 ⟨fun f _ => fn_in hF f,by rw [semAt_nd hd]; exact upon_in hF h⟩
theorem wpO_in {F : Fence} (hF : F = Fence.wide ∨ ∃ l,F = FR l) {o : Oper} {rest : List Oper} {a : Act} {w : World} (hd : isDefer o.op = false) (hQ : ¬ LetsOut Q) (h : wpO P ops Q o (wpListIn F n P ops Q rest) a w) : wpListIn F n P ops Q (o :: rest) a w := by
 unfold wpO at h
 unfold wpListIn
 split at h
 ·rename_i hw
  rw [if_pos hw]
  rcases h with h | ⟨_,h⟩
  ·exact oper_in hF hd h
  exact absurd h hQ
 rename_i hw
 rw [if_neg hw]
 exact ⟨fun f _ => fn_in hF f,h⟩
theorem list_in {F : Fence} (hF : F = Fence.wide ∨ ∃ l,F = FR l) (hQ : ¬ LetsOut Q) : ∀ (l : List Oper) (a : Act) (w : World),(l.all fun o => !isDefer o.op) = true → wpList P ops Q l a w → wpListIn F n P ops Q l a w
 | [],_,_,_,h => h
 | o :: rest,a,w,hd,h => by
  simp only [List.all_cons,Bool.and_eq_true,Bool.not_eq_true'] at hd
  unfold wpListIn
  unfold wpList at h
  split at h
  ·rename_i hw
   rw [if_pos hw]
   rcases h with h | ⟨_,h⟩
   ·exact Oper.wpIn_mono (fun a w h => list_in hF hQ rest a w hd.2 h) (oper_in hF hd.1 h)
   ·exact absurd h hQ
  ·rename_i hw
   rw [if_neg hw]
   exact ⟨fun f _ => fn_in hF f,list_in hF hQ rest _ _ hd.2 h⟩
theorem any_in {F : Fence} (hF : F = Fence.wide ∨ ∃ l,F = FR l) (hQ : ¬ LetsOut Q) (hd : (ops.toList.all fun o => !isDefer o.op) = true) : ∀ (fuel : Nat) (listed : Array Bool) (a : Act) (w : World),wpAny P .any ops Q fuel listed a w → wpAnyIn F n P .any ops Q fuel listed a w
 | 0,_,_,_,h => h
 | fuel + 1,listed,a,w,h => ⟨h.1,fun i hi => by
  have h1 := h.2 i hi
  unfold wpOp at h1
  unfold wpOpIn
  split at h1
  ·rename_i ho; simp only [ho]; exact any_in hF hQ hd fuel _ _ _ h1
  ·rename_i o ho
   simp only [ho]
   have hdo : isDefer o.op = false := by
    have := List.all_eq_true.1 hd o (by rw [← Array.getElem?_toList] at ho; exact List.mem_of_getElem? ho)
    simpa using this
   split at h1
   ·rename_i hw
    rw [if_pos hw]
    rcases h1 with h1 | ⟨_,h1⟩
    ·exact Oper.wpIn_mono (fun a w h => any_in hF hQ hd fuel _ a w h) (oper_in hF hdo h1)
    ·exact absurd h1 hQ
   ·rename_i hw
    rw [if_neg hw]
    exact ⟨fun f _ => fn_in hF f,any_in hF hQ hd fuel _ _ _ h1⟩⟩
end
section
variable {P : Program} {w0 : World} {O : List Nat} {ops : Array Oper} {Q : Exit → Act → World → Prop} {N : Nat} {D : List Deferred} {L : FL} {C : List Chunk} {K : Act → World → Prop}
def WI (P : Program) (l : Nat) (w0 : World) (O : List Nat) (c : Code) (Q : Exit → Act → World → Prop) (N : Nat) (D : List Deferred) (L : FL) (C : List Chunk) : Prop :=
 ∀ a w,Fr N D L a → St w0 O C w → c.wpIn (FR l) 0 P Q a w
variable {l : Nat}
theorem WI.block {i : Nat} {c : Code} (h : WI P l w0 O c (Exit.inBlock i Q) N D L C) : WI P l w0 O (.block i c) Q N D L C := fun a w hF hS => wpIn_block (h a w hF hS)
theorem WI.region {i : Nat} {r : List Oper} (hQ : ¬ LetsOut Q) (hd : (r.all fun o => !isDefer o.op) = true) (h : WA w0 O (wpList P r.toArray Q r) N D L C) : WI P l w0 O (.region i r.toArray false) Q N D L C := fun a w hF hS =>
 wpIn_region_lit (list_in (.inr ⟨l,rfl⟩) hQ r a w hd (h a w hF hS))
theorem WI.drawsL {id : Nat} {r : List Oper} {Fs : List (List Nat × (World → Prop))} (hQ : ¬ LetsOut Q) (hd : (r.all fun o => !isDefer o.op) = true) (hm : P.follows .mixedOrders = true) (hF : FactsOk w0 O L C Fs)
  (h : WD P w0 O r.toArray Q Fs r.length (Array.replicate r.length false) N D L C) : WI P l w0 O (.region id r.toArray true) Q N D L C := fun a w hFr hS => by
 refine wpIn_region_any hm (any_in (.inr ⟨l,rfl⟩) hQ (by simpa using hd) _ _ _ _ (wpAny_of_T (Fs := Fs) _ _ _ _ ?_))
 have hc : Closed r.toArray (Array.replicate r.length false) := by
  intro j oj _ hl
  rcases Nat.lt_or_ge j r.length with h' | h'
  ·simp [h'] at hl
  ·simp [h'] at hl
 have hS' : St w0 O C { w with drawn := w.drawn + 1 } := ⟨hS.os,hS.tape,hS.output,hS.size,hS.old,fun c hc => c.loc w _ (fun _ _ => rfl) (hS.ok c hc),hS.bnd,hS.disj⟩
 have h1 := h hc a { w with drawn := w.drawn + 1 } hFr hS' (fun f hf _ => hF _ hS' f hf)
 simpa using h1
theorem WC.regionIn {i : Nat} {r : List Oper} (h : WA w0 O (wpListIn Fence.wide 0 P r.toArray Q r) N D L C) : WC P w0 O (.region i r.toArray false) Q N D L C := fun a w hF hS =>
 wpIn_wide.1 (wpIn_region_lit (h a w hF hS))
theorem WIL.nil (h : WQ w0 O Q .normal N D L C) : WA w0 O (wpListIn Fence.wide 0 P ops Q []) N D L C := fun a w hF hS => h a w hF hS
theorem WIL.step {o : Oper} {rest : List Oper} (hQ : ¬ LetsOut Q) (hd : isDefer o.op = false) (h : WK P w0 O ops Q o (wpListIn Fence.wide 0 P ops Q rest) N D L C) : WA w0 O (wpListIn Fence.wide 0 P ops Q (o :: rest)) N D L C := fun a w hF hS =>
 wpO_in (.inl rfl) hd hQ (h a w hF hS)
theorem WIL.guardT {o : Oper} {rest : List Oper} {j : Nat} {g : Bool} {dj : Nat} (hgd : o.guard = some (j,g)) (hj : (ops[j]?).bind (·.dst) = some dj) (hv : lk L dj = some (.bool g))
  (h : WA w0 O (wpListIn Fence.wide 0 P ops Q ({ o with guard := none } :: rest)) N D L C) : WA w0 O (wpListIn Fence.wide 0 P ops Q (o :: rest)) N D L C := fun a w hF hS => by
 have h' := h a w hF hS
 have hw : Region.wanted o (yielded ops a.tmps) = true := by
  have := hF.get dj _ hv
  simp [Region.wanted,hgd,yielded,hj,this]
 unfold wpListIn at h' ⊢
 rw [if_pos hw]
 rw [if_pos (by simp [Region.wanted])] at h'
 exact h'
variable {d : Nat} {ty : TypeId} {pos : String} {af : Array Edge}
theorem WIL.yield {β : Type} {b : Bool} {rest : List Oper} {x : Operand} {xs : List Operand} {tys : Array TypeId} {vs : List Value} {cs : β → List Chunk} {Cs C1 : List Chunk} {O' : List Nat} {φ : β → Prop}
  (hd : Nat.blt d N = true) (hfv : ev L x = some (.func (.yield l) #[] #[])) (hx : evs L xs = some vs) (hp : C.Perm (Cs ++ C1)) (hO1 : ∀ c ∈ Cs,∀ k,c.fp k → k ∈ O') (hO2 : ∀ k ∈ O',∃ c ∈ Cs,c.fp k)
  (hc : ∀ w,St w0 O (Cs ++ C1) w → St w O' Cs w → YieldAt Fence.wide 0 P l vs.toArray w fun e w' => e = .returned (.bool b) ∧ ∃ x,φ x ∧ St w O' (cs x) w')
  (h : ∀ x,φ x → WA w0 O (wpListIn Fence.wide 0 P ops Q rest) N D ((d,.bool b) :: L) (cs x ++ C1)) :
  WA w0 O (wpListIn Fence.wide 0 P ops Q (⟨some d,.call { callee := .value x,args := xs.toArray,argTypes := tys },ty,pos,af,none⟩ :: rest)) N D L C := fun a w hF hS => by
 have ha : xs.toArray.map a.eval = vs.toArray := by apply Array.ext'; simp [hF.evs hx]
 have hS1 := hS.perm hp
 obtain ⟨fn,tmps,assign,body,hy,hR⟩ := hc w hS1 (hS1.focus hO1)
 unfold wpListIn
 rw [if_pos (by simp [Region.wanted])]
 refine ⟨fun f _ => trivial,?_⟩
 have e1 : (Oper.semAt Fence.wide.round a.eval ⟨some d,.call { callee := .value x,args := xs.toArray,argTypes := tys },ty,pos,af,none⟩).run P w = .ok (.round l fn tmps assign body) w := by
  rw [semAt_nd rfl]
  simp [execOp,resolve,Deferred.ofValue,hF.ev hfv,invoke,ha,hy]
 rw [e1]
 refine ⟨fun h => (by cases h),hR.mono ?_⟩
 rintro e w' ⟨rfl,y,hφ,hS'⟩
 exact h y hφ _ w' (hF.put d _ hd) (hS1.callC hS' hO2)
end
def ob1 (b : Nat) (o : Obj) : Chunk where
 fp k := k = b
 ok w := w.heap[b]? = some o
 loc w w' h hw := by rw [h b rfl]; exact hw
theorem FpIs.ob1 {b : Nat} {o : Obj} : FpIs (ob1 b o) [b] := fun k => by simp [Eng.ob1]
section
variable {P : Program} {w0 : World} {O : List Nat} {ops : Array Oper} {Q : Exit → Act → World → Prop} {N : Nat} {D : List Deferred} {L : FL} {C : List Chunk} {K : Act → World → Prop}
theorem St.allocO {w : World} (h : St w0 O C w) (o : Obj) : St w0 O (ob1 w.heap.size o :: C) (w.alloc o) := by
 have hh : ∀ k,k < w.heap.size → (w.alloc o).heap[k]? = w.heap[k]? := fun k hk => Below.heap_alloc w _ k hk
 refine ⟨h.os,h.tape,h.output,by have := h.size; simp; omega,fun k hk ho => ?_,?_,?_,?_⟩
 ·rw [hh k (Nat.lt_of_lt_of_le hk h.size)]; exact h.old k hk ho
 ·intro c hc
  rcases List.mem_cons.1 hc with rfl | hc
  ·exact World.alloc_heap_new w o
  exact c.loc w _ (fun k hk => hh k (h.bnd c hc k hk).1) (h.ok c hc)
 ·intro c hc k hk
  rcases List.mem_cons.1 hc with rfl | hc
  ·have : k = w.heap.size := hk
   subst this
   exact ⟨by simp,fun hlt => absurd hlt (Nat.not_lt.2 h.size)⟩
  exact ⟨by have := (h.bnd c hc k hk).1; simp; omega,(h.bnd c hc k hk).2⟩
 refine List.Pairwise.cons (fun c hc k hk hk' => ?_) h.disj
 have : k = w.heap.size := hk
 subst this
 exact Nat.lt_irrefl _ (h.bnd c hc _ hk').1
theorem St.putO {w : World} {b : Nat} {o : Obj} (h : St w0 O (ob1 b o :: C) w) (o' : Obj) : St w0 O (ob1 b o' :: C) (w.putObj b o') := by
 have hb : b < w.heap.size := lt_of_heap (h.ok _ (List.mem_cons_self ..))
 have hbn := h.bnd _ (List.mem_cons_self ..) b rfl
 have hd := List.pairwise_cons.1 h.disj
 refine ⟨h.os,h.tape,h.output,by rw [World.putObj_size]; exact h.size,fun k hk ho => ?_,?_,?_,List.Pairwise.cons hd.1 hd.2⟩
 ·rw [World.putObj_heap_other (fun e => by subst e; exact ho (hbn.2 hk))]; exact h.old k hk ho
 ·intro c hc
  rcases List.mem_cons.1 hc with rfl | hc9
  ·exact World.putObj_heap_same hb
  exact c.loc w _ (fun k hk => World.putObj_heap_other (fun e => hd.1 c hc9 b rfl (e ▸ hk))) (h.ok c (List.mem_cons_of_mem _ hc9))
 intro c hc k hk
 rw [World.putObj_size]
 rcases List.mem_cons.1 hc with rfl | hc
 ·exact h.bnd _ (List.mem_cons_self ..) k hk
 exact h.bnd c (List.mem_cons_of_mem _ hc) k hk
def putL : List Nat → List Value → FL → FL
 | p :: ps,v :: vs,L => putL ps vs ((p,v) :: L)
 | _,_,L => L
theorem Fr.putL {Dd : List Deferred} : ∀ (ps : List Nat) (vs : List Value) {L : FL} {t : Array Value},(ps.all fun p => Nat.blt p N) = true → Fr N Dd L { tmps := t,defers := Dd } →
  Fr N Dd (Eng.putL ps vs L) { tmps := (ps.zip vs).foldl (fun t (q : Nat × Value) => t.setIfInBounds q.1 q.2) t,defers := Dd }
 | [],_,_,_,_,h => by simpa [Eng.putL] using h
 | _ :: _,[],_,_,_,h => by simpa [Eng.putL] using h
 | p :: ps,v :: vs,L,t,hp,h => by
  simp only [List.all_cons,Bool.and_eq_true] at hp
  simp only [Eng.putL,List.zip_cons_cons,List.foldl_cons]
  exact Fr.putL ps vs hp.2 (h.put p v hp.1)
def rdPost (G : Prop → Prop) (w1 : World) (O : List Nat) {σ : Type} (I : σ → Prop) (J : σ → List Chunk) : Exit → Act → World → Prop
 | .normal,_,w => ∃ y,I y ∧ St w1 O (J y) w
 | _,_,_ => False
theorem WQ.round {G : Prop → Prop} {σ : Type} {I : σ → Prop} {J : σ → List Chunk} (y : σ) (hI : I y) (h : ∀ w,St w0 O C w → St w0 O (J y) w) : WQ w0 O (rdPost G w0 O I J) .normal N D L C := fun a w hF hS => ⟨y,hI,h w hS⟩
def beginK (P : Program) (l : Nat) (body : Code) (Q : Exit → Act → World → Prop) (a : Act) (w : World) : Prop := ∃ w2,(Instr.beginRound l).run P w = .ok () w2 ∧ body.wpIn (FR l) 0 P Q a w2
theorem WQ.begin {l : Nat} {body : Code} {r : Loop} {C1 : List Chunk} (hr : r.state = .ready) (hp : C.Perm (ob1 l (.loop r) :: C1)) (h : WI P l w0 O body Q N D L (ob1 l (.loop { r with state := .busy }) :: C1)) :
  WQ w0 O (Exit.then (beginK P l body Q) (fun _ _ _ => False)) .normal N D L C := fun a w hF hS => by
 have hS1 := hS.perm hp
 exact ⟨_,run_beginRound (hS1.ok _ (List.mem_cons_self ..)) hr,h a _ hF (hS1.putO _)⟩
abbrev recOf (fn : FuncId) (t : Array Value) (ps : List Nat) (assign body : Code) (Db : Nat) : Loop := { state := .ready,pending := none,fn,tmps := t,params := ps.toArray,assign,body,defers := Db }
theorem WC.rangeFunc {σ : Type} {g : Operand} {ps : List Nat} {assign body : Code} {gf : FuncId} {cap : List Value} {C1 : List Chunk} {n : Nat} (encs : Nat → List Value) (I : Nat → σ → Prop) (J : σ → List Chunk) (G : σ → List Nat) (y0 : σ)
  (hJ : ∀ y,FpL (J y) (G y)) (hI0 : I 0 y0) (hg : ev L g = some (.func (.func gf) #[] cap.toArray)) (hf : funB P gf = some true) (hps : ∀ k,(encs k).length = ps.length) (hpN : (ps.all fun p => Nat.blt p N) = true) (hp : C.Perm (J y0 ++ C1))
  (hc : ∀ (l : Nat) (ch : σ → Chunk) (w : World),w0.heap.size ≤ l → St w0 O (J y0 ++ C1) w → (∀ y,FpIs (ch y) (l :: G y)) → (∀ c ∈ J y0 ++ C1,∀ k,c.fp k → k ≠ l) → St w (l :: G y0) [ch y0] w →
   (∀ k y w1,k < n → I k y → St w (l :: G y0) [ch y] w1 → YieldAt Fence.wide 0 P l (encs k).toArray w1 fun e w' => e = .returned (.bool true) ∧ ∃ y',I (k + 1) y' ∧ St w1 (l :: G y) [ch y'] w') →
   Calls P gf (Value.func (.yield l) #[] #[] :: cap).toArray w fun e w' => ∃ y,(∃ v,e = .returned v) ∧ I n y ∧ St w (l :: G y0) [ch y] w')
  (hround : ∀ (l : Nat) (r : Loop) k y w1,k < n → I k y → r.state = .ready → w0.heap.size ≤ l → St w0 O (J y ++ C1) w1 →
   WI P l w1 (l :: G y) assign (Exit.then (beginK P l body (rdPost (fun p => p) w1 (l :: G y) (I (k + 1)) (fun y => ob1 l (.loop { r with state := .busy }) :: J y))) (fun _ _ _ => False)) N [] (putL ps (encs k) L) (ob1 l (.loop r) :: J y))
  (hdone : ∀ Db y,I n y → WQ w0 O Q .normal N ({ target := .collected Db,args := #[] } :: D) L (ob1 Db (.deferred (some [])) :: J y ++ C1)) :
  WC P w0 O (.rangeFunc g ps.toArray assign body) Q N D L C := fun a w hFr hS0 => by
 have hS := hS0.perm hp
 refine (wpIn_wide (n := 1)).1 (wpIn_rangeFunc ?_)
 intro fn _
 show ∃ l mark w₁ d w₁' f args w₂,(Instr.enterLoop fn a.tmps ps.toArray assign body none).run P w = _ ∧ _
 obtain ⟨W1,hW1⟩ : ∃ W1,(w.alloc (.deferred (some []))).alloc (.loop (recOf fn a.tmps ps assign body w.heap.size)) = W1 := ⟨_,rfl⟩
 have hSd := (hS.allocO (.deferred (some []))).allocO (.loop (recOf fn a.tmps ps assign body w.heap.size))
 rw [hW1,World.size_alloc] at hSd
 have hlsz : w0.heap.size ≤ w.heap.size + 1 := Nat.le_succ_of_le hS.size
 refine ⟨w.heap.size + 1,[{ target := .collected w.heap.size,args := #[] }],W1,{ target := .fn (.func gf) cap.toArray,args := #[.func (.yield (w.heap.size + 1)) #[] #[]] },W1,gf,
  #[.func (.yield (w.heap.size + 1)) #[] #[]] ++ cap.toArray,W1,?_,?_,?_,?_,fun h => (by cases h),?_⟩
 ·rw [← hW1]; exact run_enterLoop_outer _ _ _ _ _
 ·simp only [resolve,hFr.ev hg]
  simp [go_sem]
 ·intro f' _; trivial
 ·simp [invoke,go_sem,run_callFunc hf]
 obtain ⟨Db,hD⟩ : ∃ Db,w.heap.size = Db := ⟨_,rfl⟩
 obtain ⟨l,hl⟩ : ∃ l,Db + 1 = l := ⟨_,rfl⟩
 rw [hD] at hSd hlsz ⊢
 rw [hl] at hSd hlsz ⊢
 have hch : ∀ y,FpIs (bun (l :: G y) (fun _ : Unit => ob1 l (.loop (recOf fn a.tmps ps assign body Db)) :: J y) (fun _ => True)) (l :: G y) := fun y k => Iff.rfl
 have hclose : ∀ (y : σ) {v : World} {O1 : List Nat} {C2 : List Chunk} {wb : World},St wb O1 (ob1 l (.loop (recOf fn a.tmps ps assign body Db)) :: J y ++ C2) v → St wb O1 (bun (l :: G y) (fun _ : Unit => ob1 l (.loop (recOf fn a.tmps ps assign body Db)) :: J y) (fun _ => True) :: C2) v := fun y {v} {O1} {C2} {wb} h =>
  St.bunClose' (Cs := fun _ : Unit => ob1 l (.loop (recOf fn a.tmps ps assign body Db)) :: J y) () trivial (.cons FpIs.ob1 (hJ y)) h
 -- the world in which the iterator is called
 have hSP : St w0 O (ob1 l (.loop (recOf fn a.tmps ps assign body Db)) :: J y0 ++ (ob1 Db (.deferred (some [])) :: C1)) W1 := hSd.perm (.cons _ (List.perm_middle.symm))
 have hfoc : St W1 (l :: G y0) [bun (l :: G y0) (fun _ : Unit => ob1 l (.loop (recOf fn a.tmps ps assign body Db)) :: J y0) (fun _ => True)] W1 :=
  (hclose y0 hSP).focus (Cs := [_]) (C1 := ob1 Db (.deferred (some [])) :: C1) (fun c hc k hk => by rw [List.mem_singleton.1 hc] at hk; exact hk)
 have hJC : St w0 O (J y0 ++ C1) W1 := hSP.sublist (List.Sublist.cons _ ((List.Sublist.refl _).append (List.sublist_cons_self ..)))
 have hdis : ∀ c ∈ J y0 ++ C1,∀ k,c.fp k → k ≠ l := fun c hc k hk e => by
  have h1 := (hS.bnd c hc k hk).1
  subst e; omega
 refine (callsIn_wide (n := 0)).2 ?_
 have hargs : #[Value.func (.yield l) #[] #[]] ++ cap.toArray = (Value.func (.yield l) #[] #[] :: cap).toArray := by simp
 rw [hargs]
 refine (hc l (fun y => bun (l :: G y) (fun _ : Unit => ob1 l (.loop (recOf fn a.tmps ps assign body Db)) :: J y) (fun _ => True)) W1 hlsz hJC hch hdis hfoc ?_).mono ?_
 ·-- one round
  intro k y w1 hk hI hSy
  obtain ⟨_,_,_,_,hSo⟩ := hSy.bunOpen
  have hlr := hSo.ok _ (List.mem_cons_self ..)
  have hS1 : St w1 (l :: G y) (ob1 l (.loop (recOf fn a.tmps ps assign body Db)) :: J y) w1 := by
   have h9 : St W1 (l :: G y0) ((ob1 l (.loop (recOf fn a.tmps ps assign body Db)) :: J y) ++ []) w1 := hSo
   exact h9.focus (FpL.one (.cons FpIs.ob1 (hJ y)))
  have hglob : St w0 O (J y ++ C1) w1 := by
   have h8 : St w0 O ([bun (l :: G y0) (fun _ : Unit => ob1 l (.loop (recOf fn a.tmps ps assign body Db)) :: J y0) (fun _ => True)] ++ (ob1 Db (.deferred (some [])) :: C1)) W1 := hclose y0 hSP
   have h9 := h8.callC hSy (fun k hk => ⟨_,List.mem_singleton.2 rfl,hk⟩)
   obtain ⟨_,_,_,_,h7⟩ := (show St w0 O (bun (l :: G y) (fun _ : Unit => ob1 l (.loop (recOf fn a.tmps ps assign body Db)) :: J y) (fun _ => True) :: (ob1 Db (.deferred (some [])) :: C1)) w1 from h9).bunOpen
   exact (show St w0 O (ob1 l (.loop (recOf fn a.tmps ps assign body Db)) :: (J y ++ (ob1 Db (.deferred (some [])) :: C1))) w1 from h7).sublist (List.Sublist.cons _ ((List.Sublist.refl _).append (List.sublist_cons_self ..)))
  have hy := run_yield (P := P) (args := (encs k).toArray) hlr (by simp [hps k])
  refine ⟨_,_,_,_,hy,?_⟩
  have hfr : Fr N [] (putL ps (encs k) L) { tmps := ((recOf fn a.tmps ps assign body Db).params.zip (encs k).toArray).foldl (fun t (q : Tmp × Value) => t.setIfInBounds q.1 q.2) (recOf fn a.tmps ps assign body Db).tmps,defers := [] } := by
   have h1 : Fr N [] L { tmps := a.tmps,defers := [] } := ⟨rfl,hFr.size,hFr.get⟩
   have h2 := Fr.putL ps (encs k) hpN h1
   simpa using h2
  have hw := hround l (recOf fn a.tmps ps assign body Db) k y w1 hk hI rfl hlsz hglob _ w1 hfr hS1
  refine roundIn_of_wpIn (F := Fence.wide) trivial (wpIn_mono hw ?_)
  intro e a1 w2 h
  cases e with
  | normal =>
   obtain ⟨w3,hb,hbody⟩ := h
   refine ⟨w3,hb,wpIn_mono hbody ?_⟩
   intro e2 a2 w4 h4
   cases e2 with
   | normal =>
    obtain ⟨y',hI',hS'⟩ := h4
    have hl4 := hS'.ok _ (List.mem_cons_self ..)
    refine ⟨_,_,run_endRound none hl4,rfl,y',hI',?_⟩
    have h5 := hS'.putO (.loop { (recOf fn a.tmps ps assign body Db) with state := .ready,pending := none })
    have h6 : St w1 (l :: G y) (ob1 l (.loop (recOf fn a.tmps ps assign body Db)) :: J y' ++ []) (w4.putObj l (.loop { (recOf fn a.tmps ps assign body Db) with state := .ready,pending := none })) := by
     rw [List.append_nil]
     exact h5
    exact hclose y' h6
   | _ => exact h4.elim
  | _ => exact h.elim
 ·-- behind the iterator
  rintro e W2 ⟨y,⟨v,rfl⟩,hIn,hS2⟩
  have h8 : St w0 O ([bun (l :: G y0) (fun _ : Unit => ob1 l (.loop (recOf fn a.tmps ps assign body Db)) :: J y0) (fun _ => True)] ++ (ob1 Db (.deferred (some [])) :: C1)) W1 := hclose y0 hSP
  have h9 := h8.callC hS2 (fun k hk => ⟨_,List.mem_singleton.2 rfl,hk⟩)
  obtain ⟨_,_,_,_,h7⟩ := (show St w0 O (bun (l :: G y) (fun _ : Unit => ob1 l (.loop (recOf fn a.tmps ps assign body Db)) :: J y) (fun _ => True) :: (ob1 Db (.deferred (some [])) :: C1)) W2 from h9).bunOpen
  have hl7 := h7.ok _ (List.mem_cons_self ..)
  refine ⟨none,_,run_endLoop hl7 (by simp),?_⟩
  have h6 := (show St w0 O (ob1 l (.loop (recOf fn a.tmps ps assign body Db)) :: (J y ++ (ob1 Db (.deferred (some [])) :: C1))) W2 from h7).putO (.loop { (recOf fn a.tmps ps assign body Db) with state := .exhausted })
  refine hdone Db y hIn _ _ ⟨?_,hFr.size,hFr.get⟩ ((h6.sublist (List.sublist_cons_self ..)).perm List.perm_middle)
  show [_] ++ a.defers = _
  rw [hFr.defers]; rfl
def bodyPostR (P : Program) (fn : Func) (R : Ending → World → Prop) : Exit → Act → World → Prop
 | .normal,a,w | .ret,a,w => LeavesInM Fence.wide 0 P fn a.tmps R a.defers .returning w
 | _,_,_ => False
theorem enterM {f : FuncId} {fn : Func} {c : Code} {args : List Value} {w : World} {R : Ending → World → Prop} (hf : P.funcs[f]? = some fn) (hb : fn.body = some c) (hn : fn.ntmps = N) (hl : Nat.ble args.length N = true) (hS : St w O C w)
  (h : WC P w O c (bodyPostR P fn R) N [] (fl0 args 0) C) : Calls P f args.toArray w R := by
 refine callsIn_wide.1 (callsIn_of_wp_marks (n := 0) hf hb trivial (wpIn_wide.2 (Code.wp_mono (Q := bodyPostR P fn R) (fun e a w h => by cases e <;> first | exact h | exact h.elim) ?_)))
 subst hn
 have := h _ w (Fr.init args fn.ntmps (Nat.le_of_ble_eq_true hl)) hS
 simpa using this
theorem WQ.retM1 {fn : Func} {R : Ending → World → Prop} {rs : List ResultVar} {vs : List Value} {Db : Nat} {C1 : List Chunk} (hr : fn.results = rs.toArray) (hp : C.Perm (ob1 Db (.deferred (some [])) :: C1)) (h : RV P L C1 rs vs) (hR : ∀ w,St w0 O C1 w → R (.returned (tup vs)) w) :
  WQ w0 O (bodyPostR P fn R) .ret N [{ target := .collected Db,args := #[] }] L C := fun a w hF hS => by
 show LeavesInM Fence.wide 0 P fn a.tmps R a.defers .returning w
 rw [hF.defers]
 have hS1 := hS.perm hp
 have hF' : Fr N a.defers L a := ⟨rfl,hF.size,hF.get⟩
 have hS2 := (hS1.putO (.deferred none)).sublist (List.sublist_cons_self ..)
 exact ⟨by simp,.inl ⟨Db,_,rfl,run_takeDeferred (hS1.ok _ (List.mem_cons_self ..)),_,run_results hr h hF' hS2,hR _ hS2⟩⟩
end
end Go.Eng
namespace Go.Proofs.YtkgllhkhdjodeaaGreat
open Go Go.Eng Go.Proofs Dg
abbrev DV := BT × Option Addr × Nat
def RdIn (w : World) (x : DV) (F : List Nat) : Prop := x.1.ok 0 ∧ ∀ (j : Nat) (u : Value),(decs (canon x.1).1)[j]? = some u → ∃ b off,x.2.1 = some ⟨b,off,none⟩ ∧ w.cell? ⟨b,off + j,none⟩ = some u ∧ b ∈ F
def dsC (F : List Nat) (l : List DV) : Chunk where
 fp k := k ∈ F
 ok w := ∀ x ∈ l,RdIn w x F
 loc w w' h hw := fun x hx => ⟨(hw x hx).1,fun j u hu => by
  obtain ⟨b,off,e1,e2,e3⟩ := (hw x hx).2 j u hu
  exact ⟨b,off,e1,by rw [World.cell?_of_block (h b e3)]; exact e2,e3⟩⟩
theorem FpIs.dsC {F : List Nat} {l : List DV} : FpIs (dsC F l) F := fun k => Iff.rfl
theorem dsC_rd {F : List Nat} {l : List DV} {w : World} {x : DV} (h : (dsC F l).ok w) (hx : x ∈ l) : RdD w x.1 x.2.1 := ⟨(h x hx).1,fun j u hu => by
 obtain ⟨b,off,e1,e2,_⟩ := (h x hx).2 j u hu
 exact ⟨b,off,e1,e2⟩⟩
abbrev dcs (l : List DV) : List Value := l.flatMap fun x => [.slice x.2.1 (canon x.1).1.length x.2.2,.int .i64 ((canon x.1).2 : Int)]
theorem dcs_append (l m : List DV) : dcs (l ++ m) = dcs l ++ dcs m := by simp [dcs]
theorem dcs_len : ∀ l : List DV,(dcs l).length = l.length * 2
 | [] => rfl
 | x :: l => by
  have ih := dcs_len l
  simp only [dcs,List.flatMap_cons,List.length_append,List.length_cons,List.length_nil] at ih ⊢
  omega
theorem dcs_at : ∀ {l : List DV} {k : Nat} {x : DV},l[k]? = some x → ∀ j u,[Value.slice x.2.1 (canon x.1).1.length x.2.2,.int .i64 ((canon x.1).2 : Int)][j]? = some u → (dcs l)[k * 2 + j]? = some u
 | y :: l,0,x,h,j,u,hu => by
  simp at h; subst h
  have hj : j < 2 := by have := (List.getElem?_eq_some_iff.1 hu).1; simpa using this
  simp only [dcs,List.flatMap_cons,Nat.zero_mul,Nat.zero_add]
  rw [List.getElem?_append_left (by simpa using hj)]
  exact hu
 | y :: l,k + 1,x,h,j,u,hu => by
  have ih := dcs_at (l := l) (k := k) (by simpa using h) j u hu
  simp only [dcs,List.flatMap_cons] at ih ⊢
  rw [List.getElem?_append_right (by simp; omega),show (k + 1) * 2 + j - [Value.slice y.2.1 (canon y.1).1.length y.2.2,.int .i64 ((canon y.1).2 : Int)].length = k * 2 + j by simp; omega]
  exact ih
section
variable {w0 : World} {O : List Nat} {C : List Chunk}
theorem St.dsNil {w : World} (h : St w0 O C w) : St w0 O (dsC [] [] :: C) w :=
 ⟨h.os,h.tape,h.output,h.size,h.old,fun c hc => by
  rcases List.mem_cons.1 hc with rfl | hc
  ·intro x hx; cases hx
  ·exact h.ok c hc,fun c hc k hk => by
  rcases List.mem_cons.1 hc with rfl | hc
  ·cases hk
  ·exact h.bnd c hc k hk,List.Pairwise.cons (fun _ _ _ hk => by cases hk) h.disj⟩
theorem St.dsSnoc {w : World} {F : List Nat} {l : List DV} {t : BT} {a : Option Addr} {c : Nat} (ht : t.ok 0) (h : St w0 O (dsC F l :: dC a c t :: C) w) : ∃ F',St w0 O (dsC F' (l ++ [(t,a,c)]) :: C) w := by
 have hok : (dC a c t).ok w := h.ok _ (List.mem_cons_of_mem _ (List.mem_cons_self ..))
 have hob : ∃ G : List Nat,(∀ k ∈ G,(dC a c t).fp k) ∧ RdIn w (t,a,c) G := by
  by_cases h0 : (canon t).1.length = 0
  ·exact ⟨[],by simp,ht,fun j u hu => by
    have := (List.getElem?_eq_some_iff.1 hu).1
    rw [decs_len] at this
    dsimp only at this
    omega⟩
  ·obtain ⟨g,hg,_,_⟩ := rowc_addr hok (by omega)
   subst hg
   exact ⟨[g],fun k hk => by simp at hk; subst hk; rfl,ht,fun j u hu => ⟨g,0,rfl,by rw [Nat.zero_add]; exact rowc_cells hok hu,by simp⟩⟩
 obtain ⟨G,hG1,hG2⟩ := hob
 refine ⟨F ++ G,h.join (fun k hk => ?_) (fun hc hd _ => ?_)⟩
 ·rcases List.mem_append.1 hk with hk | hk
  ·exact .inl hk
  exact .inr (hG1 k hk)
 intro x hx
 rcases List.mem_append.1 hx with hx | hx
 ·exact ⟨(hc x hx).1,fun j u hu => by
   obtain ⟨b,off,e1,e2,e3⟩ := (hc x hx).2 j u hu
   exact ⟨b,off,e1,e2,List.mem_append_left _ e3⟩⟩
 rw [List.mem_singleton.1 hx]
 exact ⟨hG2.1,fun j u hu => by
  obtain ⟨b,off,e1,e2,e3⟩ := hG2.2 j u hu
  exact ⟨b,off,e1,e2,List.mem_append_right _ e3⟩⟩
end
open Go Go.Eng Go.Proofs Dg
structure RdDL (w : World) (ds : List DV) (a : Option Addr) : Prop where
 hd : ∀ (j : Nat) (u : Value),(dcs ds)[j]? = some u → ∃ b off,a = some ⟨b,off,none⟩ ∧ w.cell? ⟨b,off + j,none⟩ = some u
 rd : ∀ x ∈ ds,RdD w x.1 x.2.1
theorem RdDL.next {w0 w : World} {C : List Chunk} {ds : List DV} {a : Option Addr} (h : RdDL w0 ds a) (hS : St w0 [] C w) : RdDL w ds a :=
 ⟨fun j u hu => by
  obtain ⟨b,off,h1,h2⟩ := h.hd j u hu
  exact ⟨b,off,h1,hS.oldc h2 (by simp)⟩,fun x hx => (h.rd x hx).next0 hS⟩
theorem RdDL.of_row {w : World} {ds : List DV} {a : Option Addr} {n cap : Nat} {e : TypeId} {F : List Nat} (hn : n = ds.length) (h : (rowc (.slice a n cap) n e 2 (dcs ds)).ok w) (h2 : (dsC F ds).ok w) : RdDL w ds a :=
 ⟨fun j u hu => by
  have hlt := (List.getElem?_eq_some_iff.1 hu).1
  rw [dcs_len] at hlt
  obtain ⟨g,hg,_,_⟩ := rowc_addr h (by omega)
  subst hg
  exact ⟨g,0,rfl,by rw [Nat.zero_add]; exact rowc_cells h hu⟩,fun x hx => dsC_rd h2 hx⟩
theorem RdDL.at {w : World} {ds : List DV} {a : Option Addr} (h : RdDL w ds a) {i : Nat} {x : DV} (hx : ds[i]? = some x) : ∃ b off,a = some ⟨b,off,none⟩ ∧ (∀ j v,[Value.slice x.2.1 (canon x.1).1.length x.2.2,.int .i64 ((canon x.1).2 : Int)][j]? = some v → w.cell? ⟨b,off + i * 2 + j,none⟩ = some v) ∧ RdD w x.1 x.2.1 := by
 obtain ⟨b,off,h1,_⟩ := h.hd (i * 2 + 0) _ (dcs_at hx 0 _ rfl)
 refine ⟨b,off,h1,fun j v hv => ?_,h.rd x (List.mem_of_getElem? hx)⟩
 obtain ⟨b',off',h3,h4⟩ := h.hd (i * 2 + j) v (dcs_at hx j v hv)
 rw [h1] at h3
 injection h3 with h3
 injection h3 with h5 h6
 subst h5; subst h6
 rw [Nat.add_assoc]; exact h4
structure ManyG where
 i : Nat
 t : BT
 ad : Option Addr
 ac : Nat
abbrev dvl (x : DV) : List Value := [.slice x.2.1 (canon x.1).1.length x.2.2,.int .i64 ((canon x.1).2 : Int)]
theorem AndAll_c (ds : List DV) (a : Option Addr) (cap : Nat) (hll : ds.length ≤ 1099511627776) (w : World) (hr : RdDL w ds a) : Calls Tryz.prog 101 [.slice a ds.length cap].toArray w (DPost (fun cf => ds.all (fun x => x.1.ev cf)) w) := by
 refine enter Tryz.func101 rfl Tryz.ntmps101 rfl (St.init _) ?_
 refine jN 3 ?_
 refine WL.alloc F.zero35 rfl (fun b2 => ?_)
 refine jN 5 ?_
 refine WL.call0 (β := DRes (fun _ => true)) (res := fun z => .returned z.v) (cs := fun z => [z.ch]) (ψ := fun _ => True) F.fun74 (fun d h => by cases h; rfl) rfl (fun w hS => (True_c w).mono (fun e w2 ⟨x,h1,h2⟩ => ⟨x,trivial,h1,h2⟩)) (fun z6 _ => ?_)
 refine WL.step ?_
 refine WL.alloc F.zero35 rfl (fun b3 => ?_)
 refine jN 16 ?_
 refine WC.chunks (C' := [pt b2 [.slice none 0 0,.int .i64 0] 35,pt b3 [.slice z6.1.2.1 (canon z6.1.1).1.length z6.1.2.2,.int .i64 ((canon z6.1.1).2 : Int)] 35,z6.ch]) (fun w hS => (jK hS)) ?_
 refine WC.loop (α := ManyG) (fun g => g.i ≤ ds.length ∧ g.t.ok 0 ∧ ∀ cf,g.t.ev cf = (ds.take g.i).all (fun x => x.1.ev cf)) (fun g => [(2,pp b2),(3,pp b3),(7,.slice a ds.length cap),(8,.int .i64 (ds.length : Int)),(9,.int .i64 (g.i : Int))]) (fun g => [pt b2 [.slice none 0 0,.int .i64 0] 35,pt b3 [.slice g.ad (canon g.t).1.length g.ac,.int .i64 ((canon g.t).2 : Int)] 35,dC g.ad g.ac g.t]) (fun g => ds.length - g.i) (⟨0,z6.1.1,z6.1.2.1,z6.1.2.2⟩) ?_ ?_ ?_ ?_
 ·exact ⟨Nat.zero_le _,z6.2.1,fun cf => by rw [z6.2.2]; rfl⟩
 ·exact ⟨rfl,rfl,rfl,rfl,rfl,trivial⟩
 ·rfl
 rintro ⟨i,t,ad,ac⟩ ⟨hi,hok,hev⟩
 dsimp only at hi hok hev
 show WC _ _ _ _ _ _ _ [(2,pp b2),(3,pp b3),(7,.slice a ds.length cap),(8,.int .i64 (ds.length : Int)),(9,.int .i64 (i : Int))] [pt b2 [.slice none 0 0,.int .i64 0] 35,pt b3 [.slice ad (canon t).1.length ac,.int .i64 ((canon t).2 : Int)] 35,dC ad ac t]
 refine jN 7 ?_
 refine WC.cond rfl (fun h10 => ?_) (fun h10 => ?_)
 ·have hlt : i < ds.length := by simpa using h10
  obtain ⟨x,hx⟩ : ∃ x,ds[i]? = some x := ⟨_,List.getElem?_eq_getElem hlt⟩
  obtain ⟨b,off,rfl,hcx,hrx⟩ := hr.at hx
  refine jN 7 ?_
  refine WL.indexAddr F.sl48 rfl rfl rfl hlt ?_
  refine jN 1 ?_
  refine WL.loadN F.agg35 rfl rfl (vs := dvl x) rfl (fun w hS j v hv => hS.oldc (hcx j v hv) (by simp)) ?_
  refine jN 1 ?_
  refine WL.alloc F.zero35 rfl (fun b5 => ?_)
  refine jN 10 ?_
  refine WL.call0 (β := DRes (fun cf => t.ev cf && x.1.ev cf)) (res := fun z => .returned z.v) (cs := fun z => [z.ch]) (ψ := fun _ => True) F.fun75 (fun d h => by cases h; rfl) rfl (fun w hS => (And_c t x.1 ad x.2.1 ac x.2.2 w (RdD.of_row hok (hS.ok (dC ad ac t) jM)) (hrx.next0 hS)).mono (fun e w2 ⟨x,h1,h2⟩ => ⟨x,trivial,h1,h2⟩)) (fun z15 _ => ?_)
  refine WL.step ?_
  refine WL.storeN F.agg35 rfl rfl rfl (by simp [Value.oneCell']) (by repeat (first | exact Upd.here | apply Upd.there)) (by repeat constructor) ?_
  refine WL.nil ?_
  refine WQ.block_normal ?_
  refine WQ.then_normal ?_
  refine WC.region ?_
  refine WL.step ?_
  refine WL.add rfl rfl rfl ⟨by omega,by omega⟩ ?_
  refine WL.step ?_
  refine WL.move rfl rfl ?_
  refine WL.nil ?_
  refine WQ.chunks (C' := [pt b2 [.slice none 0 0,.int .i64 0] 35,pt b3 [.slice z15.1.2.1 (canon z15.1.1).1.length z15.1.2.2,.int .i64 ((canon z15.1.1).2 : Int)] 35,z15.ch]) (fun w hS => (jK hS)) ?_
  refine WQ.back (⟨i + 1,z15.1.1,z15.1.2.1,z15.1.2.2⟩) ?_ ?_ ?_ ?_
  ·exact ⟨by show i + 1 ≤ ds.length; omega,z15.2.1,fun cf => by (show z15.1.1.ev cf = _; rw [z15.2.2]; dsimp only; rw [hev,List.take_add_one,hx]; simp)⟩
  ·(show ds.length - (i + 1) < ds.length - i; omega)
  ·exact ⟨rfl,rfl,rfl,rfl,rfl,trivial⟩
  rfl
 have hie : i = ds.length := by simp at h10; omega
 subst hie
 rw [List.take_length] at hev
 refine jN 14 ?_
 refine WQ.ret (rs := [.cell 2 35]) rfl (.cellN F.agg35 rfl jM rfl .nil) (fun w hS => ⟨⟨(t,ad,ac),hok,hev⟩,rfl,(jK hS)⟩)
theorem OrAll_c (ds : List DV) (a : Option Addr) (cap : Nat) (hll : ds.length ≤ 1099511627776) (w : World) (hr : RdDL w ds a) : Calls Tryz.prog 102 [.slice a ds.length cap].toArray w (DPost (fun cf => ds.any (fun x => x.1.ev cf)) w) := by
 refine enter Tryz.func102 rfl Tryz.ntmps102 rfl (St.init _) ?_
 refine jN 3 ?_
 refine WL.alloc F.zero35 rfl (fun b2 => ?_)
 refine jN 5 ?_
 refine WL.call0 (β := DRes (fun _ => false)) (res := fun z => .returned z.v) (cs := fun z => [z.ch]) (ψ := fun _ => True) F.fun103 (fun d h => by cases h; rfl) rfl (fun w hS => (False_c w).mono (fun e w2 ⟨x,h1,h2⟩ => ⟨x,trivial,h1,h2⟩)) (fun z6 _ => ?_)
 refine WL.step ?_
 refine WL.alloc F.zero35 rfl (fun b3 => ?_)
 refine jN 16 ?_
 refine WC.chunks (C' := [pt b2 [.slice none 0 0,.int .i64 0] 35,pt b3 [.slice z6.1.2.1 (canon z6.1.1).1.length z6.1.2.2,.int .i64 ((canon z6.1.1).2 : Int)] 35,z6.ch]) (fun w hS => (jK hS)) ?_
 refine WC.loop (α := ManyG) (fun g => g.i ≤ ds.length ∧ g.t.ok 0 ∧ ∀ cf,g.t.ev cf = (ds.take g.i).any (fun x => x.1.ev cf)) (fun g => [(2,pp b2),(3,pp b3),(7,.slice a ds.length cap),(8,.int .i64 (ds.length : Int)),(9,.int .i64 (g.i : Int))]) (fun g => [pt b2 [.slice none 0 0,.int .i64 0] 35,pt b3 [.slice g.ad (canon g.t).1.length g.ac,.int .i64 ((canon g.t).2 : Int)] 35,dC g.ad g.ac g.t]) (fun g => ds.length - g.i) (⟨0,z6.1.1,z6.1.2.1,z6.1.2.2⟩) ?_ ?_ ?_ ?_
 ·exact ⟨Nat.zero_le _,z6.2.1,fun cf => by rw [z6.2.2]; rfl⟩
 ·exact ⟨rfl,rfl,rfl,rfl,rfl,trivial⟩
 ·rfl
 rintro ⟨i,t,ad,ac⟩ ⟨hi,hok,hev⟩
 dsimp only at hi hok hev
 show WC _ _ _ _ _ _ _ [(2,pp b2),(3,pp b3),(7,.slice a ds.length cap),(8,.int .i64 (ds.length : Int)),(9,.int .i64 (i : Int))] [pt b2 [.slice none 0 0,.int .i64 0] 35,pt b3 [.slice ad (canon t).1.length ac,.int .i64 ((canon t).2 : Int)] 35,dC ad ac t]
 refine jN 7 ?_
 refine WC.cond rfl (fun h10 => ?_) (fun h10 => ?_)
 ·have hlt : i < ds.length := by simpa using h10
  obtain ⟨x,hx⟩ : ∃ x,ds[i]? = some x := ⟨_,List.getElem?_eq_getElem hlt⟩
  obtain ⟨b,off,rfl,hcx,hrx⟩ := hr.at hx
  refine jN 7 ?_
  refine WL.indexAddr F.sl48 rfl rfl rfl hlt ?_
  refine jN 1 ?_
  refine WL.loadN F.agg35 rfl rfl (vs := dvl x) rfl (fun w hS j v hv => hS.oldc (hcx j v hv) (by simp)) ?_
  refine jN 1 ?_
  refine WL.alloc F.zero35 rfl (fun b5 => ?_)
  refine jN 10 ?_
  refine WL.call0 (β := DRes (fun cf => t.ev cf || x.1.ev cf)) (res := fun z => .returned z.v) (cs := fun z => [z.ch]) (ψ := fun _ => True) F.fun105 (fun d h => by cases h; rfl) rfl (fun w hS => (Or_c t x.1 ad x.2.1 ac x.2.2 w (RdD.of_row hok (hS.ok (dC ad ac t) jM)) (hrx.next0 hS)).mono (fun e w2 ⟨x,h1,h2⟩ => ⟨x,trivial,h1,h2⟩)) (fun z15 _ => ?_)
  refine WL.step ?_
  refine WL.storeN F.agg35 rfl rfl rfl (by simp [Value.oneCell']) (by repeat (first | exact Upd.here | apply Upd.there)) (by repeat constructor) ?_
  refine WL.nil ?_
  refine WQ.block_normal ?_
  refine WQ.then_normal ?_
  refine WC.region ?_
  refine WL.step ?_
  refine WL.add rfl rfl rfl ⟨by omega,by omega⟩ ?_
  refine WL.step ?_
  refine WL.move rfl rfl ?_
  refine WL.nil ?_
  refine WQ.chunks (C' := [pt b2 [.slice none 0 0,.int .i64 0] 35,pt b3 [.slice z15.1.2.1 (canon z15.1.1).1.length z15.1.2.2,.int .i64 ((canon z15.1.1).2 : Int)] 35,z15.ch]) (fun w hS => (jK hS)) ?_
  refine WQ.back (⟨i + 1,z15.1.1,z15.1.2.1,z15.1.2.2⟩) ?_ ?_ ?_ ?_
  ·exact ⟨by show i + 1 ≤ ds.length; omega,z15.2.1,fun cf => by (show z15.1.1.ev cf = _; rw [z15.2.2]; dsimp only; rw [hev,List.take_add_one,hx]; simp)⟩
  ·(show ds.length - (i + 1) < ds.length - i; omega)
  ·exact ⟨rfl,rfl,rfl,rfl,rfl,trivial⟩
  rfl
 have hie : i = ds.length := by simp at h10; omega
 subst hie
 rw [List.take_length] at hev
 refine jN 14 ?_
 refine WQ.ret (rs := [.cell 2 35]) rfl (.cellN F.agg35 rfl jM rfl .nil) (fun w hS => ⟨⟨(t,ad,ac),hok,hev⟩,rfl,(jK hS)⟩)
theorem Ite_c (t1 t2 t3 : BT) (a1 a2 a3 : Option Addr) (c1 c2 c3 : Nat) (w : World) (hr1 : RdD w t1 a1) (hr2 : RdD w t2 a2) (hr3 : RdD w t3 a3) : Calls Tryz.prog 106 [dval t1 a1 c1,dval t2 a2 c2,dval t3 a3 c3].toArray w (DPost (fun cf => bif t1.ev cf then t2.ev cf else t3.ev cf) w) := by
 refine enter Tryz.func106 rfl Tryz.ntmps106 rfl (St.init _) ?_
 refine jN 3 ?_
 refine WL.boxN rfl rfl (fun b3 => ?_)
 refine jN 1 ?_
 refine WL.boxN rfl rfl (fun b4 => ?_)
 refine jN 1 ?_
 refine WL.boxN rfl rfl (fun b5 => ?_)
 refine jN 1 ?_
 refine WL.alloc F.zero35 rfl (fun b6 => ?_)
 refine jN 3 ?_
 refine WC.drawsL (by kernel_rfl) (FactsOk.cons (ds := [2,4,6,7,8]) (LoadOk.whole (t := 3) rfl jM) (FactsOk.cons (ds := [2,4,6,7,8]) (LoadOk.whole (t := 4) rfl jM) (FactsOk.cons (ds := [4,6,7,8]) (LoadOk.whole (t := 3) rfl jM) (FactsOk.cons (ds := [6,7,8]) (LoadOk.whole (t := 5) rfl jM) (FactsOk.nil))))) ?_
 refine jF 0 0 rfl rfl (Yl.loadN F.agg35 rfl rfl) ?_
 refine jF 1 1 rfl rfl (Yl.loadN F.agg35 rfl rfl) ?_
 refine jF 3 2 rfl rfl (Yl.loadN F.agg35 rfl rfl) ?_
 refine jF 5 3 rfl rfl (Yl.loadN F.agg35 rfl rfl) ?_
 refine jA 2 rfl ?_
 refine WL.call0 (β := DRes (fun cf => t1.ev cf && t2.ev cf)) (res := fun z => .returned z.v) (cs := fun z => [z.ch]) (ψ := fun _ => True) F.fun75 (fun d h => by cases h; rfl) rfl (fun w hS => (And_c t1 t2 a1 a2 c1 c2 w (hr1.next0 hS) (hr2.next0 hS)).mono (fun e w2 ⟨x,h1,h2⟩ => ⟨x,trivial,h1,h2⟩)) (fun z9 _ => ?_)
 refine WD.on (closed_of (by kernel_rfl)) (fun w hS => Sx.gone rfl (Sx.gone rfl (Sx.keep ((fun j v hv => by rw [Nat.zero_add]; exact hS.cell jM hv)) (Sx.keep ((fun j v hv => by rw [Nat.zero_add]; exact hS.cell jM hv)) (Sx.none))))) ?_
 refine jA 4 rfl ?_
 refine WL.call0 (β := DRes (fun cf => !t1.ev cf)) (res := fun z => .returned z.v) (cs := fun z => [z.ch]) (ψ := fun _ => True) F.fun100 (fun d h => by cases h; rfl) rfl (fun w hS => (Not_c t1 a1 c1 w (hr1.next0 hS)).mono (fun e w2 ⟨x,h1,h2⟩ => ⟨x,trivial,h1,h2⟩)) (fun z11 _ => ?_)
 refine WD.on (closed_of (by kernel_rfl)) (fun w hS => Sx.gone rfl (Sx.gone rfl (Sx.gone rfl (Sx.keep ((fun j v hv => by rw [Nat.zero_add]; exact hS.cell jM hv)) (Sx.none))))) ?_
 refine jA 6 rfl ?_
 refine WL.call0 (β := DRes (fun cf => z11.1.1.ev cf && t3.ev cf)) (res := fun z => .returned z.v) (cs := fun z => [z.ch]) (ψ := fun _ => True) F.fun75 (fun d h => by cases h; rfl) rfl (fun w hS => (And_c z11.1.1 t3 z11.1.2.1 a3 z11.1.2.2 c3 w (z11.rd hS jM) (hr3.next0 hS)).mono (fun e w2 ⟨x,h1,h2⟩ => ⟨x,trivial,h1,h2⟩)) (fun z13 _ => ?_)
 refine jG ?_
 refine jA 7 rfl ?_
 refine WL.call0 (β := DRes (fun cf => z9.1.1.ev cf || z13.1.1.ev cf)) (res := fun z => .returned z.v) (cs := fun z => [z.ch]) (ψ := fun _ => True) F.fun105 (fun d h => by cases h; rfl) rfl (fun w hS => (Or_c z9.1.1 z13.1.1 z9.1.2.1 z13.1.2.1 z9.1.2.2 z13.1.2.2 w (z9.rd hS jM) (z13.rd hS jM)).mono (fun e w2 ⟨x,h1,h2⟩ => ⟨x,trivial,h1,h2⟩)) (fun z14 _ => ?_)
 refine jG ?_
 refine jA 8 rfl ?_
 refine WL.storeN F.agg35 rfl rfl rfl jO jU jS ?_
 refine jG ?_
 refine jD ?_
 refine jN 2 ?_
 refine WQ.ret (rs := [.cell 6 35]) rfl (.cellN F.agg35 rfl jM rfl .nil) (fun w hS => ⟨⟨z14.1,z14.2.1,fun cf => by rw [z14.2.2]; dsimp only; rw [z9.2.2,z13.2.2]; dsimp only; rw [z11.2.2]; dsimp only; cases t1.ev cf <;> simp⟩,rfl,(jK hS)⟩)
end Go.Proofs.YtkgllhkhdjodeaaGreat
namespace Fm
open Go Go.Eng
end Fm
namespace Fm
open Go Go.Eng
end Fm
namespace Fm
open Go Go.Eng
mutual
def sameT : Tree → Tree → Bool
 | .mk o n k,.mk o' n' k' => decide (o = o') && n == n' && sameL k k'
def sameL : List Tree → List Tree → Bool
 | [],[] => true
 | a :: xs,b :: ys => sameT a b && sameL xs ys
 | _,_ => false
end
end Fm
namespace Fm
open Go Go.Eng
mutual
def cntT : Nat → Int → Tree → Int
  | lv,left,.mk _ name kids => if lv = 0 ∨ left - 1 < 0 ∨ 100 < name.length then -1 else cntL (lv - 1) (left - 1) kids
def cntL : Nat → Int → List Tree → Int
  | _,left,[] => left
  | lv,left,k :: ks => if left < 0 then left else cntL lv (cntT lv left k) ks
end
def lineOf (op : Int) : Int := if op = 5 then 2 else if op = 7 then 3 else if op = 6 then 4 else if op = 8 then 5 else if op = 9 then 6 else if op = 10 then 7 else 1
def signR (op i : Int) : List UInt8 :=
  if op = 5 then [32,38,32] else if op = 7 then [32,94,32] else if op = 6 then [32,124,32] else if op = 8 then [32,61,62,32] else if op = 9 then [32,60,61,62,32] else if i = 1 then [32,63,32] else [32,58,32]
def mostOf (op i : Int) : Int := if (op = 8 ∧ i = 1) ∨ (op = 10 ∧ 0 < i) then lineOf op else if op = 4 then 1 else lineOf op - 1
def headR (op i : Int) : List UInt8 := (if op = 4 then [33] else []) ++ (if 0 < i then signR op i else [])
mutual
def textT : Tree → List UInt8
  | .mk op name kids => if op = 1 then [48] else if op = 2 then [49] else if op = 3 then name else textL op 0 kids
def textL : Int → Int → List Tree → List UInt8
  | _,_,[] => []
  | op,i,k :: ks => headR op i ++ (if mostOf op i < lineOf k.op then [40] ++ textT k ++ [41] else textT k) ++ textL op (i + 1) ks
end
end Fm
namespace Go.Proofs.YtkgllhkhdjodeaaGreat
open Go Go.Eng Go.Proofs
end Go.Proofs.YtkgllhkhdjodeaaGreat
namespace Dg
open Go.Eng
def opV (names : List (List UInt8)) (op : Int) (nm : List UInt8) (bs : List Bool) (cf : Cf) : Bool :=
 if op = 2 then true
 else if op = 3 then cf (idxS names nm).toNat
 else if op = 4 then !(bs.getD 0 false)
 else if op = 5 then bs.all id
 else if op = 6 then bs.any id
 else if op = 7 then bs.foldl (fun x y => x != y) false
 else if op = 8 then !(bs.getD 0 false) || bs.getD 1 false
 else if op = 9 then !(bs.getD 0 false != bs.getD 1 false)
 else if op = 10 then bif bs.getD 0 false then bs.getD 1 false else bs.getD 2 false
 else false
mutual
def evT (names : List (List UInt8)) : Tree → Cf → Bool
 | .mk op nm kids,cf => opV names op nm (evL names kids cf) cf
def evL (names : List (List UInt8)) : List Tree → Cf → List Bool
 | [],_ => []
 | t :: ts,cf => evT names t cf :: evL names ts cf
end
end Dg
namespace Go.Proofs.YtkgllhkhdjodeaaGreat
open Go Go.Eng Go.Proofs Dg
end Go.Proofs.YtkgllhkhdjodeaaGreat
namespace Dg
end Dg
namespace Go.Proofs.YtkgllhkhdjodeaaGreat
open Go Go.Eng Go.Proofs Dg
theorem retB {b b' : Bool} (h : b = b') : Ending.returned (tup [Value.bool b]) = .returned (.bool b') := by subst h; rfl
theorem conv61 {n : Nat} (hn : n < 9223372036854775808) (w : World) : (convert 3 61 (.int .i64 (n : Int))).run Tryz.prog w = .ok (.int .u64 (n : Int)) w := conv39 hn w
open Go Go.Eng Go.Proofs
open Go Go.Eng Go.Proofs Dg
open Go Go.Eng Go.Proofs
open Go Go.Eng Go.Proofs Dg
end Go.Proofs.YtkgllhkhdjodeaaGreat
namespace Dg
end Dg
namespace Go.Proofs.YtkgllhkhdjodeaaGreat
open Go Go.Eng Go.Proofs Dg
abbrev scells (v : List Nat) (a : Option Addr) (c : Nat) (bs : List Bool) (ta : Option Addr) (tc : Nat) : List Value := [.slice a v.length c,.slice ta bs.length tc]
abbrev sval (v : List Nat) (a : Option Addr) (c : Nat) (bs : List Bool) (ta : Option Addr) (tc : Nat) : Value := .agg (scells v a c bs ta tc).toArray
theorem run_quo2 {a : Nat} (ha : a < 4294967296) (t : TypeId) (x y : Operand) (w : World) :
  (do eqGuard .quo t x y (.int .u32 (a : Int)) (.int .u32 2); binOp .quo t (.int .u32 (a : Int)) (.int .u32 2) : Sem Value).run Tryz.prog w = .ok (.int .u32 ((a / 2 : Nat) : Int)) w := by
 have h1 : (a : Int).tdiv 2 = ((a / 2 : Nat) : Int) := by
  rw [Int.tdiv_eq_ediv_of_nonneg (Int.natCast_nonneg _)]; simp
 have h2 := wrap_u32 (show a / 2 < 4294967296 by omega)
 simp only [Int.natCast_ediv] at h2 h1
 simp at h2 h1
 simp [eqGuard,binOp,Op.intDiv,h1,h2]
abbrev nums (l : List Nat) : List Value := l.map (fun (i : Nat) => Value.int .i64 (i : Int))
theorem nums_at {l : List Nat} {i v : Nat} (h : l[i]? = some v) : (nums l)[i]? = some (.int .i64 (v : Int)) := by
 rw [List.getElem?_map,h]; rfl
def featN (f i : Nat) : List Nat := (List.range i).filter (fun j => f.testBit j)
theorem featN_succ (f i : Nat) : featN f (i + 1) = featN f i ++ (if f.testBit i then [i] else []) := by
 unfold featN
 rw [List.range_succ,List.filter_append]
 congr 1
 cases h : f.testBit i <;> simp [h]
theorem featN_len (f i : Nat) : (featN f i).length ≤ i := by
 unfold featN
 exact Nat.le_trans (List.length_filter_le _ _) (by simp)
structure FeatG where
 i : Nat
 a : Option Addr
 c : Nat
theorem Features_c (f : Nat) (hf : f < 4294967296) (w : World) :
  Calls Tryz.prog 34 [.int .u32 (f : Int)].toArray w fun e w' => ∃ x : Option Addr × Nat,e = .returned (.slice x.1 (featL f).length x.2) ∧ St w [] [rowc (.slice x.1 (featL f).length x.2) (featL f).length 3 1 (nums (featL f))] w' := by
 refine enter Tryz.func34 rfl Tryz.ntmps34 rfl (St.init _) ?_
 refine jN 20 ?_
 refine WC.chunks (C' := [rowc (.slice none 0 0) 0 3 1 []]) (fun w hS => (hS.rowNil 3 1)) ?_
 refine WC.loop (α := FeatG) (fun g => g.i ≤ 24) (fun g => [(0,.int .u32 ((f >>> g.i : Nat) : Int)),(3,.slice g.a (featN f g.i).length g.c),(4,.int .i64 (g.i : Int))]) (fun g => [rowc (.slice g.a (featN f g.i).length g.c) (featN f g.i).length 3 1 (nums (featN f g.i))]) (fun g => 24 - g.i) (⟨0,none,0⟩) ?_ ?_ ?_ ?_
 ·exact Nat.zero_le _
 ·exact ⟨rfl,rfl,rfl,trivial⟩
 ·rfl
 rintro ⟨i,a,c⟩ hi
 dsimp only at hi
 show WC _ _ _ _ _ _ _ [(0,.int .u32 ((f >>> i : Nat) : Int)),(3,.slice a (featN f i).length c),(4,.int .i64 (i : Int))] [rowc (.slice a (featN f i).length c) (featN f i).length 3 1 (nums (featN f i))]
 refine jN 9 ?_
 refine WC.cond rfl (fun h6 => ?_) (fun h6 => ?_)
 ·have hlt : i < 24 := by simp at h6; omega
  have hfl := featN_len f i
  have hs32 : f >>> i < 4294967296 := Nat.lt_of_le_of_lt (by rw [Nat.shiftRight_eq_div_pow]; exact Nat.div_le_self _ _) hf
  refine jN 10 ?_
  refine WL.bin (v := .int .u32 ((f >>> i % 2 : Nat) : Int)) rfl rfl rfl (fun w => run_rem2 _ _ _ w) ?_
  refine jN 4 ?_
  refine WC.cond rfl (fun h11 => ?_) (fun h11 => ?_)
  ·have hbit : f.testBit i = true := by (have h9 : ((f >>> i % 2 : Nat) : Int) = 1 := by simpa using h11); rw [Nat.testBit_eq_decide_div_mod_eq,← Nat.shiftRight_eq_div_pow]; exact decide_eq_true (by omega)
   have hsucc := featN_succ f i
   rw [hbit,if_pos rfl] at hsucc
   refine jN 6 ?_
   refine WL.buildSlice F.sl41 F.ez41 rfl rfl rfl rfl jB rfl (fun b14 => ?_)
   refine jN 1 ?_
   refine WL.appendE (news := [.int .i64 (i : Int)]) F.el41 rfl rfl rfl jR (fun w hS jj u hu => by rw [Nat.zero_add]; exact hS.cell (cs := [.int .i64 (i : Int)]) jM hu) (by simp [nums]) jO (Nat.le_trans (m := 24) (by omega) (by decide)) (by omega) (fun a2 c2 => ?_)
   refine jN 8 ?_
   refine WL.bin (v := .int .u32 ((f >>> (i + 1) : Nat) : Int)) rfl rfl rfl (fun w => (run_quo2 hs32 _ _ _ w).trans (by rw [Nat.shiftRight_succ])) ?_
   refine jN 13 ?_
   refine WQ.chunks (C' := [rowc (.slice a2 ((featN f i).length + 1) c2) ((featN f i).length + 1) 3 1 (nums (featN f i) ++ [.int .i64 (i : Int)])]) (fun w hS => (jK hS)) ?_
   refine WQ.back ⟨i + 1,a2,c2⟩ (by show i + 1 ≤ 24; omega) (by show 24 - (i + 1) < 24 - i; omega) ?_ ?_
   ·simp only [hsucc,List.length_append,List.length_singleton]
    exact ⟨rfl,rfl,rfl,trivial⟩
   simp only [hsucc,List.length_append,List.length_singleton,nums,List.map_append,List.map_cons,List.map_nil]
  have hbit : f.testBit i = false := by (have h9 : ¬ ((f >>> i % 2 : Nat) : Int) = 1 := by simpa using h11); rw [Nat.testBit_eq_decide_div_mod_eq,← Nat.shiftRight_eq_div_pow]; exact decide_eq_false (by omega)
  have hsucc := featN_succ f i
  rw [hbit] at hsucc
  simp only [Bool.false_eq_true,if_false,List.append_nil] at hsucc
  refine jN 6 ?_
  refine WL.bin (v := .int .u32 ((f >>> (i + 1) : Nat) : Int)) rfl rfl rfl (fun w => (run_quo2 hs32 _ _ _ w).trans (by rw [Nat.shiftRight_succ])) ?_
  refine jN 13 ?_
  refine WQ.back ⟨i + 1,a,c⟩ (by show i + 1 ≤ 24; omega) (by show 24 - (i + 1) < 24 - i; omega) ?_ ?_
  ·simp only [hsucc]
   exact ⟨rfl,rfl,rfl,trivial⟩
  simp only [hsucc]
 have hie : i = 24 := by simp at h6; omega
 subst hie
 refine jN 14 ?_
 exact WQ.ret (rs := [.tmp 2]) rfl (.tmp rfl .nil) (fun w hS => ⟨(a,c),rfl,hS⟩)
end Go.Proofs.YtkgllhkhdjodeaaGreat
namespace Go.Eng
open Go Go.RowKit
mutual
def rdW (w : World) : Tree → List Nat → Value → Prop
 | .mk op name kids,F,v => ∃ s,v = .agg #[.int .u8 op,.string (str name),s] ∧
  ((kids = [] ∧ F = [] ∧ ∃ a cap,s = .slice a 0 cap) ∨
   (kids ≠ [] ∧ ∃ g cap G vs,s = .slice (some ⟨g,0,none⟩) kids.length cap ∧ F = g :: G ∧ w.ownsRow 0 24 3 (.slice (some ⟨g,0,none⟩) kids.length cap) kids.length (flat vs) ∧ rdWL w kids G vs))
def rdWL (w : World) : List Tree → List Nat → List Value → Prop
 | [],F,vs => F = [] ∧ vs = []
 | t :: ts,F,vs => ∃ F1 F2 v vs',F = F1 ++ F2 ∧ vs = v :: vs' ∧ rdW w t F1 v ∧ rdWL w ts F2 vs'
end
section
variable {w0 : World} {O : List Nat} {C : List Chunk}
end
open Go Go.RowKit
section
variable {P : Program} {w0 : World} {O : List Nat} {ops : Array Oper} {Q : Exit → Act → World → Prop} {N : Nat} {D : List Deferred} {L : FL} {C : List Chunk} {K : Act → World → Prop}
variable {ty : TypeId} {pos : String} {af : Array Edge}
theorem WL.storeRow1 {t : TypeId} {n sz cap : Nat} {x y : Operand} {g off : Nat} {xs xs' : List Value} {v : Value} {e : TypeId} {C' : List Chunk} (ht : One P t) (hx : ev L x = some (.pointer (some ⟨g,off,none⟩))) (hy : ev L y = some v) (hv : v.oneCell' = true)
  (hu : Upd (rowc (.slice (some ⟨g,0,none⟩) n cap) n e sz xs) (rowc (.slice (some ⟨g,0,none⟩) n cap) n e sz xs') C C') (hn : SetN xs off [v] xs') (h : WA w0 O K N D L C') :
  WK P w0 O ops Q ⟨none,.store t x y,ty,pos,af,none⟩ K N D L C := fun a w hF hS => by
 obtain ⟨hlen,hr⟩ := (show w.ownsRow 0 e sz (.slice (some ⟨g,0,none⟩) n cap) n xs from hS.ok _ hu.mem)
 rcases hr with ⟨h1,_⟩ | ⟨g',cap',cur,h1,_,hh,hnc,hcm,hcs,htk⟩
 ·cases h1
 ·injection h1 with h1 h2 h3
  injection h1 with h1
  injection h1 with h1
  subst h1; subst h3
  have hsplit : cur.toList = xs ++ cur.toList.drop (n * sz) := by rw [← htk,List.take_append_drop]
  have hn' : SetN cur.toList off [v] (xs' ++ cur.toList.drop (n * sz)) := by
   have := hn.append (cur.toList.drop (n * sz))
   rw [← hsplit] at this
   exact this
  have hh' : w.heap[g]? = some (.cells cur.toList.toArray e (0,0)) := by rw [Array.toArray_toList]; exact hh
  have hr := run_storeN (P := P) (t := t) (vs := [v]) ht.size (cells_one hv) (by simpa using hv) hh' hn'
  have hxl : xs'.length = xs.length := hn.len
  have hSt : St w0 O C' (w.setRow g (xs' ++ cur.toList.drop (n * sz)).toArray) := by
   refine hS.rowUpd (b := g) hu (fun k => ?_) (fun k => ?_) ?_
   ·constructor
    ·intro hk; exact (Option.some.inj hk).symm
    ·intro hk; rw [hk]; rfl
   ·constructor
    ·intro hk; exact (Option.some.inj hk).symm
    ·intro hk; rw [hk]; rfl
   ·refine ⟨by rw [hxl,hlen],.inr ⟨g,cap,(xs' ++ cur.toList.drop (n * sz)).toArray,rfl,Nat.zero_le _,setRow_heap w g _ _ e _ hh',hnc,hcm,?_,?_⟩⟩
    ·have := congrArg List.length hsplit
     simp at this ⊢
     omega
    ·have e2 : xs'.length = n * sz := by rw [hxl,hlen]
     show (xs' ++ cur.toList.drop (n * sz)).take (n * sz) = xs'
     rw [List.take_left' e2]
  exact wpo_skip rfl (by simp [execOp,hF.ev hx,hF.ev hy,hr]) (h _ _ hF hSt)
end
end Go.Eng
namespace Go.Proofs.YtkgllhkhdjodeaaGreat
open Go Go.Eng Go.Proofs Dg
end Go.Proofs.YtkgllhkhdjodeaaGreat
namespace Dg
def hasVar (v : Nat) : BT → Prop
 | .lf _ => False
 | .nd x l h => v = x ∨ hasVar v l ∨ hasVar v h
theorem sup_bit (j : Nat) : ∀ (l : List Dec) (s : Nat),(l.foldl (fun s x => s ||| 2 ^ x.1) s).testBit j = true ↔ s.testBit j = true ∨ ∃ x ∈ l,x.1 = j
 | [],s => by simp
 | x :: l,s => by
  rw [List.foldl_cons,sup_bit j l,Nat.testBit_or,Nat.testBit_two_pow]
  simp
  constructor
  ·rintro ((h | h) | h)
   ·exact .inl h
   ·exact .inr (.inl h)
   ·exact .inr (.inr h)
  ·rintro (h | h | h)
   ·exact .inl (.inl h)
   ·exact .inl (.inr h)
   ·exact .inr h
theorem visitT_var (t : BT) : ∀ (out : List Dec),∀ x ∈ (visitT t out).1,x ∈ out ∨ hasVar x.1 t := by
 induction t with
 | lf b => intro out x h; left; simpa [visitT] using h
 | nd v lo hi ihl ihh =>
  intro out x h
  unfold visitT at h
  cases hl : look out (.nd v lo hi) with
  | some p => rw [hl] at h; exact .inl h
  | none =>
   rw [hl] at h
   rcases List.mem_append.1 h with h | h
   ·rcases ihh _ x h with h | h
    ·rcases ihl _ x h with h | h
     ·exact .inl h
     ·exact .inr (.inr (.inl h))
    ·exact .inr (.inr (.inr h))
   ·rw [List.mem_singleton.1 h]; exact .inr (.inl rfl)
theorem trs_var {l : List Dec} (hm : Mk l) {v : Nat} : ∀ (t : BT) (p : Nat),p < l.length + 2 → trs l p = t → hasVar v t → ∃ x ∈ l,x.1 = v
 | .lf _,_,_,_,h => h.elim
 | .nd y lo hi,p,hp,he,h => by
  have h2 : 2 ≤ p := by
   rcases p with _ | _ | p
   ·rw [(trs_zero l).1] at he; cases he
   ·rw [(trs_zero l).2] at he; cases he
   ·omega
  obtain ⟨x,hx⟩ : ∃ x,l[p - 2]? = some x := ⟨_,List.getElem?_eq_getElem (by omega)⟩
  have ha := hm.at hx
  rw [show p - 2 + 2 = p by omega,he] at ha
  injection ha with h3 h4 h5
  have hk := hm.kid _ x hx
  have hxm := List.mem_of_getElem? hx
  rcases h with h | h | h
  ·exact ⟨x,hxm,by rw [h,h3]⟩
  ·exact trs_var hm lo x.2.1 (by have := (List.getElem?_eq_some_iff.1 hx).1; omega) h4.symm h
  ·exact trs_var hm hi x.2.2 (by have := (List.getElem?_eq_some_iff.1 hx).1; omega) h5.symm h
theorem sup_var {t : BT} (ho : t.ok 0) (v : Nat) : (supT (canon t).1).testBit v = true ↔ hasVar v t := by
 unfold supT
 rw [sup_bit]
 constructor
 ·rintro (h | ⟨x,hx,rfl⟩)
  ·simp at h
  rcases visitT_var t [] x hx with h | h
  ·cases h
  exact h
 intro h
 obtain ⟨x,hx,he⟩ := trs_var (canon_mk ho) t (canon t).2 (canon_at t).1 (canon_at t).2 h
 exact .inr ⟨x,hx,he⟩
theorem upd_comm (c : Cf) {x v : Nat} (a b : Bool) (h : x ≠ v) : upd (upd c v b) x a = upd (upd c x a) v b := by
 funext j
 unfold upd
 by_cases h1 : j = x
 ·subst h1; rw [if_pos rfl,if_neg h,if_pos rfl]
 rw [if_neg h1]
 by_cases h2 : j = v
 ·rw [if_pos h2,if_pos h2]
 rw [if_neg h2,if_neg h2,if_neg h1]
theorem not_var : ∀ {t : BT} {m v : Nat},t.ok m → (∀ c,t.ev (upd c v false) = t.ev (upd c v true)) → ¬ hasVar v t
 | .lf _,_,_,_,_ => fun h => h
 | .nd x l h,m,v,ho,hi => by
  have ho' := ho
  obtain ⟨h1,h2,h3,h4,h5⟩ := ho'
  have hl : ∀ c,l.ev c = (BT.nd x l h).ev (upd c x false) := fun c => (BT.ev_lo ho c).symm
  have hh : ∀ c,h.ev c = (BT.nd x l h).ev (upd c x true) := fun c => (BT.ev_hi ho c).symm
  rintro (rfl | hv | hv)
  ·exact h3 (BT.unique h4 h5 fun c => by rw [hl,hh]; exact hi c)
  ·by_cases hx : x = v
   ·subst hx
    exact h3 (BT.unique h4 h5 fun c => by rw [hl,hh]; exact hi c)
   ·exact not_var h4 (fun c => by rw [hl,hl,upd_comm c _ _ hx,upd_comm c _ _ hx]; exact hi _) hv
  ·by_cases hx : x = v
   ·subst hx
    exact h3 (BT.unique h4 h5 fun c => by rw [hl,hh]; exact hi c)
   ·exact not_var h5 (fun c => by rw [hh,hh,upd_comm c _ _ hx,upd_comm c _ _ hx]; exact hi _) hv
theorem no_var : ∀ {t : BT} {v : Nat},¬ hasVar v t → ∀ (c : Cf) (b : Bool),t.ev (upd c v b) = t.ev c
 | .lf _,_,_,_,_ => rfl
 | .nd x l h,v,hn,c,b => by
  have hx : x ≠ v := fun e => hn (.inl e.symm)
  simp only [BT.ev]
  rw [no_var (fun hv => hn (.inr (.inl hv))) c b,no_var (fun hv => hn (.inr (.inr hv))) c b,upd_ne c b hx]
theorem sup_dep {t : BT} (ho : t.ok 0) (v : Nat) : (supT (canon t).1).testBit v = true ↔ ∃ c,t.ev (upd c v false) ≠ t.ev (upd c v true) := by
 rw [sup_var ho]
 constructor
 ·intro h
  refine Classical.byContradiction fun hn => ?_
  exact not_var ho (fun c => Classical.byContradiction fun hc => hn ⟨c,hc⟩) h
 rintro ⟨c,hc⟩
 refine Classical.byContradiction fun hn => hc ?_
 rw [no_var hn,no_var hn]
theorem sup_fold {n : Nat} : ∀ (l : List Dec) (s : Nat),(∀ x ∈ l,x.1 < n) → s < 2 ^ n → l.foldl (fun s x => s ||| 2 ^ x.1) s < 2 ^ n
 | [],s,_,h => h
 | x :: l,s,hx,h => sup_fold l _ (fun y hy => hx y (List.mem_cons_of_mem _ hy)) (Nat.or_lt_two_pow h (Nat.pow_lt_pow_right (by decide) (hx x (List.mem_cons_self ..))))
theorem supT_take {l : List Dec} {k : Nat} {x : Dec} (h : l[k]? = some x) : supT (l.take (k + 1)) = supT (l.take k) ||| 2 ^ x.1 := by
 unfold supT
 rw [List.take_add_one,h]
 simp
end Dg
namespace Go.Proofs.YtkgllhkhdjodeaaGreat
open Go Go.Eng Go.Proofs Dg
theorem Support_c (t : BT) (a : Option Addr) (c : Nat) (w : World) (ht : RdD w t a) : Pure Tryz.prog 35 [dval t a c] w (.int .u32 (supT (canon t).1 : Int)) := by
 have hmk := canon_mk ht.1
 have hcl := canon_len ht.1
 refine enter Tryz.func35 rfl Tryz.ntmps35 rfl (St.init _) ?_
 refine jN 3 ?_
 refine WL.boxN rfl rfl (fun b1 => ?_)
 refine jN 24 ?_
 refine WC.chunks (C' := []) (fun w hS => hS.sublist (List.nil_sublist _)) ?_
 refine WC.loop (α := Nat) (fun i => i ≤ (canon t).1.length) (fun i => [(3,.int .u32 (supT ((canon t).1.take i) : Int)),(7,.slice a (canon t).1.length c),(8,.int .i64 ((canon t).1.length : Int)),(9,.int .i64 (i : Int))]) (fun _ => []) (fun i => (canon t).1.length - i) (0) ?_ ?_ ?_ ?_
 ·exact Nat.zero_le _
 ·exact ⟨rfl,rfl,rfl,rfl,trivial⟩
 ·rfl
 rintro i hi
 show WC _ _ _ _ _ _ _ [(3,.int .u32 (supT ((canon t).1.take i) : Int)),(7,.slice a (canon t).1.length c),(8,.int .i64 ((canon t).1.length : Int)),(9,.int .i64 (i : Int))] []
 refine jN 7 ?_
 refine WC.cond rfl (fun h10 => ?_) (fun h10 => ?_)
 ·have hlt : i < (canon t).1.length := by simpa using h10
  obtain ⟨x,hx⟩ : ∃ x,(canon t).1[i]? = some x := ⟨_,List.getElem?_eq_getElem hlt⟩
  have hkb := hmk.kid i x hx
  obtain ⟨bl,off,rfl,hcx⟩ := ht.2.at hx
  have hsl : supT ((canon t).1.take i) < 2 ^ 24 := sup_fold _ _ (fun y hy => (by obtain ⟨j,hj⟩ := List.getElem?_of_mem (List.mem_of_mem_take hy); exact (hmk.kid j y hj).1)) (by decide)
  have hx32 : 2 ^ x.1 < 4294967296 := pow32 (by omega)
  refine jN 7 ?_
  refine WL.indexAddr F.sl33 rfl rfl rfl hlt ?_
  refine jN 1 ?_
  refine WL.loadN F.agg104 rfl rfl (vs := [.int .i64 (x.1 : Int),.int .i64 (x.2.1 : Int),.int .i64 (x.2.2 : Int)]) rfl (fun w hS j v hv => hS.oldc (hcx j v hv) (by simp)) ?_
  refine jN 1 ?_
  refine WL.alloc F.zero104 rfl (fun b5 => ?_)
  refine jN 12 ?_
  refine WL.bin rfl rfl rfl (fun w => run_shl1 (by omega) _ _ _ w) ?_
  refine jN 1 ?_
  refine WL.bin rfl rfl rfl (fun w => run_or (by omega) hx32 _ _ _ w) ?_
  refine jN 11 ?_
  refine WQ.chunks (C' := []) (fun w hS => hS.sublist (List.nil_sublist _)) ?_
  refine WQ.back (i + 1) (by show i + 1 ≤ (canon t).1.length; omega) (by show (canon t).1.length - (i + 1) < (canon t).1.length - i; omega) ?_ rfl
  simp only [supT_take hx]
  exact ⟨rfl,rfl,rfl,rfl,trivial⟩
 have hie : i = (canon t).1.length := by simp at h10; omega
 subst hie
 rw [List.take_length]
 refine jN 14 ?_
 exact WQ.ret (rs := [.tmp 2]) rfl (.tmp rfl .nil) (fun w hS => ⟨rfl,hS⟩)
end Go.Proofs.YtkgllhkhdjodeaaGreat
namespace Fm
open Go Go.Eng
end Fm
namespace Fm
open Go Go.Eng
end Fm
namespace Go.Proofs.YtkgllhkhdjodeaaGreat
open Go Go.Eng Go.Proofs
open Go Go.Eng Go.Proofs Dg
def hb (how : Int) (x y : Bool) : Bool := if how = 0 then x && y else if how = 1 then x || y else x != y
section
variable {w0 : World} {O : List Nat} {C : List Chunk}
theorem St.dsJoin {w : World} {F G : List Nat} {l m : List DV} (h : St w0 O (dsC F l :: dsC G m :: C) w) : St w0 O (dsC (F ++ G) (l ++ m) :: C) w := by
 refine h.join (fun k hk => ?_) (fun hc hd _ => ?_)
 ·rcases List.mem_append.1 hk with hk | hk
  ·exact .inl hk
  exact .inr hk
 intro x hx
 rcases List.mem_append.1 hx with hx | hx
 ·exact ⟨(hc x hx).1,fun j u hu => by
   obtain ⟨b,off,e1,e2,e3⟩ := (hc x hx).2 j u hu
   exact ⟨b,off,e1,e2,List.mem_append_left _ e3⟩⟩
 exact ⟨(hd x hx).1,fun j u hu => by
  obtain ⟨b,off,e1,e2,e3⟩ := (hd x hx).2 j u hu
  exact ⟨b,off,e1,e2,List.mem_append_right _ e3⟩⟩
end
structure SV where
 v : List Nat
 a : Option Addr
 c : Nat
 bs : List Bool
 ta : Option Addr
 tc : Nat
abbrev SV.val (s : SV) : Value := sval s.v s.a s.c s.bs s.ta s.tc
open Go Go.Eng Go.Proofs Dg
end Go.Proofs.YtkgllhkhdjodeaaGreat
namespace Dg
open Go.Proofs.YtkgllhkhdjodeaaGreat
theorem feat_mem {f x : Nat} : x ∈ featL f ↔ x < 24 ∧ f.testBit x = true := by
 unfold featL
 rw [List.mem_filter,List.mem_range]
end Dg
namespace Go.Proofs.YtkgllhkhdjodeaaGreat
open Go Go.Eng Go.Proofs Dg
theorem or_lt32 {a b : Nat} (ha : a < 4294967296) (hb : b < 4294967296) : a ||| b < 4294967296 := Nat.or_lt_two_pow (n := 32) ha hb
def costOk (x : Int) : Bool := decide (-2147483648 ≤ x) && decide (x ≤ 2147483648)
def costsB (l : List Int) : Bool := l.all costOk && decide (l.length ≤ 24)
theorem costs_bad {l : List Int} {i : Nat} {x : Int} (h : l[i]? = some x) (hb : ¬ (-2147483648 ≤ x ∧ x ≤ 2147483648)) : costsB l = false := by
 have : l.all costOk = false := by
  rw [List.all_eq_false]
  refine ⟨x,List.mem_of_getElem? h,?_⟩
  unfold costOk
  rw [Bool.and_eq_true,decide_eq_true_eq,decide_eq_true_eq]
  exact hb
 unfold costsB
 rw [this,Bool.false_and]
theorem all_takeI {l : List Int} {i : Nat} {x : Int} (h : l[i]? = some x) (h0 : (l.take i).all costOk = true) (hx : -2147483648 ≤ x ∧ x ≤ 2147483648) : (l.take (i + 1)).all costOk = true := by
 rw [List.take_add_one,h,List.all_append,h0]
 simp [costOk,hx]
theorem lvalid_c (l : List Int) (a : Option Addr) (c : Nat) (hll : l.length ≤ 1099511627776) (w : World) (hr : RdC w l a) : Pure Tryz.prog 155 [.slice a l.length c] w (.bool (costsB l)) := by
 refine enter Tryz.func155 rfl Tryz.ntmps155 rfl (St.init _) ?_
 refine jN 17 ?_
 refine WC.cond rfl (fun h7 => ?_) (fun h7 => ?_)
 ·have h24 : ¬ l.length ≤ 24 := by simp at h7; omega
  refine jN 8 ?_
  exact WQ.ret (rs := [.tmp 2]) rfl (.tmp rfl .nil) (fun w hS => ⟨retB (by (unfold costsB; rw [decide_eq_false h24,Bool.and_false])),hS⟩)
 have h24 : l.length ≤ 24 := by simp at h7; omega
 refine jN 14 ?_
 refine WC.loop (α := Nat) (fun i => i ≤ l.length ∧ (l.take i).all costOk = true) (fun i => [(8,.slice a l.length c),(9,.int .i64 (l.length : Int)),(10,.int .i64 (i : Int))]) (fun _ => []) (fun i => l.length - i) (0) ?_ ?_ ?_ ?_
 ·exact ⟨Nat.zero_le _,rfl⟩
 ·exact ⟨rfl,rfl,rfl,trivial⟩
 ·rfl
 rintro i ⟨hi,hal⟩
 refine jN 7 ?_
 refine WC.cond rfl (fun h11 => ?_) (fun h11 => ?_)
 ·have hlt : i < l.length := by simpa using h11
  obtain ⟨x,hx⟩ : ∃ z,l[i]? = some z := ⟨_,List.getElem?_eq_getElem hlt⟩
  obtain ⟨b,off,ha,hcell⟩ := hr i x hx
  subst ha
  refine jN 7 ?_
  refine WL.indexAddr F.sl90 rfl rfl rfl hlt ?_
  refine jN 1 ?_
  refine WL.load1 F.one2 rfl rfl (v := .int .i64 x) (fun w hS => hS.oldc (by simpa using hcell) (by simp)) ?_
  refine jN 12 ?_
  refine WA.splitB (i := 16) rfl (fun g16 => ?_) (fun g16 => ?_)
  ·have hxb : ¬ (-2147483648 ≤ x ∧ x ≤ 2147483648) := by simp at g16; omega
   refine jN 21 ?_
   exact WQ.ret (rs := [.tmp 2]) rfl (.tmp rfl .nil) (fun w hS => ⟨retB ((costs_bad hx hxb).symm),hS⟩)
  refine jN 10 ?_
  refine WC.cond rfl (fun h19 => ?_) (fun h19 => ?_)
  ·have hxb : ¬ (-2147483648 ≤ x ∧ x ≤ 2147483648) := by simp at h19; omega
   refine jN 12 ?_
   exact WQ.ret (rs := [.tmp 2]) rfl (.tmp rfl .nil) (fun w hS => ⟨retB ((costs_bad hx hxb).symm),hS⟩)
  have hxb : -2147483648 ≤ x ∧ x ≤ 2147483648 := by simp at g16 h19; omega
  refine jN 9 ?_
  refine WQ.back (i + 1) ?_ ?_ ?_ ?_
  ·exact ⟨by omega,all_takeI hx hal hxb⟩
  ·omega
  ·exact ⟨rfl,rfl,rfl,trivial⟩
  rfl
 have hie : i = l.length := by simp at h11; omega
 subst hie
 rw [List.take_length] at hal
 refine jN 12 ?_
 exact WQ.ret (rs := [.tmp 2]) rfl (.tmp rfl .nil) (fun w hS => ⟨retB (by (unfold costsB; rw [hal,decide_eq_true h24]; rfl)),hS⟩)
def relB (rel : Nat) (s b : Int) : Bool := if rel = 1 then decide (s ≤ b) else if rel = 2 then decide (b ≤ s) else s == b
def tailN (C : List Int) (cf : Cf) : Nat → Int
 | 0 => 0
 | d + 1 => (if cf (23 - d) then C.getD (23 - d) 0 else 0) + tailN C cf d
abbrev SpanV := Int × Int × Nat
def ExtL (l l' : List Dec) : Prop := l.length ≤ l'.length ∧ ∀ q,q < l.length + 2 → trs l' q = trs l q
theorem ExtL.refl (l : List Dec) : ExtL l l := ⟨Nat.le_refl _,fun _ _ => rfl⟩
theorem ExtL.trans {l m n : List Dec} (h : ExtL l m) (h' : ExtL m n) : ExtL l n := ⟨Nat.le_trans h.1 h'.1,fun q hq => by rw [h'.2 q (by have := h.1; omega),h.2 q hq]⟩
theorem ExtL.made {l l' : List Dec} {p : Nat} {t : BT} (h : MadeN l l' p t) : ExtL l l' := ⟨h.len,fun q hq => h.old hq⟩
structure SpanOk (C : List Int) (rel : Nat) (b : Int) (l : List Dec) (d : Nat) (s : SpanV) : Prop where
 lo : -35184372088832 ≤ s.1 ∧ s.1 ≤ 35184372088832
 hi : -35184372088832 ≤ s.2.1 ∧ s.2.1 ≤ 35184372088832
 lt : s.2.2 < l.length + 2
 ok : (trs l s.2.2).ok (24 - d)
 ev : ∀ sum,s.1 ≤ sum → sum ≤ s.2.1 → ∀ cf,(trs l s.2.2).ev cf = relB rel (sum + tailN C cf d) b
section
variable {C : List Int} {rel : Nat} {b : Int}
theorem SpanOk.ext {l l' : List Dec} {d : Nat} {s : SpanV} (h : SpanOk C rel b l d s) (he : ExtL l l') : SpanOk C rel b l' d s :=
 ⟨h.lo,h.hi,Nat.lt_of_lt_of_le h.lt (by have := he.1; omega),by rw [he.2 _ h.lt]; exact h.ok,fun sum h1 h2 cf => by rw [he.2 _ h.lt]; exact h.ev sum h1 h2 cf⟩
theorem SpanOk.new {l l' : List Dec} {d p : Nat} {a c : SpanV} {x sum lo hi : Int} (ha : SpanOk C rel b l d a) (hc : SpanOk C rel b l d c) (hd : d < 24) (hx : C.getD (23 - d) 0 = x) (h1 : a.1 ≤ sum ∧ sum ≤ a.2.1) (h2 : c.1 ≤ sum + x ∧ sum + x ≤ c.2.1)
  (hm : MadeN l l' p (mkN (23 - d) (trs l a.2.2) (trs l c.2.2))) (hlo : lo = max a.1 (c.1 - x)) (hhi : hi = min a.2.1 (c.2.1 - x)) :
  SpanOk C rel b l' (d + 1) (lo,hi,p) ∧ lo ≤ sum ∧ sum ≤ hi := by
 have a1 := ha.lo
 have a2 := ha.hi
 have hl1 : lo ≤ sum := by rw [hlo]; exact Int.max_le.2 ⟨h1.1,by omega⟩
 have hl2 : sum ≤ hi := by rw [hhi]; exact Int.le_min.2 ⟨h1.2,by omega⟩
 have hl3 : a.1 ≤ lo := by rw [hlo]; exact Int.le_max_left _ _
 have hl4 : c.1 - x ≤ lo := by rw [hlo]; exact Int.le_max_right _ _
 have hl5 : hi ≤ a.2.1 := by rw [hhi]; exact Int.min_le_left _ _
 have hl6 : hi ≤ c.2.1 - x := by rw [hhi]; exact Int.min_le_right _ _
 have e : 24 - d = 23 - d + 1 := by omega
 refine ⟨⟨by show _ ≤ lo ∧ lo ≤ _; omega,by show _ ≤ hi ∧ hi ≤ _; omega,hm.lt,?_,fun s hs1 hs2 cf => ?_⟩,hl1,hl2⟩
 ·show (trs l' p).ok (24 - (d + 1))
  rw [hm.tree]
  have a5 := ha.ok
  have c5 := hc.ok
  rw [e] at a5 c5
  exact mkN_ok (by omega) (by omega) a5 c5
 show (trs l' p).ev cf = _
 have hs1 : lo ≤ s := hs1
 have hs2 : s ≤ hi := hs2
 rw [hm.tree,mkN_ev,ha.ev s (by omega) (by omega),hc.ev (s + x) (by omega) (by omega),tailN,hx]
 cases cf (23 - d)
 ·simp
 simp only [cond_true,if_true]
 rw [Int.add_assoc]
structure LinOk (C : List Int) (rel : Nat) (b : Int) (m : Nat) (l : List Dec) (KV : List (Value × List SpanV)) : Prop where
 mks : Mk l
 kl : KV.length = 24
 shape : ∀ x ∈ KV,∃ a c,x.1 = .slice a x.2.length c
 sp : ∀ i x,KV[i]? = some x → ∀ s ∈ x.2,SpanOk C rel b l (24 - i) s
 ll : l.length ≤ m
 km : ∀ x ∈ KV,x.2.length ≤ m
theorem LinOk.node {m p : Nat} {l l' : List Dec} {KV : List (Value × List SpanV)} {t : BT} (h : LinOk C rel b m l KV) (hm : MadeN l l' p t) (hl : l'.length ≤ l.length + 1) : LinOk C rel b (m + 1) l' KV :=
 ⟨hm.ismk,h.kl,h.shape,fun i x hx s hs => (h.sp i x hx s hs).ext (ExtL.made hm),by have := h.ll; omega,fun x hx => Nat.le_succ_of_le (h.km x hx)⟩
theorem LinOk.mono {m m' : Nat} {l : List Dec} {KV : List (Value × List SpanV)} (h : LinOk C rel b m l KV) (hm : m ≤ m') : LinOk C rel b m' l KV :=
 ⟨h.mks,h.kl,h.shape,h.sp,Nat.le_trans h.ll hm,fun x hx => Nat.le_trans (h.km x hx) hm⟩
theorem LinOk.snoc {m d : Nat} {l : List Dec} {KV : List (Value × List SpanV)} (h : LinOk C rel b (m + 1) l KV) {v v2 : Value} {ks : List SpanV} {s : SpanV} (hd : d < 24) (hx : KV[23 - d]? = some (v,ks)) (hk : ks.length ≤ m) (hs : SpanOk C rel b l (d + 1) s) (hv : ∃ a c,v2 = .slice a (ks.length + 1) c) :
  LinOk C rel b (m + 1) l (KV.set (23 - d) (v2,ks ++ [s])) := by
 have hkl := h.kl
 refine ⟨h.mks,by rw [List.length_set]; exact h.kl,fun x hx2 => ?_,fun i x hx2 t ht => ?_,h.ll,fun x hx2 => ?_⟩
 ·rcases List.mem_or_eq_of_mem_set hx2 with hx2 | rfl
  ·exact h.shape x hx2
  rw [List.length_append]; exact hv
 ·rw [List.getElem?_set] at hx2
  by_cases e : 23 - d = i
  ·rw [if_pos e,if_pos (by omega)] at hx2
   cases hx2
   subst e
   rw [show 24 - (23 - d) = d + 1 by omega]
   rcases List.mem_append.1 ht with ht | ht
   ·have := h.sp _ _ hx t ht
    rw [show 24 - (23 - d) = d + 1 by omega] at this
    exact this
   rw [List.mem_singleton.1 ht]; exact hs
  rw [if_neg e] at hx2
  exact h.sp i x hx2 t ht
 rcases List.mem_or_eq_of_mem_set hx2 with hx2 | rfl
 ·exact h.km x hx2
 show (ks ++ [s]).length ≤ _
 rw [List.length_append,List.length_singleton]; omega
end
def endL (rel : Nat) (b : Int) : List SpanV := [(-35184372088832,b - 1,if rel = 1 then 1 else 0),(b,b,1),(b + 1,35184372088832,if rel = 2 then 1 else 0)]
theorem endL_ok {C : List Int} {rel : Nat} {b : Int} (hrel : 1 ≤ rel ∧ rel ≤ 3) (hb : -17592186044416 ≤ b ∧ b ≤ 17592186044416) {l : List Dec} : ∀ s ∈ endL rel b,SpanOk C rel b l 0 s := by
 have h0 : trs l 0 = .lf false := (trs_zero l).1
 have h1 : trs l 1 = .lf true := (trs_zero l).2
 have hr : rel = 1 ∨ rel = 2 ∨ rel = 3 := by omega
 intro s hs
 simp only [endL,List.mem_cons,List.not_mem_nil,or_false] at hs
 rcases hs with rfl | rfl | rfl
 ·refine ⟨by show (-35184372088832 : Int) ≤ -35184372088832 ∧ (-35184372088832 : Int) ≤ 35184372088832; omega,by show _ ≤ b - 1 ∧ b - 1 ≤ _; omega,?_,?_,fun sum e1 e2 cf => ?_⟩
  ·rcases hr with rfl | rfl | rfl <;> simp
  ·rcases hr with rfl | rfl | rfl <;> simp [h0,h1,BT.ok]
  have e2 : sum ≤ b - 1 := e2
  rcases hr with rfl | rfl | rfl <;> simp [h0,h1,BT.ev,relB,tailN] <;> omega
 ·refine ⟨by show _ ≤ b ∧ b ≤ _; omega,by show _ ≤ b ∧ b ≤ _; omega,?_,?_,fun sum e1 e2 cf => ?_⟩
  ·show 1 < _; omega
  ·show (trs l 1).ok _; rw [h1]; simp [BT.ok]
  have e1 : b ≤ sum := e1
  have e2 : sum ≤ b := e2
  show (trs l 1).ev cf = _
  rw [h1]
  rcases hr with rfl | rfl | rfl <;> simp [BT.ev,relB,tailN] <;> omega
 refine ⟨by show _ ≤ b + 1 ∧ b + 1 ≤ _; omega,by show (-35184372088832 : Int) ≤ 35184372088832 ∧ (35184372088832 : Int) ≤ 35184372088832; omega,?_,?_,fun sum e1 e2 cf => ?_⟩
 ·rcases hr with rfl | rfl | rfl <;> simp
 ·rcases hr with rfl | rfl | rfl <;> simp [h0,h1,BT.ok]
 have e1 : b + 1 ≤ sum := e1
 rcases hr with rfl | rfl | rfl <;> simp [h0,h1,BT.ev,relB,tailN] <;> omega
theorem endL_hit {rel : Nat} {b sum : Int} (h : -35184372088832 ≤ sum ∧ sum ≤ 35184372088832) : ∃ s ∈ endL rel b,s.1 ≤ sum ∧ sum ≤ s.2.1 := by
 simp only [endL,List.mem_cons,List.not_mem_nil,or_false,exists_eq_or_imp,exists_eq_left]
 omega
def clampB (b : Int) : Int := min (max b (-17592186044416)) 17592186044416
theorem clampB_bd (b : Int) : -17592186044416 ≤ clampB b ∧ clampB b ≤ 17592186044416 := by
 unfold clampB
 omega
theorem relB_clamp {rel : Nat} (hrel : 1 ≤ rel ∧ rel ≤ 3) {s : Int} (hs : -17592186044416 < s ∧ s < 17592186044416) (b : Int) : relB rel s (clampB b) = relB rel s b := by
 have hr : rel = 1 ∨ rel = 2 ∨ rel = 3 := by omega
 unfold clampB
 rcases hr with rfl | rfl | rfl <;> (simp only [relB]; simp; (try rw [Bool.eq_iff_iff]); (try simp); (try omega))
theorem costOk_bd {C : List Int} (h : C.all costOk = true) (j : Nat) : -2147483648 ≤ C.getD j 0 ∧ C.getD j 0 ≤ 2147483648 := by
 rw [List.getD_eq_getElem?_getD]
 cases hq : C[j]? with
 | none => simp
 | some y =>
  have := (List.all_eq_true.1 h) y (List.mem_of_getElem? hq)
  unfold costOk at this
  rw [Bool.and_eq_true,decide_eq_true_eq,decide_eq_true_eq] at this
  simpa using this
theorem tailN_bd {C : List Int} (h : C.all costOk = true) (cf : Cf) : ∀ d : Nat,-(2147483648 * (d : Int)) ≤ tailN C cf d ∧ tailN C cf d ≤ 2147483648 * (d : Int)
 | 0 => by simp [tailN]
 | d + 1 => by
  have ih := tailN_bd h cf d
  have hx := costOk_bd h (23 - d)
  unfold tailN
  split <;> omega
open Go Go.Eng Go.Proofs Dg
structure OpV where
 doo : Nat
 rel : Nat
 a : Nat
 b : Nat
 c : Nat
 i : Int
 j : Int
 on : Bool
 f : Nat
 g : Nat
 l : List Int
 la : Option Addr
 lc : Nat
 bound : Int
def evAt (s : List (Cf → Bool)) (k : Nat) : Cf → Bool := s.getD (k % s.length) (fun _ => false)
def linD (x : OpV) : Cf → Bool := fun cf => costsB x.l && (decide (1 ≤ x.rel ∧ x.rel ≤ 3) && relB x.rel (tailN x.l cf 24) x.bound)
def opD (x : OpV) (s : List (Cf → Bool)) (cf : Cf) : Bool :=
 if x.doo = 1 then true
 else if x.doo = 2 then decide (0 ≤ x.i ∧ x.i < 24) && cf x.i.toNat
 else if x.doo = 3 then cubeB x.f x.g 0 cf
 else if x.doo = 4 then !evAt s x.a cf
 else if x.doo = 5 then evAt s x.a cf && evAt s x.b cf
 else if x.doo = 6 then evAt s x.a cf || evAt s x.b cf
 else if x.doo = 7 then evAt s x.a cf ^^ evAt s x.b cf
 else if x.doo = 8 then (evAt s x.a cf && evAt s x.b cf) || (!evAt s x.a cf && evAt s x.c cf)
 else if x.doo = 9 then evAt s x.a (updI cf x.i x.on)
 else if x.doo = 10 then eachF (fun p q => p || q) (featL x.f) (evAt s x.a) cf
 else if x.doo = 11 then eachF (fun p q => p && q) (featL x.f) (evAt s x.a) cf
 else if x.doo = 12 then inB x.i x.j (selN x.f cf 24)
 else if x.doo = 13 then linD x cf
 else if x.doo = 14 then s.all (fun e => e cf)
 else if x.doo = 15 then s.any (fun e => e cf)
 else false
def dep (f : Nat) (ev : Cf → Bool) : Prop := ∀ c c' : Cf,(∀ k,f.testBit k = true → c k = c' k) → ev c = ev c'
structure OpIn (x : OpV) (f : Nat) : Prop where
 h2 : x.doo = 2 → 0 ≤ x.i → x.i < 24 → f.testBit x.i.toNat = true
 h3 : x.doo = 3 → ∀ k,k < 24 → (x.f.testBit k = true ∨ x.g.testBit k = true) → f.testBit k = true
 h12 : x.doo = 12 → ∀ k,k < 24 → x.f.testBit k = true → f.testBit k = true
 h13 : x.doo = 13 → ∀ k,k < 24 → x.l.getD k 0 ≠ 0 → f.testBit k = true
theorem OpIn.mono {x : OpV} {f f' : Nat} (h : OpIn x f) (hf : ∀ k,f.testBit k = true → f'.testBit k = true) : OpIn x f' :=
 ⟨fun a b c => hf _ (h.h2 a b c),fun a k b c => hf _ (h.h3 a k b c),fun a k b c => hf _ (h.h12 a k b c),fun a k b c => hf _ (h.h13 a k b c)⟩
theorem dep_const (f : Nat) (b : Bool) : dep f (fun _ => b) := fun _ _ _ => rfl
theorem dep_at {f : Nat} {s : List (Cf → Bool)} (h : ∀ e ∈ s,dep f e) (k : Nat) : dep f (evAt s k) := by
 unfold evAt
 rw [List.getD_eq_getElem?_getD]
 cases hq : s[k % s.length]? with
 | none => exact dep_const f false
 | some e => exact h e (List.mem_of_getElem? hq)
theorem dep_upd {f : Nat} {e : Cf → Bool} (h : dep f e) (i : Int) (b : Bool) : dep f (fun c => e (updI c i b)) := fun c c' hc => h _ _ fun k hk => by
 unfold updI
 split
 ·rfl
 ·exact hc k hk
theorem dep_each {f : Nat} {jop : Bool → Bool → Bool} : ∀ (fs : List Nat) (e : Cf → Bool),dep f e → dep f (eachF jop fs e)
 | [],e,h => h
 | i :: fs,e,h => dep_each fs _ fun c c' hc => by
  show jop _ _ = jop _ _
  have h1 : e (updI c (i : Int) false) = e (updI c' (i : Int) false) := dep_upd h (i : Int) false c c' hc
  have h2 : e (updI c (i : Int) true) = e (updI c' (i : Int) true) := dep_upd h (i : Int) true c c' hc
  rw [h1,h2]
theorem selN_dep {F f : Nat} (h : ∀ k,k < 24 → F.testBit k = true → f.testBit k = true) {c c' : Cf} (hc : ∀ k,f.testBit k = true → c k = c' k) : ∀ d : Nat,selN F c d = selN F c' d
 | 0 => rfl
 | d + 1 => by
  rw [selN,selN,selN_dep h hc d]
  congr 1
  cases hb : F.testBit (23 - d) with
  | false => rfl
  | true => rw [hc _ (h _ (by omega) hb)]
theorem tailN_dep {C : List Int} {f : Nat} (h : ∀ k,k < 24 → C.getD k 0 ≠ 0 → f.testBit k = true) {c c' : Cf} (hc : ∀ k,f.testBit k = true → c k = c' k) : ∀ d : Nat,tailN C c d = tailN C c' d
 | 0 => rfl
 | d + 1 => by
  rw [tailN,tailN,tailN_dep h hc d]
  by_cases h0 : C.getD (23 - d) 0 = 0
  ·rw [h0]; simp
  ·rw [hc _ (h _ (by omega) h0)]
theorem cubeB_dep {on off f : Nat} (h : ∀ k,k < 24 → (on.testBit k = true ∨ off.testBit k = true) → f.testBit k = true) : dep f (cubeB on off 0) := fun c c' hc => by
 unfold cubeB
 rw [Bool.eq_iff_iff,List.all_eq_true,List.all_eq_true]
 have key : ∀ j,j < 24 → (((!on.testBit j || c j) && (!off.testBit j || !c j)) = ((!on.testBit j || c' j) && (!off.testBit j || !c' j))) := fun j hj => by
  cases h1 : on.testBit j with
  | true => rw [hc j (h j hj (.inl h1))]
  | false =>
   cases h2 : off.testBit j with
   | true => rw [hc j (h j hj (.inr h2))]
   | false => rfl
 constructor
 ·intro ha j hj
  rw [← key j (List.mem_range.1 hj)]; exact ha j hj
 ·intro ha j hj
  rw [key j (List.mem_range.1 hj)]; exact ha j hj
theorem dep_op {x : OpV} {f : Nat} {s : List (Cf → Bool)} (hx : OpIn x f) (h : ∀ e ∈ s,dep f e) : dep f (opD x s) := by
 intro c c' hc
 unfold opD
 have ha := dep_at h x.a c c' hc
 have hb := dep_at h x.b c c' hc
 have hcc := dep_at h x.c c c' hc
 by_cases e1 : x.doo = 1
 ·simp only [e1,if_true]
 by_cases e2 : x.doo = 2
 ·simp only [e2]
  simp only [if_true,Nat.reduceEqDiff,if_false]
  by_cases hr : 0 ≤ x.i ∧ x.i < 24
  ·rw [hc _ (hx.h2 e2 hr.1 hr.2)]
  rw [decide_eq_false hr]; rfl
 by_cases e3 : x.doo = 3
 ·simp only [e3]
  simp only [if_true,Nat.reduceEqDiff,if_false]
  exact cubeB_dep (hx.h3 e3) c c' hc
 simp only [e1,e2,e3,if_false]
 by_cases e10 : x.doo = 10
 ·simp only [e10]
  simp only [if_true,Nat.reduceEqDiff,if_false]
  exact dep_each _ _ (dep_at h x.a) c c' hc
 by_cases e11 : x.doo = 11
 ·simp only [e11]
  simp only [if_true,Nat.reduceEqDiff,if_false]
  exact dep_each _ _ (dep_at h x.a) c c' hc
 by_cases e12 : x.doo = 12
 ·simp only [e12]
  simp only [if_true,Nat.reduceEqDiff,if_false]
  rw [selN_dep (hx.h12 e12) hc]
 by_cases e13 : x.doo = 13
 ·simp only [e13]
  simp only [if_true,Nat.reduceEqDiff,if_false]
  unfold linD
  rw [tailN_dep (hx.h13 e13) hc]
 simp only [e10,e11,e12,e13,if_false]
 have hall : s.all (fun e => e c) = s.all (fun e => e c') := by
  rw [Bool.eq_iff_iff,List.all_eq_true,List.all_eq_true]
  exact ⟨fun g e he => by rw [← h e he c c' hc]; exact g e he,fun g e he => by rw [h e he c c' hc]; exact g e he⟩
 have hany : s.any (fun e => e c) = s.any (fun e => e c') := by
  rw [Bool.eq_iff_iff,List.any_eq_true,List.any_eq_true]
  exact ⟨fun ⟨e,he,g⟩ => ⟨e,he,by rw [← h e he c c' hc]; exact g⟩,fun ⟨e,he,g⟩ => ⟨e,he,by rw [h e he c c' hc]; exact g⟩⟩
 have hu : evAt s x.a (updI c x.i x.on) = evAt s x.a (updI c' x.i x.on) := dep_upd (dep_at h x.a) x.i x.on c c' hc
 rw [ha,hb,hcc,hall,hany,hu]
def mkD (l : List OpV) : List (Cf → Bool) := l.foldl (fun s x => s ++ [opD x s]) [fun _ => false]
theorem mkD_take {l : List OpV} {k : Nat} {x : OpV} (h : l[k]? = some x) : mkD (l.take (k + 1)) = mkD (l.take k) ++ [opD x (mkD (l.take k))] := by
 unfold mkD
 rw [List.take_add_one,h,List.foldl_append]
 rfl
theorem mkD_dep {f : Nat} : ∀ (l : List OpV) (s : List (Cf → Bool)),(∀ x ∈ l,OpIn x f) → (∀ e ∈ s,dep f e) → ∀ e ∈ l.foldl (fun s x => s ++ [opD x s]) s,dep f e
 | [],s,_,h => h
 | x :: l,s,hl,h => mkD_dep l _ (fun y hy => hl y (List.mem_cons_of_mem _ hy)) fun e he => by
  rcases List.mem_append.1 he with he | he
  ·exact h e he
  ·rw [List.mem_singleton.1 he]
   exact dep_op (hl x (List.mem_cons_self ..)) h
theorem sup_in {t : BT} {f : Nat} (ho : t.ok 0) (h : dep f t.ev) {v : Nat} (hv : (supT (canon t).1).testBit v = true) : f.testBit v = true := by
 obtain ⟨c,hc⟩ := (sup_dep ho v).1 hv
 cases hf : f.testBit v with
 | true => rfl
 | false =>
  exfalso
  refine hc (h _ _ fun k hk => ?_)
  have hne : k ≠ v := fun e => by rw [e,hf] at hk; cases hk
  simp [upd,hne]
theorem each_skip {jop : Bool → Bool → Bool} (hj : ∀ b,jop b b = b) (p : Nat → Bool) : ∀ (fs : List Nat) (e : Cf → Bool),(∀ i ∈ fs,p i = false → ∀ c b,e (updI c (i : Int) b) = e c) → eachF jop (fs.filter p) e = eachF jop fs e
 | [],e,_ => rfl
 | i :: fs,e,h => by
  cases hp : p i with
  | true =>
   rw [List.filter_cons,hp,if_pos rfl]
   refine each_skip hj p fs _ fun k hk hpk c b => ?_
   have hki : ((k : Nat) : Int) ≠ (i : Int) := fun e2 => by
    have : k = i := by omega
    rw [this,hp] at hpk; cases hpk
   have hc : ∀ b2,updI (updI c (k : Int) b) (i : Int) b2 = updI (updI c (i : Int) b2) (k : Int) b := fun b2 => by
    funext j
    unfold updI
    by_cases h1 : (j : Int) = (i : Int)
    ·rw [if_pos h1,if_neg (by rw [h1]; exact fun e3 => hki e3.symm),if_pos h1]
    ·rw [if_neg h1,if_neg h1]
   show jop _ _ = jop _ _
   rw [hc,hc,h k (List.mem_cons_of_mem _ hk) hpk,h k (List.mem_cons_of_mem _ hk) hpk]
  | false =>
   rw [List.filter_cons,hp,if_neg (by simp)]
   have : (fun cf => jop (e (updI cf (i : Int) false)) (e (updI cf (i : Int) true))) = e := by
    funext cf
    rw [h i (List.mem_cons_self ..) hp,h i (List.mem_cons_self ..) hp,hj]
   show _ = eachF jop fs (fun cf => jop (e (updI cf (i : Int) false)) (e (updI cf (i : Int) true)))
   rw [this]
   exact each_skip hj p fs e fun k hk => h k (List.mem_cons_of_mem _ hk)
theorem each_sup {jop : Bool → Bool → Bool} (hj : ∀ b,jop b b = b) {t : BT} (ho : t.ok 0) (M : Nat) : eachF jop (featL (M &&& supT (canon t).1)) t.ev = eachF jop (featL M) t.ev := by
 have e : featL (M &&& supT (canon t).1) = (featL M).filter (fun i => (supT (canon t).1).testBit i) := by
  unfold featL
  rw [List.filter_filter]
  congr 1
  funext i
  rw [Nat.testBit_and,Bool.and_comm]
 rw [e]
 refine each_skip hj _ _ _ fun i _ hi c b => ?_
 have hn : ¬ ∃ c,t.ev (upd c i false) ≠ t.ev (upd c i true) := fun h => by rw [(sup_dep ho i).2 h] at hi; cases hi
 have he : t.ev (upd c i false) = t.ev (upd c i true) := Classical.byContradiction fun h => hn ⟨c,h⟩
 have hu : ∀ b,updI c (i : Int) b = upd c i b := fun b => by
  funext k
  unfold updI upd
  by_cases h1 : k = i
  ·rw [if_pos h1,if_pos (by omega)]
  ·rw [if_neg h1,if_neg (by omega)]
 have hc : upd c i (c i) = c := by
  funext k
  unfold upd
  by_cases h1 : k = i
  ·rw [if_pos h1,h1]
  ·rw [if_neg h1]
 rw [hu]
 cases hb : c i <;> rw [hb] at hc <;> cases b <;> first | rw [hc] | rw [he,hc] | rw [← he,hc]
theorem members_c (f : Nat) (w : World) :
  Calls Tryz.prog 173 [.int .u32 (f : Int)].toArray w fun e w' => ∃ b : Nat,e = .returned (.func (.func 180) [].toArray [pp b].toArray) ∧ St w [] [pt b [.int .u32 (f : Int)] 26] w' := by
 refine enter Tryz.func173 rfl Tryz.ntmps173 rfl (St.init _) ?_
 refine jN 3 ?_
 refine WL.box1 rfl rfl rfl (fun b1 => ?_)
 refine jN 13 ?_
 exact WQ.ret (rs := [.tmp 2]) rfl (.tmp rfl .nil) (fun w hS => ⟨_,rfl,hS⟩)
theorem bit_odd (f i : Nat) : ((f >>> i) &&& 1 = 1) ↔ f.testBit i = true := by
 rw [Nat.and_one_is_mod,Nat.testBit_eq_decide_div_mod_eq,Nat.shiftRight_eq_div_pow,decide_eq_true_eq]
theorem members1_c {σ : Type} (ch : σ → Chunk) (Fs : σ → List Nat) (hch : ∀ y,FpIs (ch y) (Fs y)) (I : Nat → σ → Prop) (l b f : Nat) (hf : f < 4294967296) (y0 : σ) (hI0 : I 0 y0) (w : World)
  (hb : w.cell? ⟨b,0,none⟩ = some (.int .u32 (f : Int))) (hbF : b ∉ Fs y0)
  (hround : ∀ k y w1,k < (featL f).length → I k y → St w (Fs y0) [ch y] w1 → YieldAt Fence.wide 0 Tryz.prog l ((fun k : Nat => [Value.int .i64 ((featL f).getD k 0 : Int)]) k).toArray w1 fun e w' => e = .returned (.bool true) ∧ ∃ y',I (k + 1) y' ∧ St w1 (Fs y) [ch y'] w') (hS0 : St w (Fs y0) [ch y0] w) :
  Calls Tryz.prog 180 [Value.func (.yield l) #[] #[],pp b].toArray w fun e w' => ∃ y,(∃ v,e = .returned v) ∧ I (featL f).length y ∧ St w (Fs y0) [ch y] w' := by
 refine enter Tryz.func180 rfl Tryz.ntmps180 rfl hS0 ?_
 refine jN 7 ?_
 refine WC.chunks (C' := [ch y0]) (fun w hS => hS) ?_
 refine WC.loop (α := Nat × σ) (fun g => g.1 ≤ 24 ∧ I (featU f g.1).length g.2) (fun g => [(0,Value.func (.yield l) #[] #[]),(1,pp b),(4,.int .i64 (g.1 : Int))]) (fun g => [ch g.2]) (fun g => 24 - g.1) ((0,y0)) ?_ ?_ ?_ ?_
 ·exact ⟨Nat.zero_le _,hI0⟩
 ·exact ⟨rfl,rfl,rfl,trivial⟩
 ·rfl
 rintro ⟨i,y⟩ ⟨hi,hI⟩
 dsimp only at hi hI
 show WC _ _ _ _ _ _ _ [(0,Value.func (.yield l) #[] #[]),(1,pp b),(4,.int .i64 (i : Int))] [ch y]
 have hsc := featU_succ f i
 refine jN 7 ?_
 refine WC.cond rfl (fun h5 => ?_) (fun h5 => ?_)
 ·have hlt : i < 24 := by simp at h5; omega
  have hs32 : f >>> i < 4294967296 := Nat.lt_of_le_of_lt (by rw [Nat.shiftRight_eq_div_pow]; exact Nat.div_le_self _ _) hf
  refine jN 13 ?_
  refine WC.regionIn ?_
  refine WIL.step (fun ⟨_,_,_,⟨_,h⟩,_⟩ => by cases h) rfl ?_
  refine WL.load1 F.one26 rfl rfl (v := .int .u32 (f : Int)) (fun w hS => hS.oldc hb hbF) ?_
  refine WIL.step (fun ⟨_,_,_,⟨_,h⟩,_⟩ => by cases h) rfl ?_
  refine WL.move rfl rfl ?_
  refine WIL.step (fun ⟨_,_,_,⟨_,h⟩,_⟩ => by cases h) rfl ?_
  refine WL.bin rfl rfl rfl (fun w => run_shr (a := f) (k := i) (by omega) _ _ _ w) ?_
  refine WIL.step (fun ⟨_,_,_,⟨_,h⟩,_⟩ => by cases h) rfl ?_
  refine WL.bin rfl rfl rfl (fun w => run_and (b := 1) hs32 (by decide) _ _ _ w) ?_
  refine WIL.step (fun ⟨_,_,_,⟨_,h⟩,_⟩ => by cases h) rfl ?_
  refine WL.eqI rfl rfl rfl ?_
  refine WIL.step (fun ⟨_,_,_,⟨_,h⟩,_⟩ => by cases h) rfl ?_
  refine WL.move rfl rfl ?_
  refine WA.splitB (i := 12) rfl (fun g12 => ?_) (fun g12 => ?_)
  ·have hb9 : (f >>> i) &&& 1 = 1 := by (simp at g12; rw [Nat.and_one_is_mod]; exact_mod_cast g12)
   have hbit : f.testBit i = true := (bit_odd f i).1 hb9
   rw [hbit,if_pos rfl] at hsc
   have hlen : (featU f (i + 1)).length = (featU f i).length + 1 := by rw [hsc]; simp
   have hlf := featU_lt hlt hbit
   have hgd : (featL f).getD (featU f i).length 0 = i := by rw [List.getD_eq_getElem?_getD,feat_at hlt hbit]; rfl
   refine WIL.guardT rfl rfl rfl ?_
   refine WIL.step (fun ⟨_,_,_,⟨_,h⟩,_⟩ => by cases h) rfl ?_
   refine WL.move rfl rfl ?_
   refine WIL.guardT rfl rfl rfl ?_
   refine WIL.step (fun ⟨_,_,_,⟨_,h⟩,_⟩ => by cases h) rfl ?_
   refine WL.move rfl rfl ?_
   refine WIL.guardT rfl rfl rfl ?_
   refine WIL.yield (β := σ) (b := true) (vs := [.int .i64 (i : Int)]) (cs := fun z => [ch z]) (Cs := [ch y]) (C1 := []) (O' := Fs y) (φ := I ((featU f i).length + 1)) (by rfl) rfl rfl (List.Perm.refl _) (fun c hc j hj => (by rw [List.mem_singleton.1 hc] at hj; exact (hch y j).1 hj)) (fun j hj => ⟨_,List.mem_singleton.2 rfl,(hch y j).2 hj⟩) (fun w hS hS2 => ?_) (fun y2 hI2 => ?_)
   ·have h9 := hround _ y w hlf hI hS
    dsimp only at h9
    rw [hgd] at h9
    exact h9
   refine WIL.guardT rfl rfl rfl ?_
   refine WIL.step (fun ⟨_,_,_,⟨_,h⟩,_⟩ => by cases h) rfl ?_
   refine WL.not rfl rfl ?_
   refine WIL.step (fun ⟨_,_,_,⟨_,h⟩,_⟩ => by cases h) rfl ?_
   refine WL.pickT rfl rfl rfl ?_
   refine WIL.nil ?_
   refine jN 11 ?_
   refine WQ.back (i + 1,y2) ⟨by show i + 1 ≤ 24; omega,by show I (featU f (i + 1)).length y2; rw [hlen]; exact hI2⟩ (by show 24 - (i + 1) < 24 - i; omega) ?_ rfl
   exact ⟨rfl,rfl,rfl,trivial⟩
  have hbit : f.testBit i = false := by (cases hz : f.testBit i with | false => rfl | true => (exfalso; have h9 := (bit_odd f i).2 hz; rw [h9] at g12; simp at g12))
  rw [hbit] at hsc
  have hlen : (featU f (i + 1)).length = (featU f i).length := by rw [hsc]; simp
  refine WIL.step (fun ⟨_,_,_,⟨_,h⟩,_⟩ => by cases h) rfl (WL.guardF rfl rfl rfl rfl rfl rfl ?_)
  refine WIL.step (fun ⟨_,_,_,⟨_,h⟩,_⟩ => by cases h) rfl (WL.guardF rfl rfl rfl rfl rfl rfl ?_)
  refine WIL.step (fun ⟨_,_,_,⟨_,h⟩,_⟩ => by cases h) rfl (WL.guardF rfl rfl rfl rfl rfl rfl ?_)
  refine WIL.step (fun ⟨_,_,_,⟨_,h⟩,_⟩ => by cases h) rfl (WL.guardF rfl rfl rfl rfl rfl rfl ?_)
  refine WIL.step (fun ⟨_,_,_,⟨_,h⟩,_⟩ => by cases h) rfl ?_
  refine WL.pickF rfl rfl rfl ?_
  refine WIL.nil ?_
  refine jN 11 ?_
  refine WQ.back (i + 1,y) ⟨by show i + 1 ≤ 24; omega,by show I (featU f (i + 1)).length y; rw [hlen]; exact hI⟩ (by show 24 - (i + 1) < 24 - i; omega) ?_ rfl
  exact ⟨rfl,rfl,rfl,trivial⟩
 have hie : i = 24 := by simp at h5; omega
 subst hie
 rw [featU_all] at hI
 refine jN 4 ?_
 refine WQ.fin (rs := []) rfl .nil (fun w hS => ⟨y,⟨_,rfl⟩,hI,hS⟩)
theorem St.off {w0 w : World} {O : List Nat} {Cs C1 : List Chunk} {G : List Nat} (h : St w0 O (Cs ++ C1) w) (hG : FpL Cs G) {c : Chunk} (hc : c ∈ C1) {k : Nat} (hk : c.fp k) : k ∉ G := fun hk' => by
 obtain ⟨d,hd,hdk⟩ := hG.two k hk'
 exact (List.pairwise_append.1 h.disj).2.2 d hd c hc k hdk hk
theorem St.off0 {w0 w : World} {Cs C1 : List Chunk} {G : List Nat} {l : Nat} (h : St w0 [] (Cs ++ C1) w) (hG : FpL Cs G) (hl : w0.heap.size ≤ l) {k : Nat} (hk : k < w0.heap.size) : k ∉ l :: G := fun hk' => by
 rcases List.mem_cons.1 hk' with rfl | hk'
 ·omega
 ·obtain ⟨d,hd,hdk⟩ := hG.two k hk'
  have := (h.bnd d (List.mem_append_left _ hd) k hdk).2 hk
  cases this
theorem St.extR {w0 w1 w : World} {Cs C1 C : List Chunk} {G : List Nat} {l : Nat} (h : St w0 [] (Cs ++ C1) w1) (hG : FpL Cs G) (hl : w0.heap.size ≤ l) (hS : St w1 (l :: G) C w) : Ext w0 w :=
 ⟨Nat.le_trans h.size hS.size,fun k hk => (hS.old k (Nat.lt_of_lt_of_le hk h.size) (St.off0 h hG hl hk)).trans (h.old k hk (by simp))⟩
theorem supT_24 {t : BT} (h : t.ok 0) : supT (canon t).1 < 2 ^ 24 := sup_fold _ _ (fun y hy => (by obtain ⟨j,hj⟩ := List.getElem?_of_mem hy; exact ((canon_mk h).kid j y hj).1)) (by decide)
structure EachG where
 x : DV
 Bs : List DV
 F : List Nat
structure EachI (orig : DV) (jop : Bool → Bool → Bool) (fs : List Nat) (k : Nat) (y : EachG) : Prop where
 mem : y.x = orig ∨ y.x ∈ y.Bs
 ok : y.x.1.ok 0
 ev : ∀ cf,y.x.1.ev cf = eachF jop (fs.take k) orig.1.ev cf
abbrev eachJ (b3 b5 fj : Nat) (y : EachG) : List Chunk := [pt b3 [.slice y.x.2.1 (canon y.x.1).1.length y.x.2.2,.int .i64 ((canon y.x.1).2 : Int)] 35,pt b5 [Value.func (.func fj) [].toArray [].toArray] 165,dsC y.F y.Bs]
abbrev eachG (b3 b5 : Nat) (y : EachG) : List Nat := [b3] ++ ([b5] ++ (y.F ++ []))
theorem eachFp (b3 b5 fj : Nat) (y : EachG) : FpL (eachJ b3 b5 fj y) (eachG b3 b5 y) := .cons FpIs.pt (.cons FpIs.pt (.cons FpIs.dsC .nil))
def JoinC (fj : Nat) (jop : Bool → Bool → Bool) : Prop := funB Tryz.prog fj = some true ∧ ∀ (t1 t2 : BT) (a1 a2 : Option Addr) (c1 c2 : Nat) (w : World),RdD w t1 a1 → RdD w t2 a2 → Calls Tryz.prog fj [dval t1 a1 c1,dval t2 a2 c2].toArray w (DPost (fun cf => jop (t1.ev cf) (t2.ev cf)) w)
def EachPost (orig : DV) (f : Cf → Bool) (w : World) (e : Ending) (w' : World) : Prop := ∃ y : EachG,(y.x = orig ∨ y.x ∈ y.Bs) ∧ y.x.1.ok 0 ∧ (∀ cf,y.x.1.ev cf = f cf) ∧ e = .returned (dval y.x.1 y.x.2.1 y.x.2.2) ∧ St w [] [dsC y.F y.Bs] w'
set_option maxRecDepth 100000 in
theorem each_c (fj : Nat) (jop : Bool → Bool → Bool) (hj : JoinC fj jop) (t : BT) (a : Option Addr) (c : Nat) (M : Nat) (hF : M < 4294967296) (w : World) (ht : RdD w t a) :
  Calls Tryz.prog 153 [dval t a c,.int .u32 (M : Int),Value.func (.func fj) [].toArray [].toArray].toArray w (EachPost (t,a,c) (eachF jop (featL (M &&& supT (canon t).1)) t.ev) w) := by
 have hsup24 : supT (canon t).1 < 2 ^ 24 := supT_24 ht.1
 have hsup32 : supT (canon t).1 < 4294967296 := Nat.lt_of_lt_of_le hsup24 (by decide)
 have hs32 : (M &&& supT (canon t).1) < 4294967296 := Nat.lt_of_le_of_lt Nat.and_le_left hF
 refine enterM Tryz.func153 rfl Tryz.ntmps153 rfl (St.init _) ?_
 refine jN 3 ?_
 refine WL.boxN rfl rfl (fun b3 => ?_)
 refine jN 1 ?_
 refine WL.box1 rfl rfl rfl (fun b5 => ?_)
 refine jN 1 ?_
 refine WL.alloc F.zero35 rfl (fun b6 => ?_)
 refine jN 10 ?_
 refine WL.callV F.fun35 rfl rfl (fun w hS => Support_c t a c w (ht.next0 hS)) ?_
 refine jN 1 ?_
 refine WL.bin rfl rfl rfl (fun w => run_and hF hsup32 _ _ _ w) ?_
 refine jN 1 ?_
 refine jC (β := Nat) (res := fun y => .func (.func 180) [].toArray [pp y].toArray) (cs := fun y => [pt y [.int .u32 (((M &&& supT (canon t).1) : Nat) : Int)] 26]) F.fun173 rfl (fun w hS _ => members_c (M &&& supT (canon t).1) w) (fun b12 => ?_)
 refine jN 3 ?_
 refine WC.chunks (C' := [pt b3 [.slice (t,a,c).2.1 (canon (t,a,c).1).1.length (t,a,c).2.2,.int .i64 ((canon (t,a,c).1).2 : Int)] 35,pt b5 [Value.func (.func fj) [].toArray [].toArray] 165,dsC [] [],pt b12 [.int .u32 (((M &&& supT (canon t).1) : Nat) : Int)] 26,pt b6 [.slice none 0 0,.int .i64 0] 35]) (fun w hS => (jK (St.dsNil hS))) ?_
 have hI0 : EachI (t,a,c) jop (featL (M &&& supT (canon t).1)) 0 (⟨(t,a,c),[],[]⟩ : EachG) := ⟨.inl rfl,ht.1,fun cf => rfl⟩
 refine WC.rangeFunc (σ := EachG) (ps := [13]) (gf := 180) (cap := [pp b12]) (n := (featL (M &&& supT (canon t).1)).length) (C1 := [pt b12 [.int .u32 (((M &&& supT (canon t).1) : Nat) : Int)] 26,pt b6 [.slice none 0 0,.int .i64 0] 35]) (fun k : Nat => [Value.int .i64 ((featL (M &&& supT (canon t).1)).getD k 0 : Int)]) (EachI (t,a,c) jop (featL (M &&& supT (canon t).1))) (eachJ b3 b5 fj) (eachG b3 b5) (⟨(t,a,c),[],[]⟩ : EachG) (eachFp b3 b5 fj) hI0 rfl F.fun180 (fun _ => rfl) (by kernel_rfl) (List.Perm.refl _) (fun l ch w hl hS hch hdis hf hrd => ?_) (fun l r k y w1 hk hI hrs hl hS1 => ?_) (fun Db y hI => ?_)
 ·refine members1_c ch (fun y => l :: eachG b3 b5 y) hch (EachI (t,a,c) jop (featL (M &&& supT (canon t).1))) l b12 (M &&& supT (canon t).1) hs32 (⟨(t,a,c),[],[]⟩ : EachG) hI0 w ?_ ?_ hrd hf
  ·exact hS.cell (List.mem_append_right _ (List.mem_cons_self ..)) rfl
  intro hb
  rcases List.mem_cons.1 hb with e | hb
  ·exact hdis _ (List.mem_append_right _ (List.mem_cons_self ..)) b12 rfl e
  exact St.off hS (eachFp b3 b5 fj (⟨(t,a,c),[],[]⟩ : EachG)) (List.mem_cons_self ..) (k := b12) rfl hb
 ·obtain ⟨i,hi⟩ : ∃ i,(featL (M &&& supT (canon t).1))[k]? = some i := ⟨_,List.getElem?_eq_getElem hk⟩
  have hgd : (featL (M &&& supT (canon t).1)).getD k 0 = i := by rw [List.getD_eq_getElem?_getD,hi]; rfl
  have hetk := eachF_take (jop := jop) hi t.ev
  have hE : ∀ {C : List Chunk} {w : World},St w1 (l :: eachG b3 b5 y) C w → Ext _ w := fun hS => St.extR hS1 (eachFp b3 b5 fj y) hl hS
  obtain ⟨x,Bs,Fb⟩ := y
  obtain ⟨hxm,hxok,hxev⟩ := hI
  dsimp only at hxm hxok hxev hE ⊢
  simp only [putL,eachJ]
  rw [hgd]
  have hrx : ∀ {C : List Chunk} {w : World},St w1 (l :: eachG b3 b5 ⟨x,Bs,Fb⟩) C w → dsC Fb Bs ∈ C → RdD w x.1 x.2.1 := fun hS hm => hxm.elim (fun e => by rw [e]; exact ht.ext (hE hS)) (fun e => dsC_rd (hS.ok _ hm) e)
  refine WI.region (fun ⟨_,_,h⟩ => h) (by kernel_rfl) ?_
  refine jN 3 ?_
  refine WQ.begin hrs (C1 := [pt b3 [.slice x.2.1 (canon x.1).1.length x.2.2,.int .i64 ((canon x.1).2 : Int)] 35,pt b5 [Value.func (.func fj) [].toArray [].toArray] 165,dsC Fb Bs]) (List.Perm.refl _) ?_
  refine WI.block ?_
  refine WI.drawsL (fun ⟨_,_,h⟩ => h) (by kernel_rfl) (by kernel_rfl) (FactsOk.cons (ds := [7,8]) (LoadOk.one (t := 5) (off := 0) rfl jM rfl) (FactsOk.cons (ds := [3,6,7,8]) (LoadOk.whole (t := 3) rfl jM) (FactsOk.cons (ds := [6,7,8]) (LoadOk.whole (t := 3) rfl jM) (FactsOk.nil)))) ?_
  refine jF 0 0 rfl rfl (Yl.load1 F.one165 rfl) ?_
  refine jF 1 1 rfl rfl (Yl.loadN F.agg35 rfl rfl) ?_
  refine jT 2 rfl (Yl.move rfl) ?_
  refine jF 4 2 rfl rfl (Yl.loadN F.agg35 rfl rfl) ?_
  refine jT 5 rfl (Yl.move rfl) ?_
  refine jA 3 rfl ?_
  refine jC (β := DRes (fun cf => x.1.ev (updI cf (i : Int) false))) (res := fun z => z.v) (cs := fun z => [z.ch]) F.fun108 rfl (fun w hS _ => With_c x.1 x.2.1 x.2.2 (i : Int) false w (hrx hS jM)) (fun z17 => ?_)
  refine WD.on (closed_of (by kernel_rfl)) (fun w hS => Sx.keep (hS.cell jM rfl) (Sx.gone rfl (Sx.keep ((fun j v hv => by rw [Nat.zero_add]; exact hS.cell jM hv)) (Sx.none)))) ?_
  refine jA 6 rfl ?_
  refine jC (β := DRes (fun cf => x.1.ev (updI cf (i : Int) true))) (res := fun z => z.v) (cs := fun z => [z.ch]) F.fun108 rfl (fun w hS _ => With_c x.1 x.2.1 x.2.2 (i : Int) true w (hrx hS jM)) (fun z20 => ?_)
  refine WD.on (closed_of (by kernel_rfl)) (fun w hS => Sx.keep (hS.cell jM rfl) (Sx.gone rfl (Sx.gone rfl (Sx.none)))) ?_
  refine jA 7 rfl ?_
  refine WL.callFC (us := []) (cap := []) (Cs := []) (O' := []) (β := DRes (fun cf => jop (z17.1.1.ev cf) (z20.1.1.ev cf))) (res := fun z => z.v) (cs := fun z => [z.ch]) hj.1 (fun d h => by cases h; rfl) rfl rfl (List.Perm.refl _) (by simp) (by simp) (fun w hS _ => hj.2 z17.1.1 z20.1.1 z17.1.2.1 z20.1.2.1 z17.1.2.2 z20.1.2.2 w (z17.rd hS jM) (z20.rd hS jM)) (fun z21 => ?_)
  refine jG ?_
  refine jA 8 rfl ?_
  refine WL.storeN F.agg35 rfl rfl rfl jO jU jS ?_
  refine jG ?_
  refine jD ?_
  refine jN 1 ?_
  refine WQ.chunksE (C' := fun F9 => [ob1 l (.loop { r with state := .busy }),pt b3 [.slice z21.1.2.1 (canon z21.1.1).1.length z21.1.2.2,.int .i64 ((canon z21.1.1).2 : Int)] 35,pt b5 [Value.func (.func fj) [].toArray [].toArray] 165,dsC F9 (Bs ++ [(z21.1.1,z21.1.2.1,z21.1.2.2)])]) (fun w hS => ?_) (fun F9 => ?_)
  ·obtain ⟨F9,hF9⟩ := St.dsSnoc z21.2.1 ((St.pick (St.pick hS (c := z21.ch) jR) (c := dsC Fb Bs) jR))
   exact ⟨F9,(jK hF9)⟩
  refine WQ.round (⟨(z21.1.1,z21.1.2.1,z21.1.2.2),Bs ++ [(z21.1.1,z21.1.2.1,z21.1.2.2)],F9⟩ : EachG) ⟨.inr (by simp),z21.2.1,fun cf => ?_⟩ (fun w hS => hS)
  rw [hetk,z21.2.2]
  show jop (z17.1.1.ev cf) (z20.1.1.ev cf) = _
  rw [z17.2.2,z20.2.2]
  show jop (x.1.ev _) (x.1.ev _) = _
  rw [hxev,hxev]
 refine jN 11 ?_
 refine WQ.retM1 (rs := [.cell 6 35]) rfl (List.Perm.refl _) (.cellN F.agg35 rfl jM rfl .nil) (fun w hS => ?_)
 obtain ⟨x,Bs,Fb⟩ := y
 exact ⟨⟨x,Bs,Fb⟩,hI.mem,hI.ok,fun cf => by rw [hI.ev,List.take_length],rfl,(jK hS)⟩
theorem Or_join : JoinC 105 (fun x y => x || y) := ⟨F.fun105,fun t1 t2 a1 a2 c1 c2 w h1 h2 => Or_c t1 t2 a1 a2 c1 c2 w h1 h2⟩
theorem And_join : JoinC 75 (fun x y => x && y) := ⟨F.fun75,fun t1 t2 a1 a2 c1 c2 w h1 h2 => And_c t1 t2 a1 a2 c1 c2 w h1 h2⟩
abbrev EachX (orig : DV) (f : Cf → Bool) : Type := { y : EachG // (y.x = orig ∨ y.x ∈ y.Bs) ∧ y.x.1.ok 0 ∧ ∀ cf,y.x.1.ev cf = f cf }
theorem Exists_c (t : BT) (a : Option Addr) (c : Nat) (M : Nat) (hF : M < 4294967296) (w : World) (ht : RdD w t a) :
  Calls Tryz.prog 109 [dval t a c,.int .u32 (M : Int)].toArray w (EachPost (t,a,c) (eachF (fun x y => x || y) (featL (M &&& supT (canon t).1)) t.ev) w) := by
 refine enter Tryz.func109 rfl Tryz.ntmps109 rfl (St.init _) ?_
 refine jN 3 ?_
 refine WL.boxN rfl rfl (fun b2 => ?_)
 refine jN 1 ?_
 refine WL.alloc F.zero35 rfl (fun b4 => ?_)
 refine jN 9 ?_
 refine jC (β := EachX (t,a,c) (eachF (fun x y => x || y) (featL (M &&& supT (canon t).1)) t.ev)) (res := fun y => dval y.1.x.1 y.1.x.2.1 y.1.x.2.2) (cs := fun y => [dsC y.1.F y.1.Bs]) F.fun153 rfl (fun w hS _ => (each_c _ _ Or_join t a c M hF w (ht.next0 hS)).mono (fun e w2 ⟨y,h1,h2,h3,h4,h5⟩ => ⟨⟨y,h1,h2,h3⟩,h4,h5⟩)) (fun ⟨y,hy1,hy2,hy3⟩ => ?_)
 refine jN 5 ?_
 refine WQ.ret (rs := [.cell 4 35]) rfl (.cellN F.agg35 rfl jM rfl .nil) (fun w hS => ⟨y,hy1,hy2,hy3,rfl,(jK hS)⟩)
theorem Forall_c (t : BT) (a : Option Addr) (c : Nat) (M : Nat) (hF : M < 4294967296) (w : World) (ht : RdD w t a) :
  Calls Tryz.prog 110 [dval t a c,.int .u32 (M : Int)].toArray w (EachPost (t,a,c) (eachF (fun x y => x && y) (featL (M &&& supT (canon t).1)) t.ev) w) := by
 refine enter Tryz.func110 rfl Tryz.ntmps110 rfl (St.init _) ?_
 refine jN 3 ?_
 refine WL.boxN rfl rfl (fun b2 => ?_)
 refine jN 1 ?_
 refine WL.alloc F.zero35 rfl (fun b4 => ?_)
 refine jN 9 ?_
 refine jC (β := EachX (t,a,c) (eachF (fun x y => x && y) (featL (M &&& supT (canon t).1)) t.ev)) (res := fun y => dval y.1.x.1 y.1.x.2.1 y.1.x.2.2) (cs := fun y => [dsC y.1.F y.1.Bs]) F.fun153 rfl (fun w hS _ => (each_c _ _ And_join t a c M hF w (ht.next0 hS)).mono (fun e w2 ⟨y,h1,h2,h3,h4,h5⟩ => ⟨⟨y,h1,h2,h3⟩,h4,h5⟩)) (fun ⟨y,hy1,hy2,hy3⟩ => ?_)
 refine jN 5 ?_
 refine WQ.ret (rs := [.cell 4 35]) rfl (.cellN F.agg35 rfl jM rfl .nil) (fun w hS => ⟨y,hy1,hy2,hy3,rfl,(jK hS)⟩)
abbrev OpV.cells (x : OpV) : List Value := [.int .u8 (x.doo : Int),.int .u8 (x.rel : Int),.int .u8 (x.a : Int),.int .u8 (x.b : Int),.int .u8 (x.c : Int),.int .i64 x.i,.int .i64 x.j,.bool x.on,.int .u32 (x.f : Int),.int .u32 (x.g : Int),.slice x.la x.l.length x.lc,.int .i64 x.bound]
abbrev OpV.val (x : OpV) : Value := .agg x.cells.toArray
structure OpV.wf (x : OpV) : Prop where
 doo : x.doo < 256
 rel : x.rel < 256
 a : x.a < 256
 b : x.b < 256
 c : x.c < 256
 i : -9223372036854775808 ≤ x.i ∧ x.i < 9223372036854775808
 j : -9223372036854775808 ≤ x.j ∧ x.j < 9223372036854775808
 f : x.f < 4294967296
 g : x.g < 4294967296
 bound : -9223372036854775808 ≤ x.bound ∧ x.bound < 9223372036854775808
def RdOps (w : World) (l : List OpV) (a : Option Addr) : Prop := ∀ (i : Nat) (x : OpV),l[i]? = some x → (∃ b off,a = some ⟨b,off,none⟩ ∧ ∀ (j : Nat) (u : Value),x.cells[j]? = some u → w.cell? ⟨b,off + i * 12 + j,none⟩ = some u) ∧ RdC w x.l x.la
theorem RdC.nextO {w0 w : World} {C : List Chunk} {c : List Int} {a : Option Addr} (h : RdC w0 c a) (hS : St w0 [] C w) : RdC w c a := fun i x hx => by
 obtain ⟨b,off,e1,e2⟩ := h i x hx
 exact ⟨b,off,e1,hS.oldc e2 (by simp)⟩
theorem RdOps.next {w0 w : World} {C : List Chunk} {l : List OpV} {a : Option Addr} (h : RdOps w0 l a) (hS : St w0 [] C w) : RdOps w l a := fun i x hx => by
 obtain ⟨⟨b,off,e1,e2⟩,e3⟩ := h i x hx
 exact ⟨⟨b,off,e1,fun j u hu => hS.oldc (e2 j u hu) (by simp)⟩,RdC.nextO e3 hS⟩
section
variable {w0 : World} {O : List Nat} {C : List Chunk}
theorem St.dsSub {w : World} {F : List Nat} {l m : List DV} (h : St w0 O (dsC F l :: C) w) (hm : ∀ x ∈ m,x ∈ l) : St w0 O (dsC F m :: C) w := h.swap (fun h x hx => h x (hm x hx)) (fun k hk => hk)
end
def OneP (s : List DV) (f : Cf → Bool) (w : World) (e : Ending) (w' : World) : Prop :=
 ∃ (y : EachG) (k : Int),(y.x ∈ s ∨ y.x ∈ y.Bs) ∧ y.x.1.ok 0 ∧ (∀ cf,y.x.1.ev cf = f cf) ∧ e = .returned (.tuple #[dval y.x.1 y.x.2.1 y.x.2.2,.int .i64 k]) ∧ St w [] [dsC y.F y.Bs] w'
abbrev OneX (s : List DV) (f : Cf → Bool) : Type := { y : EachG × Int // (y.1.x ∈ s ∨ y.1.x ∈ y.1.Bs) ∧ y.1.x.1.ok 0 ∧ ∀ cf,y.1.x.1.ev cf = f cf }
theorem OneP.of {s : List DV} {f : Cf → Bool} {w w' : World} (z : DRes f) (k : Int) (hS : St w [] [z.ch] w') : OneP s f w (.returned (.tuple #[z.v,.int .i64 k])) w' := by
 obtain ⟨F,hF⟩ := St.dsSnoc z.2.1 (show St w [] (dsC [] [] :: dC z.1.2.1 z.1.2.2 z.1.1 :: []) w' from St.dsNil hS)
 exact ⟨⟨z.1,[z.1],F⟩,k,.inr (List.mem_singleton.2 rfl),z.2.1,z.2.2,rfl,hF⟩
open Go Go.Eng Go.Proofs Go.ChangeShapes Go.WideShapes Go.ChangeAt Go.RowKit Go.ChangeMaps
noncomputable def opFs : Array Field := match Tryz.prog.underlying 92 with
 | some (.struct fs) => fs
 | _ => #[]
theorem undOp' : Tryz.prog.underlying 92 = some (.struct opFs) := by kernel_rfl
theorem undOps' : Tryz.prog.underlying 46 = some (.slice 92) := by kernel_rfl
theorem cellsOp' : Tryz.prog.cellsOf 92 = 12 := by kernel_rfl
theorem undI64' : Tryz.prog.underlying 2 = some (.int .i64) := by kernel_rfl
theorem undInt' : Tryz.prog.underlying 3 = some (.int .i64) := by kernel_rfl
theorem undU8' : Tryz.prog.underlying 5 = some (.int .u8) := by kernel_rfl
theorem undU32' : Tryz.prog.underlying 26 = some (.int .u32) := by kernel_rfl
theorem undBool' : Tryz.prog.underlying 4 = some .bool := by kernel_rfl
theorem undI64s' : Tryz.prog.underlying 90 = some (.slice 2) := by kernel_rfl
theorem cellsI64' : Tryz.prog.cellsOf 2 = 1 := by kernel_rfl
theorem cellsInt' : Tryz.prog.cellsOf 3 = 1 := by kernel_rfl
theorem cellsU8' : Tryz.prog.cellsOf 5 = 1 := by kernel_rfl
theorem cellsU32' : Tryz.prog.cellsOf 26 = 1 := by kernel_rfl
theorem cellsBool' : Tryz.prog.cellsOf 4 = 1 := by kernel_rfl
theorem cellsI64s' : Tryz.prog.cellsOf 90 = 1 := by kernel_rfl
theorem opFs_ty : opFs.toList.map (fun f => (f.type,f.offset)) = [(5,0),(5,1),(5,2),(5,3),(5,4),(3,5),(3,6),(4,7),(26,8),(26,9),(90,10),(2,11)] := by kernel_rfl
theorem opF {i t o : Nat} (h : (opFs.toList.map (fun f => (f.type,f.offset)))[i]? = some (t,o)) : ∃ f : Field,opFs[i]? = some f ∧ f.type = t ∧ f.offset = o := by
 rw [List.getElem?_map] at h
 cases hq : opFs.toList[i]? with
 | none => rw [hq] at h; cases h
 | some f =>
  rw [hq] at h
  simp only [Option.map_some,Option.some.injEq,Prod.mk.injEq] at h
  exact ⟨f,by rw [← Array.getElem?_toList]; exact hq,h.1,h.2⟩
theorem wf_u8 {n : Int} (h : (Lit.int .u8 n).wf = true) : 0 ≤ n ∧ n < 256 := by
 have e1 : IntKind.u8.min = 0 := by decide
 have e2 : IntKind.u8.max = 255 := by decide
 simp [Lit.wf,e1,e2] at h
 omega
theorem wf_u32 {n : Int} (h : (Lit.int .u32 n).wf = true) : 0 ≤ n ∧ n < 4294967296 := by
 have e1 : IntKind.u32.min = 0 := by decide
 have e2 : IntKind.u32.max = 4294967295 := by decide
 simp [Lit.wf,e1,e2] at h
 omega
theorem wf_i64 {n : Int} (h : (Lit.int .i64 n).wf = true) : -9223372036854775808 ≤ n ∧ n < 9223372036854775808 := by
 have e1 : IntKind.i64.min = -9223372036854775808 := by decide
 have e2 : IntKind.i64.max = 9223372036854775807 := by decide
 simp [Lit.wf,e1,e2] at h
 omega
theorem list_of {α : Type} {P : Nat → α → Prop} : ∀ n : Nat,(∀ i,i < n → ∃ y,P i y) → ∃ l : List α,l.length = n ∧ ∀ i x,l[i]? = some x → P i x
 | 0,_ => ⟨[],rfl,fun i x hx => by simp at hx⟩
 | n + 1,h => by
  obtain ⟨l,h1,h2⟩ := list_of n (fun i hi => h i (by omega))
  obtain ⟨y,hy⟩ := h n (by omega)
  refine ⟨l ++ [y],by simp [h1],fun i x hx => ?_⟩
  by_cases hi : i < l.length
  ·rw [List.getElem?_append_left hi] at hx
   exact h2 i x hx
  ·rw [List.getElem?_append_right (by omega)] at hx
   have hil := (List.getElem?_eq_some_iff.1 hx).1
   simp at hil
   have : i = n := by omega
   subst this
   rw [show i - l.length = 0 by omega] at hx
   simp at hx
   subst hx
   exact hy
section
variable {H : Type} {enc : TypeId × Value → H} {W : World} {base : Nat} {held : Bool}
set_option maxRecDepth 100000 in
theorem open_op {fuel : Nat} {cs : List Value} {x : DataW H × List MemPlace} (h : DataW.trod enc Tryz.prog W 0 (fun _ => true) held fuel 92 cs = some x) :
  ∃ y : OpV,cs = y.cells ∧ y.wf ∧ RdC W y.l y.la := by
 obtain ⟨xs,n,rfl,rfl,hl,hx,hf⟩ := DataW.trod_struct undOp' h
 have hsz : opFs.size = 12 := by
  have := congrArg List.length opFs_ty
  simpa using this
 rw [hsz] at hx
 rw [cellsOp'] at hl
 have fld : ∀ {i t o : Nat},(opFs.toList.map (fun f => (f.type,f.offset)))[i]? = some (t,o) → i < 12 → ∃ y,DataW.trod enc Tryz.prog W 0 (fun _ => true) held n t ((cs.drop o).take (Tryz.prog.cellsOf t)) = some y := fun {i t o} hi hi12 => by
  obtain ⟨f,h1,rfl,rfl⟩ := opF hi
  exact ⟨xs[i]'(by omega),by rw [hf i f h1]; exact List.getElem?_eq_getElem _⟩
 rw [opFs_ty] at fld
 obtain ⟨y0,f0⟩ := fld (i := 0) rfl (by decide)
 obtain ⟨y1,f1⟩ := fld (i := 1) rfl (by decide)
 obtain ⟨y2,f2⟩ := fld (i := 2) rfl (by decide)
 obtain ⟨y3,f3⟩ := fld (i := 3) rfl (by decide)
 obtain ⟨y4,f4⟩ := fld (i := 4) rfl (by decide)
 obtain ⟨y5,f5⟩ := fld (i := 5) rfl (by decide)
 obtain ⟨y6,f6⟩ := fld (i := 6) rfl (by decide)
 obtain ⟨y7,f7⟩ := fld (i := 7) rfl (by decide)
 obtain ⟨y8,f8⟩ := fld (i := 8) rfl (by decide)
 obtain ⟨y9,f9⟩ := fld (i := 9) rfl (by decide)
 obtain ⟨y10,f10⟩ := fld (i := 10) rfl (by decide)
 obtain ⟨y11,f11⟩ := fld (i := 11) rfl (by decide)
 rw [cellsU8'] at f0 f1 f2 f3 f4
 rw [cellsInt'] at f5 f6
 rw [cellsBool'] at f7
 rw [cellsU32'] at f8 f9
 rw [cellsI64s'] at f10
 rw [cellsI64'] at f11
 match cs,hl with
 | [u0,u1,u2,u3,u4,u5,u6,u7,u8,u9,u10,u11],_ =>
  simp only [List.drop_zero,List.take_succ_cons,List.take_zero,List.drop_succ_cons] at f0 f1 f2 f3 f4 f5 f6 f7 f8 f9 f10 f11
  obtain ⟨n0,e0,_,w0⟩ := DataW.trod_int undU8' f0
  obtain ⟨n1,e1,_,w1⟩ := DataW.trod_int undU8' f1
  obtain ⟨n2,e2,_,w2⟩ := DataW.trod_int undU8' f2
  obtain ⟨n3,e3,_,w3⟩ := DataW.trod_int undU8' f3
  obtain ⟨n4,e4,_,w4⟩ := DataW.trod_int undU8' f4
  obtain ⟨n5,e5,_,w5⟩ := DataW.trod_int undInt' f5
  obtain ⟨n6,e6,_,w6⟩ := DataW.trod_int undInt' f6
  obtain ⟨b7,e7,_⟩ := DataW.trod_bool undBool' f7
  obtain ⟨n8,e8,_,w8⟩ := DataW.trod_int undU32' f8
  obtain ⟨n9,e9,_,w9⟩ := DataW.trod_int undU32' f9
  obtain ⟨n11,e11,_,w11⟩ := DataW.trod_int undI64' f11
  simp only [List.cons.injEq,and_true] at e0 e1 e2 e3 e4 e5 e6 e7 e8 e9 e11
  subst e0; subst e1; subst e2; subst e3; subst e4; subst e5; subst e6; subst e7; subst e8; subst e9; subst e11
  have v0 := wf_u8 w0
  have v1 := wf_u8 w1
  have v2 := wf_u8 w2
  have v3 := wf_u8 w3
  have v4 := wf_u8 w4
  have v5 := wf_i64 w5
  have v6 := wf_i64 w6
  have v8 := wf_u32 w8
  have v9 := wf_u32 w9
  have v11 := wf_i64 w11
  obtain ⟨m0,rfl⟩ := Int.eq_ofNat_of_zero_le v0.1
  obtain ⟨m1,rfl⟩ := Int.eq_ofNat_of_zero_le v1.1
  obtain ⟨m2,rfl⟩ := Int.eq_ofNat_of_zero_le v2.1
  obtain ⟨m3,rfl⟩ := Int.eq_ofNat_of_zero_le v3.1
  obtain ⟨m4,rfl⟩ := Int.eq_ofNat_of_zero_le v4.1
  obtain ⟨m8,rfl⟩ := Int.eq_ofNat_of_zero_le v8.1
  obtain ⟨m9,rfl⟩ := Int.eq_ofNat_of_zero_le v9.1
  have hL : ∃ (c : List Int) (a : Option Addr) (k : Nat),u10 = .slice a c.length k ∧ RdC W c a := by
   rcases open_ints undI64s' undI64' cellsI64' f10 with ⟨h1,_⟩ | ⟨a',len',cap',zs,h1,_,hl,_,hz,_,hcell,_⟩
   ·simp only [List.cons.injEq,and_true] at h1
    exact ⟨[],none,0,h1,fun j x hx => by simp at hx⟩
   ·simp only [List.cons.injEq,and_true] at h1
    have hz' : zs.length = cap' := by simpa using hz
    refine ⟨zs.take len',some a',cap',by rw [h1,List.length_take,Nat.min_eq_left (by omega)],rdC_of fun i hi => ?_⟩
    have hi' : i < len' ∧ i < zs.length := by (rw [List.length_take] at hi; omega)
    rw [hcell i hi'.2,List.getD_eq_getElem?_getD,List.getD_eq_getElem?_getD,List.getElem?_take_of_lt hi'.1]
  obtain ⟨c,a,k,rfl,hr⟩ := hL
  exact ⟨⟨m0,m1,m2,m3,m4,n5,n6,b7,m8,m9,c,a,k,n11⟩,rfl,⟨by show m0 < 256; omega,by show m1 < 256; omega,by show m2 < 256; omega,by show m3 < 256; omega,by show m4 < 256; omega,v5,v6,by show m8 < 4294967296; omega,by show m9 < 4294967296; omega,v11⟩,hr⟩
set_option maxRecDepth 100000 in
theorem open_ops {v : Value} {d : DataW H} {p : List MemPlace} (hv : Value.okWide Tryz.prog W .any base 46 v) (h : DataW.Trod enc Tryz.prog W 0 (fun _ => true) held 46 v d p) :
  ∃ (l : List OpV) (a : Option Addr) (k : Nat),v = .slice a l.length k ∧ (∀ x ∈ l,x.wf) ∧ RdOps W l a := by
 obtain ⟨a,len,cap,rfl⟩ := okWide_slice undOps' hv
 obtain ⟨fuel,hf⟩ := h
 rcases DataW.trod_slice undOps' hf with ⟨h1,_⟩ | ⟨a',len',cap',elems,rest,m,_,h1,_,_,_,_,hlen,hel,_⟩
 ·simp [Value.cells] at h1
  obtain ⟨rfl,rfl,rfl⟩ := h1
  exact ⟨[],none,0,rfl,by simp,fun i x hx => by simp at hx⟩
 simp [Value.cells] at h1
 obtain ⟨rfl,rfl,rfl⟩ := h1
 rw [cellsOp'] at hel
 have each : ∀ i,i < len → ∃ y : OpV,W.cells? 0 (a'.add (i * 12)) 12 = some y.cells ∧ y.wf ∧ RdC W y.l y.la := fun i hi => by
  have h1 := hel i hi
  have h2 : elems[i]? = some (elems[i]'(by omega)) := List.getElem?_eq_getElem _
  rw [h2] at h1
  obtain ⟨cs',h3,h4⟩ := Option.bind_eq_some_iff.1 h1
  obtain ⟨y,rfl,h5,h6⟩ := open_op h4
  exact ⟨y,h3,h5,h6⟩
 obtain ⟨l,hl,hP⟩ := list_of len each
 refine ⟨l,some a',cap,by rw [hl],fun x hx => ?_,fun i x hx => ?_⟩
 ·obtain ⟨i,hi⟩ := List.getElem?_of_mem hx
  exact (hP i x hi).2.1
 obtain ⟨h1,_,h3⟩ := hP i x hx
 obtain ⟨_,_,h2⟩ := World.cells?_some h1
 have hil : i < len := by have := (List.getElem?_eq_some_iff.1 hx).1; omega
 obtain ⟨y0,hy0,_,_⟩ := each 0 (by omega)
 obtain ⟨_,_,g2⟩ := World.cells?_some hy0
 have g20 := g2 0 (by decide)
 have ha0 : a'.add 0 = a' := by simp [Addr.add]
 rw [Nat.zero_mul,ha0,ha0] at g20
 have hs := cell_spot g20
 obtain ⟨b,off,spot⟩ := a'
 simp only at hs
 subst hs
 refine ⟨⟨b,off,rfl,fun j u hu => ?_⟩,h3⟩
 have hj : j < 12 := by have := (List.getElem?_eq_some_iff.1 hu).1; simpa using this
 have h4 := h2 j hj
 rw [hu,add_blk,add_blk] at h4
 exact h4
end
open Go Go.Eng Go.Proofs Dg
end Go.Proofs.YtkgllhkhdjodeaaGreat
namespace Go.Eng
open Go Go.RowKit
section
variable {P : Program} {w0 : World} {O : List Nat} {ops : Array Oper} {Q : Exit → Act → World → Prop} {N : Nat} {D : List Deferred} {L : FL} {C : List Chunk} {K : Act → World → Prop}
variable {d : Nat} {ty : TypeId} {pos : String} {af : Array Edge}
theorem Yl.convert {F : World → Prop} {t1 t2 : TypeId} {x : Operand} {vx v : Value} (hx : ev L x = some vx) (hr : ∀ w,(Go.convert t1 t2 vx).run P w = .ok v w) :
  Yl P N D L F ⟨some d,.convert t1 t2 x,ty,pos,af,none⟩ v := fun a w hF _ => by
 simp [execOp,hF.ev hx,hr w]
theorem Yl.sliceArr {F : World → Prop} {t e : TypeId} {n sz : Nat} {zs : List Value} {x : Operand} {b off : Nat} (ht : ArT P t e n sz zs) (hx : ev L x = some (.pointer (some ⟨b,off,none⟩))) :
  Yl P N D L F ⟨some d,.slice t x none none none,ty,pos,af,none⟩ (.slice (some ⟨b,off,none⟩) n n) := fun a w hF _ => by
 simp [execOp,Instr.sliceAt,Instr.sureAddr,Instr.sliceBounds,hF.ev hx,run_underlying ht.und,run_sizeOf ht.size,Addr.add]
theorem WL.sliceArr {t e : TypeId} {n sz : Nat} {zs : List Value} {x : Operand} {b off : Nat} (ht : ArT P t e n sz zs) (hd : Nat.blt d N = true) (hx : ev L x = some (.pointer (some ⟨b,off,none⟩)))
  (h : WA w0 O K N D ((d,.slice (some ⟨b,off,none⟩) n n) :: L) C) :
  WK P w0 O ops Q ⟨some d,.slice t x none none none,ty,pos,af,none⟩ K N D L C := WL.y (F := fun _ => True) (Yl.sliceArr ht hx) hd (fun _ _ => trivial) h
theorem WL.copyPt {x y : Operand} {dT sT elem : TypeId} {g o dLen dCap sLen sCap : Nat} {a0 : Option Addr} {cs vs : List Value} {e : TypeId} {C' : List Chunk} (hu : P.underlying dT = some (.slice elem)) (hs : sizeB P elem = some 1) (hd : Nat.blt d N = true)
  (hx : ev L x = some (.slice (some ⟨g,o,none⟩) dLen dCap)) (hy : ev L y = some (.slice a0 sLen sCap)) (hn : vs.length = Nat.min sLen dLen)
  (hsrc : ∀ w,St w0 O C w → ∀ j v,vs[j]? = some v → ∃ b off,a0 = some ⟨b,off,none⟩ ∧ w.cell? ⟨b,off + j,none⟩ = some v) (hfit : o + vs.length ≤ cs.length) (h1 : ∀ v ∈ vs,v.oneCell' = true)
  (hup : Upd (pt g cs e) (pt g (cs.take o ++ vs ++ cs.drop (o + vs.length)) e) C C') (h : WA w0 O K N D ((d,.int .i64 (vs.length : Int)) :: L) C') :
  WK P w0 O ops Q ⟨some d,.call { callee := .builtin .copy,args := #[x,y],argTypes := #[dT,sT] },ty,pos,af,none⟩ K N D L C := fun a w hF hS => by
 have hg := hS.heap hup.mem
 have hrow := hS.row hup
 rcases a0 with _ | ⟨ab,ao,asp⟩
 ·have hv : vs = [] := by
   cases hq : vs with
   | nil => rfl
   | cons v r =>
    obtain ⟨b,off,h9,_⟩ := hsrc w hS 0 v (by rw [hq]; rfl)
    cases h9
  subst hv
  have e0 : cs.take o ++ [] ++ cs.drop (o + ([] : List Value).length) = cs := by simp
  rw [e0] at hrow
  have hw : w.setRow g cs.toArray = w := setRow_self w g cs.toArray e (0,0) hg
  rw [hw] at hrow
  have hm : Nat.min sLen dLen = 0 := by simpa using hn.symm
  refine wpo_val rfl (v := .int .i64 0) (w' := w) ?_ (h _ _ (hF.put d _ hd) hrow)
  cases hq : P.info? elem with
  | none => simp [sizeB,hq] at hs
  | some i =>
   have hi : i.size = 1 := by simpa [sizeB,hq] using hs
   simp [execOp,resolve,invoke,builtin,hF.ev hx,hF.ev hy,Builtin.copy_,run_underlying hu,Builtin.lenOf,Builtin.firstCells,sizeOf,typeInfo,hq,hi,hm,storeCells]
   try rfl
 ·by_cases hv : vs = []
  ·subst hv
   have e0 : cs.take o ++ [] ++ cs.drop (o + ([] : List Value).length) = cs := by simp
   rw [e0] at hrow
   have hw : w.setRow g cs.toArray = w := setRow_self w g cs.toArray e (0,0) hg
   have hr := run_copy_row (P := P) w dT sT ty elem g o dLen dCap ⟨ab,ao,asp⟩ sLen sCap cs.toArray e [] hu hs hg hn (fun j v hj => by cases hj) (by simpa using hfit) (by simp)
   refine wpo_val rfl (v := .int .i64 0) (w' := w.setRow g cs.toArray) ?_ (h _ _ (hF.put d _ hd) hrow)
   simp [execOp,resolve,invoke,builtin,hF.ev hx,hF.ev hy]
   simp at hr
   rw [hr]
   rfl
  ·obtain ⟨v0,hv0⟩ : ∃ v,vs[0]? = some v := ⟨_,List.getElem?_eq_getElem (List.length_pos_iff.2 hv)⟩
   obtain ⟨b,off,h9,_⟩ := hsrc w hS 0 v0 hv0
   simp only [Option.some.injEq,Addr.mk.injEq] at h9
   obtain ⟨rfl,rfl,rfl⟩ := h9
   have hr := run_copy_row (P := P) w dT sT ty elem g o dLen dCap ⟨ab,ao,none⟩ sLen sCap cs.toArray e vs hu hs hg hn (fun j v hj => by
    obtain ⟨b2,off2,h8,h7⟩ := hsrc w hS j v hj
    simp only [Option.some.injEq,Addr.mk.injEq,and_true] at h8
    obtain ⟨rfl,rfl⟩ := h8
    rw [add_blk]; exact h7) (by simpa using hfit) h1
   refine wpo_val rfl (v := .int .i64 (vs.length : Int)) (w' := w.setRow g (cs.take o ++ vs ++ cs.drop (o + vs.length)).toArray) ?_ (h _ _ (hF.put d _ hd) hrow)
   simp [execOp,resolve,invoke,builtin,hF.ev hx,hF.ev hy]
   simp at hr
   rw [hr]
   rfl
def fldTB (P : Program) (t : TypeId) (f : Nat) : Option (TypeId × Nat) := match P.underlying t with
 | some (.struct fields) => (fields[f]?).map fun fd => (fd.type,fd.offset)
 | _ => none
theorem fldTB_some {t ft : TypeId} {f off : Nat} (h : fldTB P t f = some (ft,off)) : ∃ (fields : Array Field) (fd : Field),P.underlying t = some (.struct fields) ∧ fields[f]? = some fd ∧ fd.type = ft ∧ fd.offset = off := by
 unfold fldTB at h
 split at h
 ·rename_i fields hu
  cases hq : fields[f]? with
  | none => rw [hq] at h; cases h
  | some fd =>
   rw [hq] at h
   simp only [Option.map_some,Option.some.injEq,Prod.mk.injEq] at h
   exact ⟨fields,fd,hu,hq,h.1,h.2⟩
 cases h
theorem Yl.field1 {F : World → Prop} {t ft : TypeId} {f off : Nat} {x : Operand} {vs : List Value} {v : Value} (h : fldTB P t f = some (ft,off)) (ho : One P ft) (hx : ev L x = some (.agg vs.toArray)) (hv : vs[off]? = some v) :
  Yl P N D L F ⟨some d,.field t x f,ty,pos,af,none⟩ v := fun a w hF _ => by
 obtain ⟨fields,fd,hu,hq,rfl,rfl⟩ := fldTB_some h
 simp [execOp,Instr.field,hF.ev hx,run_underlying hu,hq,asAgg,part,run_isAgg ho.agg,hv]
end
end Go.Eng
namespace Fm
open Go Go.Eng
end Fm
namespace Go.Proofs.YtkgllhkhdjodeaaGreat
open Go Go.Eng Go.Proofs
theorem conv53 {n : Nat} (hn : n < 256) (w : World) : (convert 5 3 (.int .u8 (n : Int))).run Tryz.prog w = .ok (.int .i64 (n : Int)) w := by
 have h := run_convert_int (P := Tryz.prog) w 5 3 .u8 (n : Int) (by kernel_rfl) (by kernel_rfl)
 rw [show Tryz.prog.intKind 3 = .i64 by kernel_rfl,wrap_i64 (by omega) (by omega)] at h
 exact h
open Go Go.Eng Go.Proofs Dg
def popL : List UInt8 := [0,1,1,2,1,2,2,3,1,2,2,3,2,3,3,4,1,2,2,3,2,3,3,4,2,3,3,4,3,4,4,5,1,2,2,3,2,3,3,4,2,3,3,4,3,4,4,5,2,3,3,4,3,4,4,5,3,4,4,5,4,5,5,6,1,2,2,3,2,3,3,4,2,3,3,4,3,4,4,5,2,3,3,4,3,4,4,5,3,4,4,5,4,5,5,6,2,3,3,4,3,4,4,5,3,4,4,5,4,5,5,6,3,4,4,5,4,5,5,6,4,5,5,6,5,6,6,7,1,2,2,3,2,3,3,4,2,3,3,4,3,4,4,5,2,3,3,4,3,4,4,5,3,4,4,5,4,5,5,6,2,3,3,4,3,4,4,5,3,4,4,5,4,5,5,6,3,4,4,5,4,5,5,6,4,5,5,6,5,6,6,7,2,3,3,4,3,4,4,5,3,4,4,5,4,5,5,6,3,4,4,5,4,5,5,6,4,5,5,6,5,6,6,7,3,4,4,5,4,5,5,6,4,5,5,6,5,6,6,7,4,5,5,6,5,6,6,7,5,6,6,7,6,7,7,8]
set_option maxRecDepth 100000 in
theorem popL_all : ∀ k : Fin 256,(popL[k.val]?).map (fun c => (c.toNat,decide (c.toNat ≤ 8))) = some (popN 8 k.val,true) := by decide +kernel
theorem popL_at {k : Nat} (h : k < 256) : ∃ c,popL[k]? = some c ∧ c.toNat = popN 8 k ∧ c.toNat ≤ 8 := by
 have h1 := popL_all ⟨k,h⟩
 cases hq : popL[k]? with
 | none => simp [hq] at h1
 | some c =>
  simp only [hq,Option.map_some,Option.some.injEq,Prod.mk.injEq,decide_eq_true_eq] at h1
  exact ⟨c,rfl,h1.1,h1.2⟩
theorem run_add8 {a b : Nat} (h : a + b < 256) (t : TypeId) (x y : Operand) (w : World) :
  (do eqGuard .add t x y (.int .u8 (a : Int)) (.int .u8 (b : Int)); binOp .add t (.int .u8 (a : Int)) (.int .u8 (b : Int)) : Sem Value).run Tryz.prog w = .ok (.int .u8 ((a + b : Nat) : Int)) w := by
 have h1 : IntKind.u8.wrap ((a + b : Nat) : Int) = ((a + b : Nat) : Int) := by
  simp only [IntKind.wrap,IntKind.bits,IntKind.signed,Bool.false_and,Bool.false_eq_true,if_false]
  omega
 simp only [Int.natCast_add] at h1
 simp [eqGuard,binOp,Op.intArith,h1]
theorem conv8 {n : Nat} (hn : n < 256) (w : World) : (convert 5 3 (.int .u8 (n : Int))).run Tryz.prog w = .ok (.int .i64 (n : Int)) w := conv53 hn w
set_option maxRecDepth 100000 in
theorem Ones_c (x : Nat) (hx : x < 4294967296) (w : World) : Pure Tryz.prog 154 [.int .u32 (x : Int)] w (.int .i64 ((popN 32 x : Nat) : Int)) := by
 have s24 : x >>> 24 < 256 := by rw [Nat.shiftRight_eq_div_pow]; omega
 have s16 : x >>> 16 < 4294967296 := Nat.lt_of_le_of_lt (by rw [Nat.shiftRight_eq_div_pow]; exact Nat.div_le_self _ _) hx
 have s8 : x >>> 8 < 4294967296 := Nat.lt_of_le_of_lt (by rw [Nat.shiftRight_eq_div_pow]; exact Nat.div_le_self _ _) hx
 have m : ∀ y : Nat,y &&& 255 < 256 := fun y => Nat.lt_of_le_of_lt Nat.and_le_right (by decide)
 obtain ⟨c1,p1,q1,b1⟩ := popL_at s24
 obtain ⟨c2,p2,q2,b2⟩ := popL_at (m (x >>> 16))
 obtain ⟨c3,p3,q3,b3⟩ := popL_at (m (x >>> 8))
 obtain ⟨c4,p4,q4,b4⟩ := popL_at (m x)
 refine enter Tryz.func154 rfl Tryz.ntmps154 rfl (St.init _) ?_
 refine jN 7 ?_
 refine WC.drawsL (by kernel_rfl) (FactsOk.nil) ?_
 refine jT 0 rfl (Yl.move rfl) ?_
 refine jT 1 rfl (Yl.bin rfl rfl (fun w => run_shrU (a := x) (k := 24) (by decide) _ _ _ w)) ?_
 refine jT 2 rfl (Yl.indexS (m := popL) (i := (x >>> 24)) F.und9 rfl rfl p1) ?_
 refine jT 3 rfl (Yl.move rfl) ?_
 refine jT 4 rfl (Yl.bin rfl rfl (fun w => run_shrU (a := x) (k := 16) (by decide) _ _ _ w)) ?_
 refine jT 5 rfl (Yl.bin rfl rfl (fun w => run_and (a := x >>> 16) (b := 255) s16 (by decide) _ _ _ w)) ?_
 refine jT 6 rfl (Yl.indexS (m := popL) (i := (x >>> 16 &&& 255)) F.und9 rfl rfl p2) ?_
 refine jT 7 rfl (Yl.bin rfl rfl (fun w => run_add8 (a := c1.toNat) (b := c2.toNat) (by omega) _ _ _ w)) ?_
 refine jT 8 rfl (Yl.move rfl) ?_
 refine jT 9 rfl (Yl.bin rfl rfl (fun w => run_shrU (a := x) (k := 8) (by decide) _ _ _ w)) ?_
 refine jT 10 rfl (Yl.bin rfl rfl (fun w => run_and (a := x >>> 8) (b := 255) s8 (by decide) _ _ _ w)) ?_
 refine jT 11 rfl (Yl.indexS (m := popL) (i := (x >>> 8 &&& 255)) F.und9 rfl rfl p3) ?_
 refine jT 12 rfl (Yl.bin rfl rfl (fun w => run_add8 (a := c1.toNat + c2.toNat) (b := c3.toNat) (by omega) _ _ _ w)) ?_
 refine jT 13 rfl (Yl.move rfl) ?_
 refine jT 14 rfl (Yl.bin rfl rfl (fun w => run_and (a := x) (b := 255) hx (by decide) _ _ _ w)) ?_
 refine jT 15 rfl (Yl.indexS (m := popL) (i := (x &&& 255)) F.und9 rfl rfl p4) ?_
 refine jT 16 rfl (Yl.bin rfl rfl (fun w => run_add8 (a := c1.toNat + c2.toNat + c3.toNat) (b := c4.toNat) (by omega) _ _ _ w)) ?_
 refine jT 17 rfl (Yl.convert rfl (v := .int .i64 ((c1.toNat + c2.toNat + c3.toNat + c4.toNat : Nat) : Int)) (fun w => conv8 (by omega) w)) ?_
 refine jT 18 rfl (Yl.assign rfl) ?_
 refine jD ?_
 refine jN 2 ?_
 exact WQ.ret (rs := [.tmp 2]) rfl (.tmp rfl .nil) (fun w hS => ⟨by rw [popN_32,← q1,← q2,← q3,← q4]; rfl,hS⟩)
end Go.Proofs.YtkgllhkhdjodeaaGreat
