/- Parts of the walk, put together by a program. By an AI agent. -/
import Derived.Test.YtkgllhkhdjodeaaGreatPaFormulaSets2
import Derived.Scope
import Derived.ChangeStays
import Derived.ChangeOld
import Derived.Deep.Strs
import Derived.Deep.Matrix
import Derived.SliceStrings
import Derived.MapKept
import Derived.WideMake
import Derived.ChangeKeysEq
import Derived.WideKeyRuns
set_option linter.unusedSimpArgs false
set_option linter.unusedVariables false
namespace Go.Eng
open Go Go.RowKit
section
variable {P : Program} {w0 : World} {O : List Nat} {Q : Exit → Act → World → Prop} {N : Nat} {D : List Deferred} {L : FL} {C : List Chunk}
theorem WC.scope {c : Code} (h : WC P w0 O c (Exit.noGoto Q) N D L C) : WC P w0 O (.scope c) Q N D L C := fun a w hF hS => wp_scope_straight (h a w hF hS)
theorem WQ.scope_ret (h : WQ w0 O Q .ret N D L C) : WQ w0 O (Exit.noGoto Q) .ret N D L C := h
def stepsC (F : List Nat) (vs : List Value) (ss : List (List Int)) : Chunk where
 fp k := k ∈ F
 ok w := vs.length = ss.length ∧ ∀ (i : Nat) (c : List Int) (u : Value),ss[i]? = some c → vs[i]? = some u → ∃ (a1 : Option Addr) (cap : Nat),u = Value.slice a1 c.length cap ∧ ∀ (j : Nat) (x : Int),c[j]? = some x → ∃ b,a1 = some ⟨b,0,none⟩ ∧ b ∈ F ∧ w.cell? ⟨b,j,none⟩ = some (.int .i64 x)
 loc w w' h hw := ⟨hw.1,fun i c u hc hu => by
  obtain ⟨a1,cap,h1,h2⟩ := hw.2 i c u hc hu
  refine ⟨a1,cap,h1,fun j x hx => ?_⟩
  obtain ⟨b,hb1,hb2,hb3⟩ := h2 j x hx
  exact ⟨b,hb1,hb2,by rw [World.cell?_of_block (w := w) (w' := w') (a := ⟨b,j,none⟩) (h b hb2)]; exact hb3⟩⟩
theorem St.stepsNil {w : World} (h : St w0 O C w) : St w0 O (stepsC [] [] [] :: C) w :=
 ⟨h.os,h.tape,h.output,h.size,h.old,fun x hx => by
  rcases List.mem_cons.1 hx with rfl | hx
  ·exact ⟨rfl,fun i c u hc _ => by simp at hc⟩
  ·exact h.ok x hx,fun x hx k hk => by
  rcases List.mem_cons.1 hx with rfl | hx
  ·cases hk
  ·exact h.bnd x hx k hk,List.Pairwise.cons (fun x hx k hk => by cases hk) h.disj⟩
theorem St.stepsSnoc {w : World} {F : List Nat} {vs : List Value} {ss : List (List Int)} {b : Nat} {c : List Int} {e : TypeId} (h : St w0 O (stepsC F vs ss :: pt b (c.map (Value.int .i64)) e :: C) w) :
  St w0 O (stepsC (b :: F) (vs ++ [.slice (some ⟨b,0,none⟩) c.length c.length]) (ss ++ [c]) :: C) w :=
 h.join (fun k hk => by
  rcases List.mem_cons.1 hk with rfl | hk
  ·exact .inr rfl
  ·exact .inl hk) (fun hc hd _ => by
  obtain ⟨h1,h2⟩ := hc
  have hd' : w.heap[b]? = some (.cells (c.map (Value.int .i64)).toArray e (0,0)) := hd
  refine ⟨by simp [h1],fun i c' u hc' hu => ?_⟩
  by_cases hi : i < ss.length
  ·rw [List.getElem?_append_left hi] at hc'
   rw [List.getElem?_append_left (by omega)] at hu
   obtain ⟨a1,cap,h3,h4⟩ := h2 i c' u hc' hu
   refine ⟨a1,cap,h3,fun j x hx => ?_⟩
   obtain ⟨g,hg1,hg2,hg3⟩ := h4 j x hx
   exact ⟨g,hg1,List.mem_cons_of_mem _ hg2,hg3⟩
  ·rw [List.getElem?_append_right (by omega)] at hc'
   rw [List.getElem?_append_right (by omega)] at hu
   have h0 : i - ss.length = 0 := by
    have := (List.getElem?_eq_some_iff.1 hc').1
    simp at this; omega
   rw [h0] at hc'
   rw [h1,h0] at hu
   simp at hc' hu
   subst hc'; subst hu
   refine ⟨_,_,rfl,fun j x hx => ⟨b,rfl,List.mem_cons_self ..,?_⟩⟩
   simp [World.cell?,hd',hx])
end
end Go.Eng
namespace Go.Proofs.YtkgllhkhdjodeaaGreat
open Go Go.Eng Go.Proofs
theorem RdLL.join {w0 w : World} {C : List Chunk} {ls ss : List (List Int)} {a aa : Option Addr} {us vs hs : List Value} {F : List Nat} {n cap : Nat} (h : RdLL w0 ls a us) (hS : St w0 [] C w) (hhs : hs = us ++ vs) (hn : n = ls.length + ss.length)
  (h1 : rowc (.slice aa n cap) n 41 1 hs ∈ C) (h2 : stepsC F vs ss ∈ C) : RdLL w (ls ++ ss) aa hs := by
 have hn' := h.next hS
 have ho1 := hS.ok _ h1
 have ho2 := hS.ok _ h2
 obtain ⟨hv1,hv2⟩ := (show vs.length = ss.length ∧ _ from ho2)
 refine ⟨by rw [hhs,List.length_append,List.length_append,h.len,hv1],fun i u hu => ?_,fun i c u hc hu => ?_⟩
 ·have hpos : 0 < n := by
   have := (List.getElem?_eq_some_iff.1 hu).1
   rw [hhs,List.length_append,h.len,hv1] at this
   omega
  obtain ⟨g,hg,_,_⟩ := rowc_addr ho1 hpos
  subst hg
  exact ⟨g,0,rfl,by rw [Nat.zero_add]; exact rowc_cell ho1 hu⟩
 subst hhs
 by_cases hi : i < ls.length
 ·rw [List.getElem?_append_left hi] at hc
  rw [List.getElem?_append_left (by rw [h.len]; exact hi)] at hu
  exact hn'.rd i c u hc hu
 rw [List.getElem?_append_right (by omega)] at hc
 rw [List.getElem?_append_right (by rw [h.len]; omega),h.len] at hu
 obtain ⟨a1,cap1,h3,h4⟩ := hv2 _ c u hc hu
 refine ⟨a1,cap1,h3,fun j x hx => ?_⟩
 obtain ⟨b,hb1,_,hb3⟩ := h4 j x hx
 exact ⟨b,0,hb1,by rw [Nat.zero_add]; exact hb3⟩
end Go.Proofs.YtkgllhkhdjodeaaGreat
namespace Go.Eng
open Go Go.RowKit
section
variable {P : Program} {w0 : World} {O : List Nat} {ops : Array Oper} {Q : Exit → Act → World → Prop} {N : Nat} {D : List Deferred} {L : FL} {C : List Chunk} {K : Act → World → Prop}
def FactsOk (w0 : World) (O : List Nat) (L : FL) (C : List Chunk) (Fs : List (List Nat × (World → Prop))) : Prop := ∀ w,St w0 O C w → ∀ f ∈ Fs,f.2 w
def LoadOk (w0 : World) (O : List Nat) (L : FL) (C : List Chunk) (Y : World → Prop) : Prop := ∀ w,St w0 O C w → Y w
theorem FactsOk.nil : FactsOk w0 O L C [] := fun w hS f hf => by cases hf
theorem FactsOk.cons {ds : List Nat} {Y : World → Prop} {Fs : List (List Nat × (World → Prop))} (h : LoadOk w0 O L C Y) (hr : FactsOk w0 O L C Fs) : FactsOk w0 O L C ((ds,Y) :: Fs) := fun w hS f hf => by
 rcases List.mem_cons.1 hf with rfl | hf
 ·exact h w hS
 ·exact hr w hS f hf
theorem LoadOk.one {t b off : Nat} {cs : List Value} {e : TypeId} {v : Value} (hl : lk L t = some (.pointer (some ⟨b,0,none⟩))) (hm : pt b cs e ∈ C) (hv : cs[off]? = some v) : LoadOk w0 O L C (fun w => w.cell? ⟨b,off,none⟩ = some v) :=
 fun w hS => hS.cell hm hv
theorem LoadOk.whole {t b : Nat} {cs : List Value} {e : TypeId} (hl : lk L t = some (.pointer (some ⟨b,0,none⟩))) (hm : pt b cs e ∈ C) : LoadOk w0 O L C (fun w => ∀ j v,cs[j]? = some v → w.cell? ⟨b,0 + j,none⟩ = some v) :=
 fun w hS j v hv => by rw [Nat.zero_add]; exact hS.cell hm hv
theorem LoadOk.by {Y : World → Prop} (h : ∀ w,St w0 O C w → Y w) : LoadOk w0 O L C Y := h
theorem WC.drawsL {id : Nat} {l : List Oper} {Fs : List (List Nat × (World → Prop))} (hm : P.follows .mixedOrders = true) (hF : FactsOk w0 O L C Fs)
  (h : WD P w0 O l.toArray Q Fs l.length (Array.replicate l.length false) N D L C) : WC P w0 O (.region id l.toArray true) Q N D L C := WC.draws Fs hm hF h
theorem WQ.say {e : Exit} (i : Nat) (v : Value) (hv : lk L i = some v) (h : WQ w0 O Q e N D ((i,v) :: L) C) : WQ w0 O Q e N D L C := fun a w hF hS => h a w (hF.shadow hv) hS
end
end Go.Eng
namespace Fm
open Go Go.Eng
mutual
def rowT : Tree → List Tree
 | .mk op name kids => .mk op name kids :: rowL kids
def rowL : List Tree → List Tree
 | [] => []
 | k :: ks => rowT k ++ rowL ks
end
mutual
def levT : Tree → Nat
 | .mk _ _ kids => levL kids + 1
def levL : List Tree → Nat
 | [] => 0
 | k :: ks => max (levT k) (levL ks)
end
end Fm
namespace Go.Eng
open Go Go.RowKit
structure Ext (wb w : World) : Prop where
 size : wb.heap.size ≤ w.heap.size
 old : ∀ k,k < wb.heap.size → w.heap[k]? = wb.heap[k]?
theorem Ext.cell {wb w : World} (h : Ext wb w) {p : Addr} {v : Value} (hc : wb.cell? p = some v) : w.cell? p = some v := by
 have := h.old p.block (World.block_lt_of_cell? wb p hc)
 rw [World.cell?_of_block (w := wb) (w' := w) this]; exact hc
section
variable {P : Program} {w0 : World} {O : List Nat} {ops : Array Oper} {Q : Exit → Act → World → Prop} {N : Nat} {D : List Deferred} {L : FL} {C : List Chunk} {K : Act → World → Prop}
variable {d : Nat} {ty : TypeId} {pos : String} {af : Array Edge}
theorem Yl.maxI {F : World → Prop} {x y : Operand} {k k' : IntKind} {m n : Int} {ts : Array TypeId} (hx : ev L x = some (.int k m)) (hy : ev L y = some (.int k' n)) :
  Yl P N D L F ⟨some d,.call { callee := .builtin .max,args := #[x,y],argTypes := ts },ty,pos,af,none⟩ (.int k (if n > m then n else m)) := fun a w hF _ => by
 simp [execOp,resolve,invoke,builtin,hF.ev hx,hF.ev hy,Builtin.max_,Builtin.max2]
theorem WL.maxI {x y : Operand} {k k' : IntKind} {m n r : Int} {ts : Array TypeId} (hd : Nat.blt d N = true) (hx : ev L x = some (.int k m)) (hy : ev L y = some (.int k' n)) (hr : (if n > m then n else m) = r)
  (h : WA w0 O K N D ((d,.int k r) :: L) C) :
  WK P w0 O ops Q ⟨some d,.call { callee := .builtin .max,args := #[x,y],argTypes := ts },ty,pos,af,none⟩ K N D L C := by
 subst hr
 exact WL.y (F := fun _ => True) (Yl.maxI hx hy) hd (fun _ _ => trivial) h
theorem rowc_cells {w : World} {g n cap sz : Nat} {e : TypeId} {xs : List Value} {j : Nat} {u : Value} (h : (rowc (.slice (some ⟨g,0,none⟩) n cap) n e sz xs).ok w) (hu : xs[j]? = some u) : w.cell? ⟨g,j,none⟩ = some u := by
 have := (show w.ownsRow 0 e sz (.slice (some ⟨g,0,none⟩) n cap) n xs from h).cells (g := g) rfl j u hu
 rwa [add_blk,Nat.zero_add] at this
end
end Go.Eng
namespace Fm
open Go Go.Eng
end Fm
namespace Go.Proofs.YtkgllhkhdjodeaaGreat
open Go Go.Eng Go.Proofs Go.ChangeShapes Go.WideShapes Go.ChangeAt Go.RowKit Go.ChangeMaps
def slicesPos (P : Program) : Bool := (List.range P.types.size).all fun t => match P.underlying t with
 | some (.slice e) => decide (0 < P.cellsOf e)
 | _ => true
theorem slices_pos {P : Program} (h : slicesPos P = true) {t e : TypeId} (ht : t < P.types.size) (hu : P.underlying t = some (.slice e)) : 0 < P.cellsOf e := by
 have := List.all_eq_true.1 h t (List.mem_range.2 ht)
 rw [hu] at this
 simpa using this
theorem try_laid : laidOutB Tryz.prog = true := by kernel_rfl
theorem try_maps : mapsRowed Tryz.prog = true := by kernel_rfl
theorem try_slices : slicesPos Tryz.prog = true := by kernel_rfl
theorem St.same {w w' : World} {C : List Chunk} (h : St w [] C w') (p : MemPlace) (hp : p.block < w.heap.size) : w.sameAt w' p := by
 have := h.old p.block hp (by simp)
 cases p with
 | cell b off => exact World.cell?_of_block (w := w) (w' := w') (a := ⟨b,off,none⟩) this
 | map b => exact this
theorem args_again {H : Type} {enc : TypeId × Value → H} {W W' : World} {C : List Chunk} (hS : St W [] C W') : ∀ {ts : List TypeId} {vs : List Value} {ds : List (DataW H)} {p : List MemPlace},(∀ t ∈ ts,t < Tryz.prog.types.size) →
  DataW.TrodAll enc Tryz.prog W 0 (fun _ => true) true ts vs ds p → DataW.TrodAll enc Tryz.prog W' 0 (fun b => decide (b < W.heap.size)) true ts vs ds p
 | [],_,_,_,_,h => by
  obtain ⟨rfl,rfl,rfl⟩ := trodAll_nil h
  exact trodAll_mk0
 | t :: ts,_,_,_,ht,h => by
  obtain ⟨v,vs1,d,ds1,a,b,rfl,rfl,rfl,h1,h2⟩ := trodAll_cons h
  refine ⟨a,b,?_,args_again hS (fun t' h' => ht t' (List.mem_cons_of_mem _ h')) h2,rfl⟩
  obtain ⟨n,hn⟩ := h1
  have hlt := DataW.trod_lt n t _ _ hn
  exact ⟨n,DataW.trod_stays (kids_rows try_laid try_maps) (fun h hu => slices_pos try_slices h hu) (fun h => by cases h) (ht t (List.mem_cons_self ..)) hn (fun p hp => St.same hS p (hlt p hp)) (fun p hp => by simpa using hlt p hp)⟩
theorem law_post' {H : Type} {enc : TypeId × Value → H} {f : Func} {s : ChangeSpec} {W W' : World} {args : Array Value} {ds : List (DataW H)} {before : List MemPlace} (hrt : f.resultTypes = #[4]) (hps : ∀ t ∈ f.params.toList,t < Tryz.prog.types.size) (hv : s.vars = [])
  (hW : DataW.Whole enc Tryz.prog f.params.toList s.vars false W args.toList ds [] before)
  (hr : (s.fn H ds).results = [.lit (.bool true)]) (ha : (s.fn H ds).args = ds) (hvs : (s.fn H ds).vars = []) (hS : St W [] [] W') :
  s.post enc Tryz.prog f false true false false W args (.bool true) W' := by
 have hW' := hW
 obtain ⟨p,q,hA,hV,rfl,_,_⟩ := hW
 refine ⟨ds,[],p ++ q,[],p,[],hW',?_,?_,?_,St.kept hS,fun h => by cases h⟩
 ·rw [List.append_nil,hr,hrt]
  exact trodAll_mk1 ⟨1,by simp [DataW.trod,Value.cells]⟩
 ·rw [List.append_nil,ha]
  exact args_again hS hps hA
 rw [List.append_nil,hvs,hv]
 rfl
theorem und25 : Tryz.prog.underlying 24 = some (.struct #[⟨"Op", 5, 0, false, "", "", 0⟩, ⟨"Name", 9, 1, false, "", "", 8⟩, ⟨"Kids", 22, 2, false, "", "", 24⟩]) := by kernel_rfl
theorem cells5 : Tryz.prog.cellsOf 5 = 1 := by kernel_rfl
theorem cell_spot {w : World} {a : Addr} {u : Value} (h : w.cell? a = some u) : a.spot = none := by
 unfold World.cell? at h
 split at h
 ·split at h
  ·cases h
  rename_i hs
  cases hh : a.spot with
  | none => rfl
  | some x => rw [hh] at hs; simp at hs
 cases h
section
variable {H : Type} {enc : TypeId × Value → H} {W : World} {base : Nat} {held : Bool}
theorem rdC_of {c : List Int} {a : Addr} (h : ∀ i,i < c.length → W.cell? (a.add i) = some (.int .i64 (c.getD i 0))) : RdC W c (some a) := by
 intro j x hx
 have hlt := (List.getElem?_eq_some_iff.1 hx).1
 have h1 := h j hlt
 have hs := cell_spot (h 0 (by omega))
 have ha0 : a.add 0 = a := by simp [Addr.add]
 rw [ha0] at hs
 obtain ⟨b,off,spot⟩ := a
 simp only at hs
 subst hs
 rw [add_blk] at h1
 refine ⟨b,off,rfl,?_⟩
 rw [h1,List.getD_eq_getElem?_getD,hx]; rfl
end
open Go Go.Eng Go.Proofs Go.ChangeShapes Go.WideShapes Go.ChangeAt Go.RowKit Go.ChangeMaps
open Go Go.Eng Go.Proofs
theorem Clone_c (ls : List (List Int)) (a : Option Addr) (cap : Nat) (us : List Value) (hlen : ls.length ≤ 1099511627776) (ha : a = none ∨ ∃ b off,a = some ⟨b,off,none⟩) (w : World) (hr : RdLL w ls a us) :
  Calls Tryz.prog 77 [.slice a ls.length cap].toArray w fun e w' => ∃ x : Option Addr × Nat,e = .returned (.slice x.1 ls.length x.2) ∧ St w [] [rowc (.slice x.1 ls.length x.2) ls.length 41 1 us] w' := by
 refine enter Tryz.func77 rfl Tryz.ntmps77 rfl (St.init _) ?_
 refine jN 8 ?_
 rcases ha with rfl | ⟨b,off,rfl⟩
 ·have hus : us = [] := by
   cases us with
   | nil => rfl
   | cons u r =>
    obtain ⟨b,off,h1,_⟩ := hr.hd 0 u rfl
    cases h1
  have hl0 : ls = [] := by (have := hr.len; rw [hus] at this; exact List.eq_nil_of_length_eq_zero this.symm)
  subst hus; subst hl0
  refine jN 4 ?_
  refine WL.bin rfl rfl rfl (v := .bool true) (fun w => by kernel_rfl) ?_
  refine jN 11 ?_
  exact WQ.ret (rs := [.tmp 2]) rfl (.tmp rfl .nil) (fun w hS => ⟨(none,0),rfl,hS.rowNil 41 1⟩)
 refine jN 4 ?_
 refine WL.bin rfl rfl rfl (v := .bool false) (fun w => by kernel_rfl) ?_
 refine jN 8 ?_
 refine WL.buildSlice0 F.sl52 rfl (fun b5 => ?_)
 refine WA.chunks (fun w hS => hS.rowOf (n := 0) (sz := 1) rfl (by decide)) ?_
 refine jN 3 ?_
 refine WL.appendE (news := us) F.el52 rfl rfl rfl jR (fun w hS i u hu => ?_) (by rw [hr.len,Nat.mul_one]) (fun u hu => ?_) (Nat.le_trans (m := 1099511627776) (by omega) (by decide)) (by omega) (fun a2 cap2 => ?_)
 ·obtain ⟨b2,off2,h1,h2⟩ := hr.hd i u hu
  injection h1 with h1
  injection h1 with h1 h3
  subst h1; subst h3
  exact hS.oldc h2 (by simp)
 ·obtain ⟨i,hi,he⟩ := List.getElem_of_mem hu
  have h1 : us[i]? = some u := by rw [List.getElem?_eq_getElem hi,he]
  have h2 : ls[i]? = some (ls[i]'(by rw [← hr.len]; exact hi)) := List.getElem?_eq_getElem _
  obtain ⟨a1,c1,h3,_⟩ := hr.rd i _ u h2 h1
  subst h3
  rfl
 refine jN 5 ?_
 refine WQ.ret (rs := [.tmp 2]) rfl (.tmp rfl .nil) (fun w hS => ⟨(a2,cap2),?_,?_⟩)
 ·simp [tup]
 simpa using hS
theorem passK_KB : ∀ {ls : List (List Int)} {k : Fm.Kn} {ag : Bool},KB k → (∀ c ∈ ls,∀ x ∈ c,Lit x) → (∀ k',Fm.passK ls k ag = .inl k' → KB k') ∧ (∀ k' b,Fm.passK ls k ag = .inr (k',b) → KB k')
 | [],k,ag,hk,_ => ⟨fun k' h => by simp [Fm.passK] at h,fun k' b h => by simp only [Fm.passK,Sum.inr.injEq,Prod.mk.injEq] at h; rw [← h.1]; exact hk⟩
 | c :: cs,k,ag,hk,hl => by
  have hcs : ∀ c ∈ cs,∀ x ∈ c,Lit x := fun c' h => hl c' (List.mem_cons_of_mem _ h)
  simp only [Fm.passK]
  split
  ·exact ⟨fun k' h => by injection h with h; rw [← h]; exact hk,fun k' b h => by cases h⟩
  split
  ·exact ⟨fun k' h => by injection h with h; rw [← h]; exact hk,fun k' b h => by cases h⟩
  split
  ·rename_i h1 h2 h3
   have hx : Lit (Fm.unitK k c).1 := by
    rcases unitG_mem (x := (Fm.unitK k c).1) (c := c) (op := 0) (k := k) (by have := h3; unfold Fm.unitK at this ⊢; rw [← this]) with h0 | h0
    ·exfalso
     apply h2
     rw [h3,h0]; rfl
    ·exact hl c (List.mem_cons_self ..) _ h0
   exact passK_KB (hk.with hx) hcs
  ·exact passK_KB hk hcs
theorem closedF_KB : ∀ {f : Nat} {ls : List (List Int)} {k k' : Fm.Kn} {b : Bool},KB k → (∀ c ∈ ls,∀ x ∈ c,Lit x) → Fm.closedF f ls k = some (k',b) → KB k'
 | 0,ls,k,k',b,_,_,h => by simp [Fm.closedF] at h
 | f + 1,ls,k,k',b,hk,hl,h => by
  have hp := passK_KB (ag := false) hk hl
  simp only [Fm.closedF] at h
  split at h
  ·rename_i k2 h2
   simp only [Option.some.injEq,Prod.mk.injEq] at h
   rw [← h.1]; exact hp.1 _ h2
  ·rename_i k2 b2 h2
   split at h
   ·exact closedF_KB (hp.2 _ _ h2) hl h
   ·simp only [Option.some.injEq,Prod.mk.injEq] at h
    rw [← h.1]; exact hp.2 _ _ h2
theorem solveF_true {n f : Nat} {all proof : List (List Int)} {path : List Int} : Fm.solveF n (f + 1) true all path proof = match path.getLast? with
  | none => some ⟨false,0,proof ++ [path.map (fun x => -x)]⟩
  | some last => if last < 0 then Fm.solveF n f false (all ++ [path.map (fun x => -x)]) (path.dropLast ++ [-last]) (proof ++ [path.map (fun x => -x)]) else Fm.solveF n f true (all ++ [path.map (fun x => -x)]) path.dropLast (proof ++ [path.map (fun x => -x)]) := rfl
structure SG where
 f : Nat
 path : List Int
 ss : List (List Int)
 vs : List Value
 hs : List Value
 ps : List Value
 F : List Nat
 aa : Option Addr
 pa : Option Addr
 ta : Option Addr
 ca : Nat
 pc : Nat
 tc : Nat
 nA : Nat
 nP : Nat
 nT : Nat
structure SInv (n : Nat) (ls : List (List Int)) (us : List Value) (r : Fm.Ans) (mode : Bool) (g : SG) : Prop where
 sol : Fm.solveF n g.f mode (ls ++ g.ss) g.path g.ss = some r
 hhs : g.hs = us ++ g.vs
 hps : g.ps = g.path.map (Value.int .i64)
 hA : g.nA = ls.length + g.ss.length
 hP : g.nP = g.ss.length
 hT : g.nT = g.path.length
 lit : ∀ x ∈ g.path,x ≠ 0 ∧ -24 ≤ x ∧ x ≤ 24
 slit : ∀ c ∈ g.ss,∀ x ∈ c,Lit x
 slen : ∀ c ∈ g.ss,c.length ≤ 1099511627776
 bp : g.path.length + g.f ≤ 1073741824
 bs : g.ss.length + g.f ≤ 1073741824
def stepAt (path : List Int) (i : Nat) : List Value := ((path.map (fun x => -x)).take i).map (Value.int .i64) ++ List.replicate (path.length - i) (.int .i64 0)
theorem stepAt_len {path : List Int} {i : Nat} (h : i ≤ path.length) : (stepAt path i).length = path.length := by
 simp [stepAt]; omega
theorem stepAt_set {path : List Int} {i : Nat} {x : Int} (h : path[i]? = some x) : (stepAt path i).set i (.int .i64 (-x)) = stepAt path (i + 1) := by
 have hi := (List.getElem?_eq_some_iff.1 h).1
 have hl : (((path.map (fun x => -x)).take i).map (Value.int .i64)).length = i := by simp; omega
 unfold stepAt
 rw [List.set_append_right _ _ (by omega),hl,Nat.sub_self,List.take_add_one,List.map_append]
 have hg : (path.map (fun x => -x))[i]? = some (-x) := by simp [h]
 rw [hg]
 have hr : path.length - i = (path.length - (i + 1)) + 1 := by omega
 rw [hr,List.replicate_succ,List.set_cons_zero]
 simp
theorem stepAt_end {path : List Int} : stepAt path path.length = (path.map (fun x => -x)).map (Value.int .i64) := by
 simp [stepAt]
 rw [List.take_of_length_le (by simp)]
theorem Lit.neg {x : Int} (h : x ≠ 0 ∧ -24 ≤ x ∧ x ≤ 24) : Lit (-x) := ⟨by omega,by omega,by omega⟩
theorem litB_lit {n : Nat} {x : Int} (hn : n ≤ 24) (h : Fm.litB (n : Int) x = true) : Lit x := by
 simp only [Fm.litB,Bool.and_eq_true,Bool.not_eq_true',decide_eq_true_eq,beq_eq_false_iff_ne] at h
 exact ⟨h.1.1,by omega,by omega⟩
theorem may_lit {n : Nat} {ls : List (List Int)} (hn : n ≤ 24) (h : ls.all (Fm.fitsB (n : Int)) = true) : (∀ c ∈ ls,∀ x ∈ c,Lit x) ∧ (∀ c ∈ ls,c.length ≤ 64) := by
 rw [List.all_eq_true] at h
 refine ⟨fun c hc x hx => ?_,fun c hc => ?_⟩
 ·have := h c hc
  simp only [Fm.fitsB,Bool.and_eq_true,List.all_eq_true] at this
  exact litB_lit hn (this.2 x hx)
 have := h c hc
 simp only [Fm.fitsB,Bool.and_eq_true,decide_eq_true_eq] at this
 exact this.1
def SolvePost (w : World) (r : Fm.Ans) (e : Ending) (w' : World) : Prop :=
 ∃ (x : Option Addr × Nat) (F : List Nat) (vs : List Value),e = .returned (.tuple #[.agg #[.bool r.ok,.int .u32 (r.model : Int),.slice x.1 r.proof.length x.2],.int .i64 0]) ∧
  St w [] [rowc (.slice x.1 r.proof.length x.2) r.proof.length 41 1 vs,stepsC F vs r.proof] w'
theorem may_zero {m : Int} {ls : List (List Int)} (h : Fm.mayE m ls = 0) : (0 ≤ m ∧ m ≤ 24) ∧ ls.length ≤ 4096 ∧ ls.all (Fm.fitsB m) = true := by
 unfold Fm.mayE at h
 split at h
 ·cases h
 split at h
 ·cases h
 split at h
 ·rename_i h1 h2 h3
  exact ⟨by omega,by omega,h3⟩
 cases h
theorem stepAt_zero {path : List Int} {k : Nat} (h : k = path.length) : stepAt path 0 = List.replicate k (.int .i64 0) := by
 simp [stepAt,h]
theorem last_at {path : List Int} {x : Int} {k : Nat} (hk : k = path.length) (h : path.getLast? = some x) : path[k - 1]? = some x ∧ 0 < k := by
 subst hk
 rw [List.getLast?_eq_getElem?] at h
 exact ⟨h,by have := (List.getElem?_eq_some_iff.1 h).1; omega⟩
namespace F
theorem info3 : (Tryz.prog.info? 3).map (fun i => (i.zero,i.size,i.bytes)) = some (some (.int .i64 0),1,8) := by kernel_rfl
end F
theorem Solve_c (m : Int) (ls : List (List Int)) (a : Option Addr) (cap : Nat) (us : List Value) (ha : a = none ∨ ∃ b off,a = some ⟨b,off,none⟩) (w : World) (hr : RdLL w ls a us)
  (f0 : Nat) (r : Fm.Ans) (hf0 : f0 ≤ 536870912) (hsol : ∀ n : Nat,m = (n : Int) → Fm.mayE m ls = 0 → Fm.solveF n f0 false ls [] [] = some r) :
  Calls Tryz.prog 31 [.int .i64 m,.slice a ls.length cap].toArray w fun e w' => (Fm.mayE m ls ≠ 0 ∧ e = .returned (.tuple #[.agg #[.bool false,.int .u32 0,.slice none 0 0],.int .i64 (Fm.mayE m ls)]) ∧ St w [] [] w') ∨
   (Fm.mayE m ls = 0 ∧ SolvePost w r e w') := by
 refine enter Tryz.func31 rfl Tryz.ntmps31 rfl (St.init _) ?_
 refine jN 3 ?_
 refine WL.alloc F.zero69 rfl (fun b4 => ?_)
 refine jN 4 ?_
 refine WC.scope ?_
 refine jN 8 ?_
 refine WL.callV F.fun73 rfl rfl (fun w hS => may_c m ls a cap us w (hr.next hS)) ?_
 refine jN 12 ?_
 refine WC.cond rfl (fun h23 => ?_) (fun h23 => ?_)
 ·have hme : Fm.mayE m ls ≠ 0 := by simpa using h23
  refine jN 14 ?_
  refine WQ.scope_ret ?_
  refine WQ.ret (rs := [.cell 4 69,.tmp 5]) rfl (.cellN F.agg69 rfl jM rfl (.tmp rfl .nil)) (fun w hS => .inl ⟨hme,rfl,hS.drop⟩)
 have hme : Fm.mayE m ls = 0 := by simpa using h23
 obtain ⟨hm0,hcount,hall⟩ := may_zero hme
 obtain ⟨n,rfl⟩ : ∃ n : Nat,m = (n : Int) := ⟨m.toNat,by omega⟩
 have hn : n ≤ 24 := by omega
 obtain ⟨hlits,hlens⟩ := may_lit hn hall
 have h := hsol n rfl hme
 refine jN 7 ?_
 refine jC (β := Option Addr × Nat) (res := fun x => .slice x.1 ls.length x.2) (cs := fun x => [rowc (.slice x.1 ls.length x.2) ls.length 41 1 us]) F.fun77 rfl (fun w hS _ => Clone_c ls a cap us (by omega) ha w (hr.next hS)) (fun x27 => ?_)
 refine jN 17 ?_
 refine WC.label ?_
 refine jN 2 ?_
 obtain ⟨a1,c1⟩ := x27
 refine WC.chunks (fun w hS => (hS.rowNil 41 1)) ?_
 refine WC.chunks (fun w hS => (hS.rowNil 3 1)) ?_
 refine WC.chunks (fun w hS => hS.stepsNil) ?_
 refine WC.chunks (C' := [pt b4 [.bool false,.int .u32 0,.slice none 0 0] 69,rowc (.slice a1 ls.length c1) ls.length 41 1 us,rowc (.slice none 0 0) 0 41 1 [],rowc (.slice none 0 0) 0 3 1 [],stepsC [] [] []]) (fun w hS => (St.pick (St.pick (St.pick (St.pick hS (c := rowc (.slice none 0 0) 0 3 1 []) jR) (c := rowc (.slice none 0 0) 0 41 1 []) jR) (c := rowc (.slice a1 ls.length c1) ls.length 41 1 us) jR) (c := pt b4 [.bool false,.int .u32 0,.slice none 0 0] 69) jR)) ?_
 refine WC.loop (α := SG) (SInv n ls us r false) (fun g => [(0,.int .i64 (n : Int)),(4,pp b4),(7,.slice g.aa g.nA g.ca),(8,.slice g.ta g.nT g.tc),(9,.slice g.pa g.nP g.pc)]) (fun g => [pt b4 [.bool false,.int .u32 0,.slice none 0 0] 69,rowc (.slice g.aa g.nA g.ca) g.nA 41 1 g.hs,rowc (.slice g.pa g.nP g.pc) g.nP 41 1 g.vs,rowc (.slice g.ta g.nT g.tc) g.nT 3 1 g.ps,stepsC g.F g.vs g.ss]) (fun g => g.f) (⟨f0,[],[],[],us,[],[],a1,none,none,c1,0,0,ls.length,0,0⟩) ?_ ?_ ?_ ?_
 ·exact ⟨by rw [List.append_nil]; exact h,by rw [List.append_nil],rfl,rfl,rfl,rfl,by simp,by simp,by simp,by simp; omega,by simp; omega⟩
 ·exact ⟨rfl,rfl,rfl,rfl,rfl,trivial⟩
 ·rfl
 rintro ⟨f,path,ss,vs,hs,ps,Fb,aa,pa,ta,ca,pc,tc,nA,nP,nT⟩ hI
 obtain ⟨sol,hhs,hps,hA,hP,hT,hlit,hslit,hslen,hbp,hbs⟩ := hI
 dsimp only at sol hhs hps hA hP hT hlit hslit hslen hbp hbs
 obtain ⟨f,rfl⟩ : ∃ f2,f = f2 + 1 := by cases f with | zero => simp [Fm.solveF] at sol | succ f => exact ⟨f,rfl⟩
 show WC _ _ _ _ _ _ _ [(0,.int .i64 (n : Int)),(4,pp b4),(7,.slice aa nA ca),(8,.slice ta nT tc),(9,.slice pa nP pc)] [pt b4 [.bool false,.int .u32 0,.slice none 0 0] 69,rowc (.slice aa nA ca) nA 41 1 hs,rowc (.slice pa nP pc) nP 41 1 vs,rowc (.slice ta nT tc) nT 3 1 ps,stepsC Fb vs ss]
 simp only [Fm.solveF] at sol
 obtain rfl : nA = (ls ++ ss).length := by rw [hA,List.length_append]
 have hLL : ∀ c ∈ ls ++ ss,∀ x ∈ c,Lit x := by
  intro c hc
  rcases List.mem_append.1 hc with hc | hc
  ·exact hlits c hc
  ·exact hslit c hc
 have hLen : ∀ c ∈ ls ++ ss,c.length ≤ 1099511627776 := by
  intro c hc
  rcases List.mem_append.1 hc with hc | hc
  ·have := hlens c hc; omega
  ·exact hslen c hc
 refine jN 6 ?_
 refine WL.alloc F.zero124 rfl (fun b10 => ?_)
 refine jN 16 ?_
 refine WC.loop (α := Nat × Fm.Kn) (fun g => g.1 ≤ nT ∧ KB g.2 ∧ g.2 = (path.take g.1).foldl Fm.withK (0,0)) (fun g => [(0,.int .i64 (n : Int)),(4,pp b4),(7,.slice aa (ls ++ ss).length ca),(8,.slice ta nT tc),(9,.slice pa nP pc),(10,pp b10),(29,.slice ta nT tc),(30,.int .i64 (nT : Int)),(31,.int .i64 (g.1 : Int))]) (fun g => [pt b10 [.int .u32 (g.2.1 : Int),.int .u32 (g.2.2 : Int)] 124,pt b4 [.bool false,.int .u32 0,.slice none 0 0] 69,rowc (.slice aa (ls ++ ss).length ca) (ls ++ ss).length 41 1 hs,rowc (.slice pa nP pc) nP 41 1 vs,rowc (.slice ta nT tc) nT 3 1 ps,stepsC Fb vs ss]) (fun g => nT - g.1) ((0,(0,0))) ?_ ?_ ?_ ?_
 ·exact ⟨Nat.zero_le _,⟨by decide,by decide⟩,rfl⟩
 ·exact ⟨rfl,rfl,rfl,rfl,rfl,rfl,rfl,rfl,rfl,trivial⟩
 ·rfl
 rintro ⟨i,k⟩ ⟨hi,hk,hke⟩
 dsimp only at hi hk hke
 show WC _ _ _ _ _ _ _ [(0,.int .i64 (n : Int)),(4,pp b4),(7,.slice aa (ls ++ ss).length ca),(8,.slice ta nT tc),(9,.slice pa nP pc),(10,pp b10),(29,.slice ta nT tc),(30,.int .i64 (nT : Int)),(31,.int .i64 (i : Int))] [pt b10 [.int .u32 (k.1 : Int),.int .u32 (k.2 : Int)] 124,pt b4 [.bool false,.int .u32 0,.slice none 0 0] 69,rowc (.slice aa (ls ++ ss).length ca) (ls ++ ss).length 41 1 hs,rowc (.slice pa nP pc) nP 41 1 vs,rowc (.slice ta nT tc) nT 3 1 ps,stepsC Fb vs ss]
 refine jN 7 ?_
 refine WC.cond rfl (fun h32 => ?_) (fun h32 => ?_)
 ·have hlt : i < nT := by simpa using h32
  obtain ⟨x,hx⟩ : ∃ x,path[i]? = some x := ⟨_,List.getElem?_eq_getElem (by omega)⟩
  have hxl := hlit x (List.mem_of_getElem? hx)
  refine WC.know (φ := ∃ g,ta = some ⟨g,0,none⟩ ∧ nT = nT ∧ nT ≤ tc) (fun w hS => rowc_addr (hS.ok (rowc (.slice ta nT tc) nT 3 1 ps) jM) (by omega)) (fun ⟨g,hta,_,_⟩ => ?_)
  subst hta
  refine jN 7 ?_
  refine WL.indexAddr F.sl41 rfl rfl rfl hlt ?_
  refine jN 1 ?_
  refine WL.load1 F.one3 rfl rfl (v := .int .i64 x) (fun w hS => by simpa using rowc_cell (hS.ok (rowc (.slice (some ⟨g,0,none⟩) nT tc) nT 3 1 ps) jM) (u := .int .i64 x) (by rw [hps]; simp [hx])) ?_
  refine jN 10 ?_
  refine WL.callV F.fun78 rfl rfl (fun w _ => with_c k x hk ⟨hxl.1,by omega,by omega⟩ w) ?_
  refine jN 11 ?_
  refine WQ.back ((i + 1,Fm.withK k x)) ?_ ?_ ?_ ?_
  ·exact ⟨by show i + 1 ≤ nT; omega,hk.with ⟨hxl.1,by omega,by omega⟩,by show Fm.withK k x = _; rw [List.take_add_one,hx,List.foldl_append,← hke]; rfl⟩
  ·(show nT - (i + 1) < nT - i; omega)
  ·exact ⟨rfl,rfl,rfl,rfl,rfl,rfl,rfl,rfl,rfl,trivial⟩
  rfl
 have hie : nT = i := by simp at h32; omega
 subst hie
 rw [hT,List.take_length] at hke
 refine jN 6 ?_
 rcases hcl : Fm.closedF 65 (ls ++ ss) k with _ | ⟨k1,ok⟩
 ·rw [← hke,hcl] at sol
  cases sol
 rw [← hke,hcl] at sol
 have hk1 := closedF_KB hk hLL hcl
 refine jN 6 ?_
 refine WL.callV F.fun79 rfl rfl (fun w hS => closed_c (ls ++ ss) aa ca hs k 65 (k1,ok) hk hLL hLen (by simp; omega) w (hr.join hS hhs (by rw [List.length_append]) (n := (ls ++ ss).length) (cap := ca) (F := Fb) (vs := vs) jM jM) hcl) ?_
 refine jN 19 ?_
 refine WC.cond rfl (fun h45 => ?_) (fun h45 => ?_)
 ·have hok : ok = true := h45
  subst hok
  simp only at sol
  refine jN 10 ?_
  refine WC.loop (α := Nat) (fun i => i ≤ n ∧ Fm.openK k1 n = Fm.openK k1 i) (fun i => [(0,.int .i64 (n : Int)),(4,pp b4),(7,.slice aa (ls ++ ss).length ca),(8,.slice ta nT tc),(9,.slice pa nP pc),(10,pp b10),(14,.int .i64 (i : Int))]) (fun _ => [pt b10 [.int .u32 (k1.1 : Int),.int .u32 (k1.2 : Int)] 124,pt b4 [.bool false,.int .u32 0,.slice none 0 0] 69,rowc (.slice aa (ls ++ ss).length ca) (ls ++ ss).length 41 1 hs,rowc (.slice pa nP pc) nP 41 1 vs,rowc (.slice ta nT tc) nT 3 1 ps,stepsC Fb vs ss]) (fun i => i) (n) ?_ ?_ ?_ ?_
  ·exact ⟨Nat.le_refl _,rfl⟩
  ·exact ⟨rfl,rfl,rfl,rfl,rfl,rfl,rfl,trivial⟩
  ·rfl
  rintro i ⟨hi,hop⟩
  refine jN 9 ?_
  refine WC.cond rfl (fun h48 => ?_) (fun h48 => ?_)
  ·have hi0 : 0 < i := by simp at h48; omega
   have hLi : Lit (i : Int) := ⟨by omega,by omega,by omega⟩
   have hLn : Lit (-(i : Int)) := ⟨by omega,by omega,by omega⟩
   have hok2 : Fm.openK k1 i = if !Fm.hasK k1 (i : Int) && !Fm.hasK k1 (-(i : Int)) then i else Fm.openK k1 (i - 1) := by
    obtain ⟨j,rfl⟩ : ∃ j,i = j + 1 := ⟨i - 1,by omega⟩
    simp only [Fm.openK,Nat.add_sub_cancel]
   refine jN 11 ?_
   refine WL.callV F.fun80 rfl rfl (fun w _ => has_c k1 _ hk1 hLi w) ?_
   refine jN 4 ?_
   refine WA.splitB (i := 55) rfl (fun h55 => ?_) (fun h55 => ?_)
   ·refine jN 8 ?_
    refine WL.negI rfl rfl (by omega) ?_
    refine jN 2 ?_
    refine WL.callV F.fun80 rfl rfl (fun w _ => has_c k1 _ hk1 hLn w) ?_
    refine jN 7 ?_
    refine WC.cond rfl (fun h61 => ?_) (fun h61 => ?_)
    ·have hoi : Fm.openK k1 n = i := by rw [hop,hok2,h55,h61]; rfl
     rw [if_neg (by rw [hoi]; omega),hoi] at sol
     refine jN 7 ?_
     refine WL.negI rfl rfl (by omega) ?_
     refine jN 1 ?_
     refine WL.buildSlice F.sl41 F.ez41 rfl rfl rfl rfl jB rfl (fun b65 => ?_)
     refine jN 1 ?_
     refine WL.appendE (news := [.int .i64 (-(i : Int))]) F.el41 rfl rfl rfl jR (fun w hS j u hu => by rw [Nat.zero_add]; exact hS.cell (cs := [.int .i64 (-(i : Int))]) jM hu) rfl jO (Nat.le_trans (m := 1099511627776) (by omega) (by decide)) (by omega) (fun a3 c3 => ?_)
     refine jN 12 ?_
     refine WQ.chunks (C' := [pt b4 [.bool false,.int .u32 0,.slice none 0 0] 69,rowc (.slice aa (ls ++ ss).length ca) (ls ++ ss).length 41 1 hs,rowc (.slice pa nP pc) nP 41 1 vs,rowc (.slice a3 (nT + 1) c3) (nT + 1) 3 1 (ps ++ [.int .i64 (-(i : Int))]),stepsC Fb vs ss]) (fun w hS => (jK hS)) ?_
     refine WQ.back (⟨f,path ++ [-(i : Int)],ss,vs,hs,ps ++ [.int .i64 (-(i : Int))],Fb,aa,pa,a3,ca,pc,c3,(ls ++ ss).length,nP,nT + 1⟩) ?_ ?_ ?_ ?_
     ·exact ⟨sol,hhs,by show ps ++ _ = (path ++ _).map _; rw [hps]; simp,by show (ls ++ ss).length = _; rw [List.length_append],hP,by show nT + 1 = (path ++ [_]).length; rw [hT]; simp,by intro x hx; rcases List.mem_append.1 hx with hx | hx; exact hlit x hx; simp at hx; subst hx; exact ⟨by omega,by omega,by omega⟩,hslit,hslen,by show (path ++ [_]).length + f ≤ _; simp; omega,by show ss.length + f ≤ _; omega⟩
     ·exact Nat.lt_succ_self f
     ·exact ⟨rfl,rfl,rfl,rfl,rfl,trivial⟩
     rfl
    have hop2 : Fm.openK k1 n = Fm.openK k1 (i - 1) := by rw [hop,hok2,h55,h61]; rfl
    refine jN 11 ?_
    obtain ⟨i,rfl⟩ : ∃ i2,i = i2 + 1 := ⟨i - 1,by omega⟩
    rw [show (((i + 1 : Nat) : Int) - 1) = (i : Int) by omega]
    refine WQ.back (i) ?_ ?_ ?_ ?_
    ·exact ⟨by omega,hop2⟩
    ·omega
    ·exact ⟨rfl,rfl,rfl,rfl,rfl,rfl,rfl,trivial⟩
    rfl
   have hop2 : Fm.openK k1 n = Fm.openK k1 (i - 1) := by rw [hop,hok2,h55]; rfl
   refine jN 26 ?_
   obtain ⟨i,rfl⟩ : ∃ i2,i = i2 + 1 := ⟨i - 1,by omega⟩
   rw [show (((i + 1 : Nat) : Int) - 1) = (i : Int) by omega]
   refine WQ.back (i) ?_ ?_ ?_ ?_
   ·exact ⟨by omega,hop2⟩
   ·omega
   ·exact ⟨rfl,rfl,rfl,rfl,rfl,rfl,rfl,trivial⟩
   rfl
  have hi0 : i = 0 := by simp at h48; omega
  subst hi0
  have hop0 : Fm.openK k1 n = 0 := hop
  rw [if_pos hop0] at sol
  injection sol with sol
  refine jN 24 ?_
  refine WQ.scope_ret ?_
  refine WQ.ret (rs := [.cell 4 69,.tmp 5]) rfl (.cellN F.agg69 rfl jM rfl (.tmp rfl .nil)) (fun w hS => .inr ⟨hme,(none,0),[],[],?_,?_⟩)
  ·rw [← sol]; rfl
  rw [← sol]; exact (((hS.sublist (List.nil_sublist _)).stepsNil).rowNil 41 1)
 have hok : ok = false := h45
 subst hok
 simp only at sol
 refine jN 3 ?_
 obtain ⟨fo,hfo0⟩ : ∃ fo,fo = f := ⟨_,rfl⟩
 refine WC.chunks (C' := [pt b4 [.bool false,.int .u32 0,.slice none 0 0] 69,rowc (.slice aa (ls ++ ss).length ca) (ls ++ ss).length 41 1 hs,rowc (.slice pa nP pc) nP 41 1 vs,rowc (.slice ta nT tc) nT 3 1 ps,stepsC Fb vs ss]) (fun w hS => (jK hS)) ?_
 refine WC.loop (α := SG) (fun g => SInv n ls us r true g ∧ g.f ≤ fo) (fun g => [(0,.int .i64 (n : Int)),(4,pp b4),(7,.slice g.aa g.nA g.ca),(8,.slice g.ta g.nT g.tc),(9,.slice g.pa g.nP g.pc)]) (fun g => [pt b4 [.bool false,.int .u32 0,.slice none 0 0] 69,rowc (.slice g.aa g.nA g.ca) g.nA 41 1 g.hs,rowc (.slice g.pa g.nP g.pc) g.nP 41 1 g.vs,rowc (.slice g.ta g.nT g.tc) g.nT 3 1 g.ps,stepsC g.F g.vs g.ss]) (fun g => g.f) (⟨f,path,ss,vs,hs,ps,Fb,aa,pa,ta,ca,pc,tc,(ls ++ ss).length,nP,nT⟩) ?_ ?_ ?_ ?_
 ·exact ⟨⟨sol,hhs,hps,by show (ls ++ ss).length = _; rw [List.length_append],hP,hT,hlit,hslit,hslen,by show path.length + f ≤ _; omega,by show ss.length + f ≤ _; omega⟩,by show f ≤ fo; omega⟩
 ·exact ⟨rfl,rfl,rfl,rfl,rfl,trivial⟩
 ·rfl
 rintro ⟨f,path,ss,vs,hs,ps,Fb,aa,pa,ta,ca,pc,tc,nA,nP,nT⟩ ⟨hI,hfo⟩
 dsimp only at hfo
 obtain ⟨sol,hhs,hps,hA,hP,hT,hlit,hslit,hslen,hbp,hbs⟩ := hI
 dsimp only at sol hhs hps hA hP hT hlit hslit hslen hbp hbs
 obtain ⟨f,rfl⟩ : ∃ f2,f = f2 + 1 := by cases f with | zero => simp [Fm.solveF] at sol | succ f => exact ⟨f,rfl⟩
 show WC _ _ _ _ _ _ _ [(0,.int .i64 (n : Int)),(4,pp b4),(7,.slice aa nA ca),(8,.slice ta nT tc),(9,.slice pa nP pc)] [pt b4 [.bool false,.int .u32 0,.slice none 0 0] 69,rowc (.slice aa nA ca) nA 41 1 hs,rowc (.slice pa nP pc) nP 41 1 vs,rowc (.slice ta nT tc) nT 3 1 ps,stepsC Fb vs ss]
 rw [solveF_true] at sol
 refine jN 8 ?_
 refine WL.makeSlice F.und41 F.info3 rfl rfl rfl rfl (by omega) (by omega) (fun b72 => ?_)
 rw [← stepAt_zero hT]
 refine jN 16 ?_
 refine WC.loop (α := Nat) (fun i => i ≤ nT) (fun i => [(0,.int .i64 (n : Int)),(4,pp b4),(7,.slice aa nA ca),(8,.slice ta nT tc),(9,.slice pa nP pc),(15,.slice (some ⟨b72,0,none⟩) nT nT),(73,.slice ta nT tc),(74,.int .i64 (nT : Int)),(75,.int .i64 (i : Int))]) (fun i => [pt b72 (stepAt path i) 3,pt b4 [.bool false,.int .u32 0,.slice none 0 0] 69,rowc (.slice aa nA ca) nA 41 1 hs,rowc (.slice pa nP pc) nP 41 1 vs,rowc (.slice ta nT tc) nT 3 1 ps,stepsC Fb vs ss]) (fun i => nT - i) (0) ?_ ?_ ?_ ?_
 ·exact Nat.zero_le _
 ·exact ⟨rfl,rfl,rfl,rfl,rfl,rfl,rfl,rfl,rfl,trivial⟩
 ·rfl
 rintro i hi
 refine jN 7 ?_
 refine WC.cond rfl (fun h76 => ?_) (fun h76 => ?_)
 ·have hlt : i < nT := by simpa using h76
  obtain ⟨x,hx⟩ : ∃ x,path[i]? = some x := ⟨_,List.getElem?_eq_getElem (by omega)⟩
  have hxl := hlit x (List.mem_of_getElem? hx)
  refine WC.know (φ := ∃ g,ta = some ⟨g,0,none⟩ ∧ nT = nT ∧ nT ≤ tc) (fun w hS => rowc_addr (hS.ok (rowc (.slice ta nT tc) nT 3 1 ps) jM) (by omega)) (fun ⟨g,hta,_,_⟩ => ?_)
  subst hta
  refine jN 9 ?_
  refine WL.indexAddr F.sl41 rfl rfl rfl hlt ?_
  refine jN 1 ?_
  refine WL.load1 F.one3 rfl rfl (v := .int .i64 x) (fun w hS => by simpa using rowc_cell (hS.ok (rowc (.slice (some ⟨g,0,none⟩) nT tc) nT 3 1 ps) jM) (u := .int .i64 x) (by rw [hps]; simp [hx])) ?_
  refine jN 14 ?_
  refine WL.negI rfl rfl (by omega) ?_
  refine jN 1 ?_
  refine WL.indexAddr F.sl41 rfl rfl rfl hlt ?_
  refine jN 1 ?_
  refine WL.store1 (cs := stepAt path i) (cs' := stepAt path (i + 1)) F.one3 rfl rfl rfl jU (by have h9 := setN_set (stepAt path i) i (.int .i64 (-x)) (by rw [stepAt_len (by omega)]; omega); rw [stepAt_set hx] at h9; simpa using h9) ?_
  refine jN 9 ?_
  refine WQ.back (i + 1) ?_ ?_ ?_ ?_
  ·exact by omega
  ·omega
  ·exact ⟨rfl,rfl,rfl,rfl,rfl,rfl,rfl,rfl,rfl,trivial⟩
  rfl
 have hie : i = nT := by simp at h76; omega
 subst hie
 have hse : stepAt path i = (path.map (fun x => -x)).map (Value.int .i64) := by rw [hT]; exact stepAt_end
 have hcl : (path.map (fun x => -x)).length = i := by simp [hT]
 refine jN 12 ?_
 refine WL.buildSlice F.sl52 F.ez52 rfl rfl rfl rfl jB rfl (fun b88 => ?_)
 refine jN 1 ?_
 refine WL.appendE (news := [Value.slice (some ⟨b72,0,none⟩) i i]) F.el52 rfl rfl rfl jR (fun w hS j u hu => by rw [Nat.zero_add]; exact hS.cell (cs := [Value.slice (some ⟨b72,0,none⟩) i i]) jM hu) rfl jO (Nat.le_trans (m := 1099511627776) (by omega) (by decide)) (by omega) (fun a4 c4 => ?_)
 refine jN 11 ?_
 refine WL.buildSlice F.sl52 F.ez52 rfl rfl rfl rfl jB rfl (fun b92 => ?_)
 refine jN 1 ?_
 refine WL.appendE (news := [Value.slice (some ⟨b72,0,none⟩) i i]) F.el52 rfl rfl rfl jR (fun w hS j u hu => by rw [Nat.zero_add]; exact hS.cell (cs := [Value.slice (some ⟨b72,0,none⟩) i i]) jM hu) rfl jO (Nat.le_trans (m := 1099511627776) (by omega) (by decide)) (by omega) (fun a5 c5 => ?_)
 refine jN 2 ?_
 refine WA.chunks (C' := [pt b4 [.bool false,.int .u32 0,.slice none 0 0] 69,rowc (.slice a5 (nA + 1) c5) (nA + 1) 41 1 (hs ++ [Value.slice (some ⟨b72,0,none⟩) i i]),rowc (.slice a4 (nP + 1) c4) (nP + 1) 41 1 (vs ++ [Value.slice (some ⟨b72,0,none⟩) i i]),rowc (.slice ta i tc) i 3 1 ps,stepsC (b72 :: Fb) (vs ++ [Value.slice (some ⟨b72,0,none⟩) i i]) (ss ++ [(path.map (fun x => -x))])]) (fun w hS => ?_) ?_
 ·rw [hse] at hS
  have h9 := St.stepsSnoc (St.pick (St.pick hS (c := pt b72 ((path.map (fun x => -x)).map (Value.int .i64)) 3) jR) (c := stepsC Fb vs ss) jR)
  rw [hcl] at h9
  exact (jK h9)
 refine jN 13 ?_
 refine WC.cond rfl (fun h96 => ?_) (fun h96 => ?_)
 ·have hp0 : path = [] := List.eq_nil_of_length_eq_zero (by simp at h96; omega)
  subst hp0
  simp only [List.getLast?_nil] at sol
  injection sol with sol
  refine jN 20 ?_
  refine WQ.scope_ret ?_
  refine WQ.ret (rs := [.cell 4 69,.tmp 5]) rfl (.cellN F.agg69 rfl jM rfl (.tmp rfl .nil)) (fun w hS => .inr ⟨hme,(a4,c4),b72 :: Fb,vs ++ [Value.slice (some ⟨b72,0,none⟩) i i],?_,?_⟩)
  ·have hpl : nP + 1 = r.proof.length := by rw [← sol,hP]; simp
   rw [← hpl,← sol]; rfl
  have hpl : nP + 1 = r.proof.length := by rw [← sol,hP]; simp
  have h9 := ((St.pick (St.pick hS (c := stepsC (b72 :: Fb) (vs ++ [Value.slice (some ⟨b72,0,none⟩) i i]) (ss ++ [([] : List Int).map (fun x => -x)])) jR) (c := rowc (.slice a4 (nP + 1) c4) (nP + 1) 41 1 (vs ++ [Value.slice (some ⟨b72,0,none⟩) i i])) jR)).two2
  rw [← hpl,← sol]; exact h9
 have hp0 : path ≠ [] := by (intro h0; rw [h0] at hT; simp at h96 hT; omega)
 obtain ⟨last,hlast⟩ : ∃ x,path.getLast? = some x := ⟨_,List.getLast?_eq_some_getLast hp0⟩
 rw [hlast] at sol
 simp only at sol
 obtain ⟨hli,hpos⟩ := last_at hT hlast
 have hll := hlit last (List.mem_of_getLast? hlast)
 refine WC.know (φ := ∃ g,ta = some ⟨g,0,none⟩ ∧ i = i ∧ i ≤ tc) (fun w hS => rowc_addr (hS.ok (rowc (.slice ta i tc) i 3 1 ps) jM) hpos) (fun ⟨g,hta,_,htc⟩ => ?_)
 subst hta
 have htk : ps.take (i - 1) = path.dropLast.map (Value.int .i64) := by rw [hps,← List.map_take,List.dropLast_eq_take,hT]
 have hslit5 : ∀ c ∈ ss ++ [(path.map (fun x => -x))],∀ x ∈ c,Lit x := by
  intro c hc x hx
  rcases List.mem_append.1 hc with hc | hc
  ·exact hslit c hc x hx
  ·simp only [List.mem_singleton] at hc
   subst hc
   obtain ⟨y,hy,hyx⟩ := List.mem_map.1 hx
   rw [← hyx]; exact Lit.neg (hlit y hy)
 have hslen5 : ∀ c ∈ ss ++ [(path.map (fun x => -x))],c.length ≤ 1099511627776 := by
  intro c hc
  rcases List.mem_append.1 hc with hc | hc
  ·exact hslen c hc
  ·simp only [List.mem_singleton] at hc
   subst hc
   simp; omega
 have hbs5 : (ss ++ [(path.map (fun x => -x))]).length + f ≤ 1073741824 := by simp; omega
 have hdl : path.dropLast.length = i - 1 := by simp [hT]
 refine jN 12 ?_
 refine WA.say 102 (.int .i64 ((i - 1 : Nat) : Int)) (congrArg (fun z => some (Value.int .i64 z)) (show (i : Int) - 1 = ((i - 1 : Nat) : Int) by omega)) ?_
 refine jN 1 ?_
 refine WL.indexAddr F.sl41 rfl rfl rfl (i := i - 1) (by omega) ?_
 refine jN 1 ?_
 refine WL.load1 F.one3 rfl rfl (v := .int .i64 last) (fun w hS => by simpa using rowc_cell (hS.ok (rowc (.slice (some ⟨g,0,none⟩) i tc) i 3 1 ps) jM) (u := .int .i64 last) (by rw [hps]; simp [hli])) ?_
 refine jN 14 ?_
 refine WA.say 108 (.int .i64 ((i - 1 : Nat) : Int)) (congrArg (fun z => some (Value.int .i64 z)) (show (i : Int) - 1 = ((i - 1 : Nat) : Int) by omega)) ?_
 refine jN 1 ?_
 refine WL.y (F := fun _ => True) (Yl.sliceSlTo (n := i - 1) F.sl41 rfl rfl (by omega)) rfl (fun _ _ => trivial) ?_
 refine jN 2 ?_
 refine WA.chunks (fun w hS => (St.rowTake (St.pick hS (c := rowc (.slice (some ⟨g,0,none⟩) i tc) i 3 1 ps) jR) hpos (k := i - 1) (by omega))) ?_
 refine jN 10 ?_
 refine WC.cond rfl (fun h111 => ?_) (fun h111 => ?_)
 ·have hneg : last < 0 := by simpa using h111
  rw [if_pos hneg,List.append_assoc] at sol
  refine jN 7 ?_
  refine WL.negI rfl rfl (by omega) ?_
  refine jN 1 ?_
  refine WL.buildSlice F.sl41 F.ez41 rfl rfl rfl rfl jB rfl (fun b115 => ?_)
  refine jN 1 ?_
  refine WL.appendE (news := [.int .i64 (-last)]) F.el41 rfl rfl rfl jR (fun w hS j u hu => by rw [Nat.zero_add]; exact hS.cell (cs := [.int .i64 (-last)]) jM hu) rfl jO (Nat.le_trans (m := 1099511627776) (by omega) (by decide)) (by omega) (fun a6 c6 => ?_)
  refine jN 9 ?_
  refine WQ.chunks (C' := [pt b4 [.bool false,.int .u32 0,.slice none 0 0] 69,rowc (.slice a5 (nA + 1) c5) (nA + 1) 41 1 (hs ++ [Value.slice (some ⟨b72,0,none⟩) i i]),rowc (.slice a4 (nP + 1) c4) (nP + 1) 41 1 (vs ++ [Value.slice (some ⟨b72,0,none⟩) i i]),rowc (.slice a6 (i - 1 + 1) c6) (i - 1 + 1) 3 1 (ps.take (i - 1) ++ [.int .i64 (-last)]),stepsC (b72 :: Fb) (vs ++ [Value.slice (some ⟨b72,0,none⟩) i i]) (ss ++ [(path.map (fun x => -x))])]) (fun w hS => (jK hS)) ?_
  refine WQ.back (⟨f,path.dropLast ++ [-last],ss ++ [(path.map (fun x => -x))],vs ++ [Value.slice (some ⟨b72,0,none⟩) i i],hs ++ [Value.slice (some ⟨b72,0,none⟩) i i],ps.take (i - 1) ++ [.int .i64 (-last)],b72 :: Fb,a5,a4,a6,c5,c4,c6,nA + 1,nP + 1,i - 1 + 1⟩) ?_ ?_ ?_ ?_
  ·exact ⟨sol,by show hs ++ _ = us ++ (vs ++ _); rw [hhs,List.append_assoc],by show ps.take (i - 1) ++ _ = (path.dropLast ++ _).map _; rw [htk]; simp,by show nA + 1 = ls.length + (ss ++ [_]).length; rw [hA]; simp; omega,by show nP + 1 = (ss ++ [_]).length; rw [hP]; simp,by show i - 1 + 1 = (path.dropLast ++ [_]).length; simp; omega,by intro x hx; rcases List.mem_append.1 hx with hx | hx; exact hlit x ((List.dropLast_sublist path).subset hx); simp at hx; subst hx; exact ⟨by omega,by omega,by omega⟩,hslit5,hslen5,by show (path.dropLast ++ [_]).length + f ≤ _; simp; omega,hbs5⟩
  ·dsimp only; omega
  ·exact ⟨rfl,rfl,rfl,rfl,rfl,trivial⟩
  rfl
 have hneg : ¬ last < 0 := by simpa using h111
 rw [if_neg hneg,List.append_assoc] at sol
 refine jN 2 ?_
 refine WQ.chunks (C' := [pt b4 [.bool false,.int .u32 0,.slice none 0 0] 69,rowc (.slice a5 (nA + 1) c5) (nA + 1) 41 1 (hs ++ [Value.slice (some ⟨b72,0,none⟩) i i]),rowc (.slice a4 (nP + 1) c4) (nP + 1) 41 1 (vs ++ [Value.slice (some ⟨b72,0,none⟩) i i]),rowc (.slice (some ⟨g,0,none⟩) (i - 1) tc) (i - 1) 3 1 (ps.take (i - 1)),stepsC (b72 :: Fb) (vs ++ [Value.slice (some ⟨b72,0,none⟩) i i]) (ss ++ [(path.map (fun x => -x))])]) (fun w hS => (jK hS)) ?_
 refine WQ.back (⟨f,path.dropLast,ss ++ [(path.map (fun x => -x))],vs ++ [Value.slice (some ⟨b72,0,none⟩) i i],hs ++ [Value.slice (some ⟨b72,0,none⟩) i i],ps.take (i - 1),b72 :: Fb,a5,a4,some ⟨g,0,none⟩,c5,c4,tc,nA + 1,nP + 1,i - 1⟩) ?_ ?_ ?_ ?_
 ·exact ⟨⟨sol,by show hs ++ _ = us ++ (vs ++ _); rw [hhs,List.append_assoc],by show ps.take (i - 1) = path.dropLast.map _; exact htk,by show nA + 1 = ls.length + (ss ++ [_]).length; rw [hA]; simp; omega,by show nP + 1 = (ss ++ [_]).length; rw [hP]; simp,by show i - 1 = path.dropLast.length; simp; omega,fun x hx => hlit x ((List.dropLast_sublist path).subset hx),hslit5,hslen5,by show path.dropLast.length + f ≤ _; simp; omega,hbs5⟩,by show f ≤ fo; omega⟩
 ·exact Nat.lt_succ_self f
 ·exact ⟨rfl,rfl,rfl,rfl,rfl,trivial⟩
 rfl
end Go.Proofs.YtkgllhkhdjodeaaGreat
namespace Go.Eng
open Go Go.RowKit
section
variable {P : Program} {w0 : World} {O : List Nat} {ops : Array Oper} {Q : Exit → Act → World → Prop} {N : Nat} {D : List Deferred} {L : FL} {C : List Chunk} {K : Act → World → Prop}
variable {d : Nat} {ty : TypeId} {pos : String} {af : Array Edge}
theorem run_append_zero {t e : TypeId} {sz : Nat} (ht : P.underlying t = some (.slice e)) (hs : sizeB P e = some sz) {a0 a1 : Option Addr} {n cap c : Nat} (hn : n ≤ cap) (w : World) :
  (Builtin.append_ #[t,t] ty #[.slice a1 n cap,.slice a0 0 c]).run P w = .ok (.slice a1 n cap) w := by
 have hf : ∀ a : Option Addr,(Builtin.firstCells sz 0 (.slice a 0 c)).run P w = .ok #[] w := fun a => by
  cases a with
  | none => simp [Builtin.firstCells]
  | some a => simp [Builtin.firstCells,loadCells,loadCellsFrom]
 cases a1 with
 | none => simp [Builtin.append_,run_underlying ht,run_sizeOf hs,Builtin.lenOf,hn,hf]
 | some a1 => simp [Builtin.append_,run_underlying ht,run_sizeOf hs,Builtin.lenOf,hn,hf,storeCells]
theorem WL.appendC {s x : Operand} {t e : TypeId} {sz bytes : Nat} {v : Value} {n m c : Nat} {a0 : Option Addr} {xs news : List Value} {C1 : List Chunk} (hE : ElT P t e sz bytes) (hd : Nat.blt d N = true)
  (hs : ev L s = some v) (hx : ev L x = some (.slice a0 m c)) (hr : Rem (rowc v n e sz xs) C C1)
  (hnews : ∀ w,St w0 O C w → m ≠ 0 → ∃ bx ox,a0 = some ⟨bx,ox,none⟩ ∧ ∀ j u,news[j]? = some u → w.cell? ⟨bx,ox + j,none⟩ = some u) (hl : news.length = m * sz) (h1 : ∀ u ∈ news,u.oneCell' = true)
  (h63 : n + m ≤ maxLen) (hbytes : (n + m) * bytes ≤ 140737488355328)
  (h : ∀ a cap,WA w0 O K N D ((d,.slice a (n + m) cap) :: L) (rowc (.slice a (n + m) cap) (n + m) e sz (xs ++ news) :: C1)) :
  WK P w0 O ops Q ⟨some d,.call { callee := .builtin .append,args := #[s,x],argTypes := #[t,t] },ty,pos,af,none⟩ K N D L C := by
 by_cases hm : m = 0
 ·subst hm
  have hn0 : news = [] := List.eq_nil_of_length_eq_zero (by simpa using hl)
  subst hn0
  intro a w hF hS
  have hS1 := hS.perm hr.perm
  have hown : w.ownsRow 0 e sz v n xs := hS1.ok _ (List.mem_cons_self ..)
  obtain ⟨a',cap',rfl⟩ := ownsRow_slice hown
  have hle : n ≤ cap' := by
   rcases hown.2 with ⟨hv,h0⟩ | ⟨g,cp,cur,hv,_,_,hle,_⟩
   ·injection hv with _ _ h2; omega
   ·injection hv with _ _ h2; omega
  obtain ⟨i,z,h1',h2,h3,h4,h5⟩ := hE.row
  have hrun := run_append_zero (P := P) (ty := ty) (sz := sz) hE.und (by unfold sizeB; rw [h1']; simp [h3]) (a0 := a0) (a1 := a') (c := c) hle w
  have h' := h a' cap'
  simp only [Nat.add_zero,List.append_nil] at h'
  refine wpo_val rfl ?_ (h' _ w (hF.put d _ hd) hS1)
  simp only [execOp,resolve,invoke,builtin,Sem.run_bind,Sem.run_pure,Result.andThen_ok,List.map_toArray,List.map_cons,List.map_nil,hF.ev hs,hF.ev hx,hrun]
 intro a w hF hS
 obtain ⟨bx,ox,rfl,_⟩ := hnews w hS hm
 exact WL.appendE hE hd hs hx hr (fun w hS => by
  obtain ⟨bx',ox',he,hc⟩ := hnews w hS hm
  injection he with he
  injection he with e1 e2
  subst e1; subst e2
  exact hc) hl h1 h63 hbytes h a w hF hS
theorem St.stepsSnocR {w : World} {F : List Nat} {vs : List Value} {ss : List (List Int)} {a : Option Addr} {n cap : Nat} {c : List Int} {e : TypeId} (hn : n = c.length) (h : St w0 O (stepsC F vs ss :: rowc (.slice a n cap) n e 1 (c.map (Value.int .i64)) :: C) w) :
  ∃ F',St w0 O (stepsC F' (vs ++ [.slice a n cap]) (ss ++ [c]) :: C) w := by
 have hok : w.ownsRow 0 e 1 (.slice a n cap) n (c.map (Value.int .i64)) := h.ok (rowc (.slice a n cap) n e 1 (c.map (Value.int .i64))) (by simp)
 have hob : ∃ G : List Nat,(∀ k ∈ G,(rowc (.slice a n cap) n e 1 (c.map (Value.int .i64))).fp k) ∧ ∀ (j : Nat) (x : Int),c[j]? = some x → ∃ b,a = some ⟨b,0,none⟩ ∧ b ∈ G ∧ w.cell? ⟨b,j,none⟩ = some (.int .i64 x) := by
  by_cases h0 : n = 0
  ·refine ⟨[],by simp,fun j x hx => ?_⟩
   have := (List.getElem?_eq_some_iff.1 hx).1
   omega
  ·obtain ⟨g,hg,_,_⟩ := rowc_addr (show (rowc (.slice a n cap) n e 1 (c.map (Value.int .i64))).ok w from hok) (by omega)
   subst hg
   exact ⟨[g],fun k hk => by simp at hk; subst hk; rfl,fun j x hx => ⟨g,rfl,by simp,rowc_cell hok (by simp [hx])⟩⟩
 obtain ⟨G,hG1,hG2⟩ := hob
 refine ⟨F ++ G,h.join (fun k hk => ?_) (fun hc hd _ => ?_)⟩
 ·rcases List.mem_append.1 hk with hk | hk
  ·exact .inl hk
  exact .inr (hG1 k hk)
 obtain ⟨h1,h2⟩ := hc
 refine ⟨by simp [h1],fun i c' u hc' hu => ?_⟩
 by_cases hi : i < ss.length
 ·rw [List.getElem?_append_left hi] at hc'
  rw [List.getElem?_append_left (by omega)] at hu
  obtain ⟨a1,cap1,h3,h4⟩ := h2 i c' u hc' hu
  refine ⟨a1,cap1,h3,fun j x hx => ?_⟩
  obtain ⟨b,hb1,hb2,hb3⟩ := h4 j x hx
  exact ⟨b,hb1,List.mem_append_left _ hb2,hb3⟩
 rw [List.getElem?_append_right (by omega)] at hc'
 rw [List.getElem?_append_right (by omega)] at hu
 have h0 : i - ss.length = 0 := by
  have := (List.getElem?_eq_some_iff.1 hc').1
  simp at this; omega
 rw [h0] at hc'
 rw [h1,h0] at hu
 simp at hc' hu
 subst hc'; subst hu
 refine ⟨a,cap,by rw [hn],fun j x hx => ?_⟩
 obtain ⟨b,hb1,hb2,hb3⟩ := hG2 j x hx
 exact ⟨b,hb1,List.mem_append_right _ hb2,hb3⟩
end
end Go.Eng
namespace Go.Proofs.YtkgllhkhdjodeaaGreat
open Go Go.Eng Go.Proofs
theorem RdC.of_row {w : World} {c : List Int} {a : Option Addr} {n cap : Nat} {e : TypeId} (hn : n = c.length) (h : (rowc (.slice a n cap) n e 1 (c.map (Value.int .i64))).ok w) : RdC w c a := fun j x hx => by
 have hlt := (List.getElem?_eq_some_iff.1 hx).1
 obtain ⟨g,hg,_,_⟩ := rowc_addr h (by omega)
 subst hg
 exact ⟨g,0,rfl,by rw [Nat.zero_add]; exact rowc_cell h (by simp [hx])⟩
theorem RdC.news {w : World} {c : List Int} {a : Option Addr} (h : RdC w c a) (hc : c.length ≠ 0) : ∃ bx ox,a = some ⟨bx,ox,none⟩ ∧ ∀ j u,(c.map (Value.int .i64))[j]? = some u → w.cell? ⟨bx,ox + j,none⟩ = some u := by
 obtain ⟨x,hx⟩ : ∃ x,c[0]? = some x := ⟨c[0]'(by omega),List.getElem?_eq_getElem _⟩
 obtain ⟨b,off,ha,_⟩ := h 0 x hx
 refine ⟨b,off,ha,fun j u hu => ?_⟩
 rw [List.getElem?_map] at hu
 cases hj : c[j]? with
 | none => rw [hj] at hu; simp at hu
 | some y =>
  rw [hj] at hu; simp at hu; subst hu
  obtain ⟨b',off',ha',hc'⟩ := h j y hj
  rw [ha] at ha'
  injection ha' with ha'
  injection ha' with e1 e2
  subst e1; subst e2
  exact hc'
theorem ints_one (c : List Int) : ∀ u ∈ c.map (Value.int .i64),u.oneCell' = true := by
 intro u hu
 obtain ⟨x,_,rfl⟩ := List.mem_map.1 hu
 rfl
theorem RdLL.of_row {w : World} {ls : List (List Int)} {aa : Option Addr} {hs : List Value} {n cap : Nat} (hn : n = ls.length) (hl : hs.length = ls.length) (h : (rowc (.slice aa n cap) n 41 1 hs).ok w)
  (hr : ∀ (i : Nat) (c : List Int) (u : Value),ls[i]? = some c → hs[i]? = some u → ∃ (a1 : Option Addr) (cap : Nat),u = Value.slice a1 c.length cap ∧ RdC w c a1) : RdLL w ls aa hs := by
 refine ⟨hl,fun i u hu => ?_,hr⟩
 have hlt := (List.getElem?_eq_some_iff.1 hu).1
 obtain ⟨g,hg,_,_⟩ := rowc_addr h (by omega)
 subst hg
 exact ⟨g,0,rfl,by rw [Nat.zero_add]; exact rowc_cell h hu⟩
theorem RdLL.made {w : World} {ls : List (List Int)} {aa : Option Addr} {vs : List Value} {F : List Nat} {n cap : Nat} (hn : n = ls.length) (h1 : (rowc (.slice aa n cap) n 41 1 vs).ok w) (h2 : (stepsC F vs ls).ok w) : RdLL w ls aa vs := by
 obtain ⟨hv1,hv2⟩ := (show vs.length = ls.length ∧ _ from h2)
 refine RdLL.of_row hn hv1 h1 fun i c u hc hu => ?_
 obtain ⟨a1,cap1,h3,h4⟩ := hv2 i c u hc hu
 refine ⟨a1,cap1,h3,fun j x hx => ?_⟩
 obtain ⟨b,hb1,_,hb3⟩ := h4 j x hx
 exact ⟨b,0,hb1,by rw [Nat.zero_add]; exact hb3⟩
end Go.Proofs.YtkgllhkhdjodeaaGreat
namespace Go.Eng
open Go Go.RowKit
section
variable {P : Program} {w0 : World} {O : List Nat} {ops : Array Oper} {Q : Exit → Act → World → Prop} {N : Nat} {D : List Deferred} {L : FL} {C : List Chunk} {K : Act → World → Prop}
variable {d : Nat} {ty : TypeId} {pos : String} {af : Array Edge}
end
open Go Go.RowKit
section
variable {P : Program}
theorem run_shl1U {k : Nat} (hk : k < 32) (t : TypeId) (x y : Operand) (w : World) :
  (do eqGuard .shl t x y (.int .u32 1) (.int .u64 (k : Int)); binOp .shl t (.int .u32 1) (.int .u64 (k : Int)) : Sem Value).run P w = .ok (.int .u32 ((2 ^ k : Nat) : Int)) w := by
 have h1 : ¬ (k : Int) < 0 := by omega
 have h2 : min (k : Int).toNat 32 = k := by omega
 have h3 : 2 ^ k < 4294967296 := Nat.lt_of_lt_of_le (Nat.pow_lt_pow_right (by decide) hk) (by decide)
 have h4 := wrap_u32 h3
 simp only [eqGuard,binOp,Op.shift,IntKind.bits,h1,if_false,h2]
 simp only [Int.natCast_pow] at h4
 simp at h4
 simp [h4]
theorem run_shrU {a k : Nat} (hk : k < 32) (t : TypeId) (x y : Operand) (w : World) :
  (do eqGuard .shr t x y (.int .u32 (a : Int)) (.int .u64 (k : Int)); binOp .shr t (.int .u32 (a : Int)) (.int .u64 (k : Int)) : Sem Value).run P w = .ok (.int .u32 ((a >>> k : Nat) : Int)) w := by
 have h1 : ¬ (k : Int) < 0 := by omega
 have h2 : min (k : Int).toNat 32 = k := by omega
 simp only [eqGuard,binOp,Op.shift,IntKind.bits,h1,if_false,h2]
 have h5 : (a : Int).fdiv (2 ^ k) = ((a >>> k : Nat) : Int) := by
  rw [Nat.shiftRight_eq_div_pow,show ((2 : Int) ^ k) = ((2 ^ k : Nat) : Int) by simp,Int.fdiv_eq_ediv_of_nonneg _ (Int.natCast_nonneg _),Int.natCast_ediv]
 simp [h5]
theorem run_rem2 {a : Nat} (t : TypeId) (x y : Operand) (w : World) :
  (do eqGuard .rem t x y (.int .u32 (a : Int)) (.int .u32 2); binOp .rem t (.int .u32 (a : Int)) (.int .u32 2) : Sem Value).run P w = .ok (.int .u32 ((a % 2 : Nat) : Int)) w := by
 have h1 : (a : Int).tmod 2 = ((a % 2 : Nat) : Int) := by
  rw [Int.tmod_eq_emod_of_nonneg (Int.natCast_nonneg _)]; simp
 simp [eqGuard,binOp,Op.intDiv,h1]
end
end Go.Eng
namespace Fm
open Go Go.Eng
inductive Der (ls : List (List Int)) (fixed : List Int) : Int → Prop
 | fix {x : Int} (h : x ∈ fixed) : Der ls fixed x
 | unit {c : List Int} {x : Int} (hc : c ∈ ls) (hx : x ∈ c) (h : ∀ m ∈ c,m ≠ x → Der ls fixed (-m)) : Der ls fixed x
def Conf (ls : List (List Int)) (fixed : List Int) : Prop := [] ∈ ls ∨ ∃ x,Der ls fixed x ∧ Der ls fixed (-x)
theorem hasK_with {k : Kn} {l z : Int} (hl : l ≠ 0) (hz : z ≠ 0) : hasK (withK k l) z = (decide (z = l) || hasK k z) := by
 unfold hasK withK
 by_cases h1 : 0 < l
 ·rw [if_pos h1]
  by_cases h2 : 0 < z
  ·rw [if_pos h2,if_pos h2]
   simp only [Nat.testBit_or,Nat.testBit_two_pow]
   rw [Bool.or_comm]
   congr 1
   rw [Bool.eq_iff_iff]; simp; omega
  rw [if_neg h2,if_neg h2]
  have : ¬ z = l := by omega
  simp [this]
 rw [if_neg h1]
 by_cases h2 : 0 < z
 ·rw [if_pos h2,if_pos h2]
  have : ¬ z = l := by omega
  simp [this]
 rw [if_neg h2,if_neg h2]
 simp only [Nat.testBit_or,Nat.testBit_two_pow]
 rw [Bool.or_comm]
 congr 1
 rw [Bool.eq_iff_iff]; simp; omega
theorem hasK_zero {z : Int} : hasK (0,0) z = false := by unfold hasK; split <;> simp
theorem hasK_fold {z : Int} (hz : z ≠ 0) : ∀ {l : List Int} {k : Kn},(∀ x ∈ l,x ≠ 0) → hasK (l.foldl withK k) z = (decide (z ∈ l) || hasK k z)
 | [],k,_ => by simp
 | x :: r,k,h => by
  rw [List.foldl_cons,hasK_fold hz (fun y hy => h y (List.mem_cons_of_mem _ hy)),hasK_with (h x (List.mem_cons_self ..)) hz]
  rw [Bool.eq_iff_iff]; simp; constructor
  ·rintro (h1 | h1 | h1)
   ·exact .inl (.inr h1)
   ·exact .inl (.inl h1)
   ·exact .inr h1
  ·rintro ((h1 | h1) | h1)
   ·exact .inr (.inl h1)
   ·exact .inl h1
   ·exact .inr (.inr h1)
theorem clash_iff {k : Kn} : clash k = true ↔ ∃ z : Int,0 < z ∧ hasK k z = true ∧ hasK k (-z) = true := by
 unfold clash
 constructor
 ·intro h
  have h1 : k.1 &&& k.2 ≠ 0 := by simpa using h
  obtain ⟨j,hj⟩ := Nat.exists_testBit_of_ne_zero h1
  rw [Nat.testBit_and,Bool.and_eq_true] at hj
  refine ⟨(j : Int) + 1,by omega,?_,?_⟩
  ·unfold hasK; rw [if_pos (by omega),show ((j : Int) + 1 - 1).toNat = j by omega]; exact hj.1
  unfold hasK; rw [if_neg (by omega),show (-(-((j : Int) + 1)) - 1).toNat = j by omega]; exact hj.2
 rintro ⟨z,hz,h1,h2⟩
 unfold hasK at h1 h2
 rw [if_pos hz] at h1
 rw [if_neg (by omega)] at h2
 rw [show (- -z - 1).toNat = (z - 1).toNat by omega] at h2
 have h3 : (k.1 &&& k.2).testBit (z - 1).toNat = true := by rw [Nat.testBit_and,h1,h2]; rfl
 have h4 : k.1 &&& k.2 ≠ 0 := by intro h0; rw [h0] at h3; simp at h3
 simpa using h4
theorem unitG_true {k : Kn} : ∀ {c : List Int} {op x : Int},(∀ m ∈ c,m ≠ 0) → unitG k op c = (x,true) → (∀ m ∈ c,hasK k m = false ∧ (hasK k (-m) = true ∨ m = x)) ∧ (op ≠ 0 → x = op) ∧ (x ≠ 0 → x = op ∨ x ∈ c)
 | [],op,x,_,h => by
  simp only [unitG,Prod.mk.injEq,and_true] at h
  subst h
  exact ⟨fun m hm => (by cases hm),fun _ => rfl,fun _ => .inl rfl⟩
 | l :: ls,op,x,h0,h => by
  have hl := h0 l (List.mem_cons_self ..)
  have hls := fun m hm => h0 m (List.mem_cons_of_mem _ hm)
  simp only [unitG] at h
  split at h
  ·simp at h
  rename_i h1
  split at h
  ·rename_i h2
   obtain ⟨i1,i2,i3⟩ := unitG_true hls h
   refine ⟨fun m hm => ?_,i2,fun hx => ?_⟩
   ·rcases List.mem_cons.1 hm with e | hm
    ·subst e
     refine ⟨by simpa using h1,?_⟩
     simp only [Bool.or_eq_true,beq_iff_eq] at h2
     rcases h2 with h2 | h2
     ·exact .inl h2
     ·exact .inr (by rw [h2,i2 (by rw [← h2]; exact hl)])
    ·exact i1 m hm
   ·rcases i3 hx with h3 | h3
    ·exact .inl h3
    ·exact .inr (List.mem_cons_of_mem _ h3)
  rename_i h2
  split at h
  ·simp at h
  rename_i h3
  have h3' : op = 0 := by simpa using h3
  obtain ⟨i1,i2,i3⟩ := unitG_true hls h
  refine ⟨fun m hm => ?_,fun h0 => absurd h3' h0,fun hx => ?_⟩
  ·rcases List.mem_cons.1 hm with e | hm
   ·subst e
    exact ⟨by simpa using h1,.inr (i2 hl).symm⟩
   ·exact i1 m hm
  ·exact .inr (by rw [i2 hl]; exact List.mem_cons_self ..)
theorem unitG_false {k : Kn} : ∀ {c : List Int} {op x : Int},(∀ m ∈ c,m ≠ 0) → unitG k op c = (x,false) → (∃ m ∈ c,hasK k m = true) ∨ (∃ m ∈ c,hasK k (-m) = false ∧ op ≠ 0 ∧ m ≠ op) ∨ (∃ m ∈ c,∃ m' ∈ c,m ≠ m' ∧ hasK k (-m) = false ∧ hasK k (-m') = false)
 | [],op,x,_,h => by simp [unitG] at h
 | l :: ls,op,x,h0,h => by
  have hl := h0 l (List.mem_cons_self ..)
  have hls := fun m hm => h0 m (List.mem_cons_of_mem _ hm)
  simp only [unitG] at h
  split at h
  ·rename_i h1
   exact .inl ⟨l,List.mem_cons_self ..,h1⟩
  split at h
  ·rcases unitG_false hls h with ⟨m,h1,h2⟩ | ⟨m,h1,h2⟩ | ⟨m,h1,m',h2,h3⟩
   ·exact .inl ⟨m,List.mem_cons_of_mem _ h1,h2⟩
   ·exact .inr (.inl ⟨m,List.mem_cons_of_mem _ h1,h2⟩)
   ·exact .inr (.inr ⟨m,List.mem_cons_of_mem _ h1,m',List.mem_cons_of_mem _ h2,h3⟩)
  rename_i h2
  simp only [Bool.or_eq_true,beq_iff_eq,not_or,Bool.not_eq_true] at h2
  split at h
  ·rename_i h3
   have h3' : op ≠ 0 := by simpa using h3
   exact .inr (.inl ⟨l,List.mem_cons_self ..,h2.1,h3',h2.2⟩)
  ·rcases unitG_false hls h with ⟨m,h1,h4⟩ | ⟨m,h1,h4,h5,h6⟩ | ⟨m,h1,m',h4,h5⟩
   ·exact .inl ⟨m,List.mem_cons_of_mem _ h1,h4⟩
   ·exact .inr (.inr ⟨m,List.mem_cons_of_mem _ h1,l,List.mem_cons_self ..,h6,h4,h2.1⟩)
   ·exact .inr (.inr ⟨m,List.mem_cons_of_mem _ h1,m',List.mem_cons_of_mem _ h4,h5⟩)
def SoundK (ls : List (List Int)) (fixed : List Int) (k : Kn) : Prop := ∀ z : Int,z ≠ 0 → hasK k z = true → Der ls fixed z
theorem SoundK.unit {ls : List (List Int)} {fixed : List Int} {k : Kn} {c : List Int} (h : SoundK ls fixed k) (hc : c ∈ ls) (hn : ∀ m ∈ c,m ≠ 0) {x : Int} (hu : unitK k c = (x,true)) : (x ≠ 0 → SoundK ls fixed (withK k x)) ∧ (x = 0 → Conf ls fixed) := by
 obtain ⟨i1,i2,i3⟩ := unitG_true hn hu
 refine ⟨fun hx z hz hh => ?_,fun hx => ?_⟩
 ·rw [hasK_with hx hz] at hh
  simp only [Bool.or_eq_true,decide_eq_true_eq] at hh
  rcases hh with hh | hh
  ·subst hh
   rcases i3 hx with h3 | h3
   ·exact absurd h3 hx
   exact .unit hc h3 (fun m hm hne => by
    rcases (i1 m hm).2 with h4 | h4
    ·exact h _ (by have := hn m hm; omega) h4
    ·exact absurd h4 hne)
  exact h z hz hh
 cases c with
 | nil => exact .inl hc
 | cons y r =>
  have hf : ∀ m ∈ y :: r,hasK k (-m) = true := fun m hm => by
   rcases (i1 m hm).2 with h4 | h4
   ·exact h4
   ·exact absurd (h4.trans hx) (hn m hm)
  have hy := List.mem_cons_self (a := y) (l := r)
  refine .inr ⟨y,.unit hc hy (fun m hm _ => h _ (by have := hn m hm; omega) (hf m hm)),h _ (by have := hn y hy; omega) (hf y hy)⟩
theorem SoundK.clash {ls : List (List Int)} {fixed : List Int} {k : Kn} (h : SoundK ls fixed k) (hc : clash k = true) : Conf ls fixed := by
 obtain ⟨z,hz,h1,h2⟩ := clash_iff.1 hc
 exact .inr ⟨z,h z (by omega) h1,h (-z) (by omega) h2⟩
theorem pass_sound {ls0 : List (List Int)} {fixed : List Int} : ∀ {ls : List (List Int)} {k : Kn} {ag : Bool},(∀ c ∈ ls,c ∈ ls0) → (∀ c ∈ ls,∀ m ∈ c,m ≠ 0) → SoundK ls0 fixed k →
  (∀ k',passK ls k ag = .inl k' → Conf ls0 fixed) ∧ (∀ k' b,passK ls k ag = .inr (k',b) → SoundK ls0 fixed k')
 | [],k,ag,_,_,hs => ⟨fun k' h => by simp [passK] at h,fun k' b h => by simp only [passK,Sum.inr.injEq,Prod.mk.injEq] at h; rw [← h.1]; exact hs⟩
 | c :: cs,k,ag,hl,hn,hs => by
  have hc := hl c (List.mem_cons_self ..)
  have hnc := hn c (List.mem_cons_self ..)
  have hl' := fun c' h => hl c' (List.mem_cons_of_mem _ h)
  have hn' := fun c' h => hn c' (List.mem_cons_of_mem _ h)
  simp only [passK]
  split
  ·rename_i h1
   exact ⟨fun k' h => hs.clash h1,fun k' b h => by cases h⟩
  split
  ·rename_i h1
   simp only [Bool.and_eq_true,beq_iff_eq] at h1
   exact ⟨fun k' h => (hs.unit hc hnc (x := 0) (by rw [← h1.2,← h1.1])).2 rfl,fun k' b h => by cases h⟩
  split
  ·rename_i h1 h2
   refine pass_sound hl' hn' ((hs.unit hc hnc (x := (unitK k c).1) (by rw [← h2])).1 ?_)
   intro h0; apply h1; rw [h2,h0]; rfl
  ·exact pass_sound hl' hn' hs
theorem pass_done : ∀ {ls : List (List Int)} {k k' : Kn} {ag : Bool},passK ls k ag = .inr (k',false) → ag = false ∧ k' = k ∧ ∀ c ∈ ls,(unitK k c).2 = false
 | [],k,k',ag,h => by
  simp only [passK,Sum.inr.injEq,Prod.mk.injEq] at h
  exact ⟨h.2,h.1.symm,fun c hc => by cases hc⟩
 | c :: cs,k,k',ag,h => by
  simp only [passK] at h
  split at h
  ·cases h
  split at h
  ·cases h
  split at h
  ·have := (pass_done h).1; cases this
  ·rename_i h3
   obtain ⟨h4,h5,h6⟩ := pass_done h
   refine ⟨h4,h5,fun c' hc' => ?_⟩
   rcases List.mem_cons.1 hc' with e | hc'
   ·rw [e]; simpa using h3
   ·exact h6 c' hc'
theorem pass_keeps : ∀ {ls : List (List Int)} {k k' : Kn} {ag b : Bool} {z : Int},(∀ c ∈ ls,∀ m ∈ c,m ≠ 0) → passK ls k ag = .inr (k',b) → z ≠ 0 → hasK k z = true → hasK k' z = true
 | [],k,k',ag,b,z,_,h,_,hk => by
  simp only [passK,Sum.inr.injEq,Prod.mk.injEq] at h
  rw [← h.1]; exact hk
 | c :: cs,k,k',ag,b,z,hn,h,hz,hk => by
  have hn' := fun c' h => hn c' (List.mem_cons_of_mem _ h)
  simp only [passK] at h
  split at h
  ·cases h
  split at h
  ·cases h
  split at h
  ·rename_i h1 h2
   refine pass_keeps hn' h hz ?_
   rw [hasK_with (fun h0 => h1 (by rw [h2,h0]; rfl)) hz,hk,Bool.or_true]
  ·exact pass_keeps hn' h hz hk
theorem closed_says {ls : List (List Int)} {fixed : List Int} (hn : ∀ c ∈ ls,∀ m ∈ c,m ≠ 0) (hf : ∀ x ∈ fixed,x ≠ 0) : ∀ {f : Nat} {k k' : Kn} {ok : Bool},(∀ x ∈ fixed,hasK k x = true) → SoundK ls fixed k → closedF f ls k = some (k',ok) →
  (ok = false → Conf ls fixed) ∧ (ok = true → ¬ Conf ls fixed ∧ ∀ z : Int,z ≠ 0 → (hasK k' z = true ↔ Der ls fixed z))
 | 0,k,k',ok,_,_,h => by simp [closedF] at h
 | f + 1,k,k',ok,hk,hs,h => by
  have hps := pass_sound (ag := false) (fun c h => h) hn hs
  simp only [closedF] at h
  split at h
  ·rename_i k2 h2
   simp only [Option.some.injEq,Prod.mk.injEq] at h
   exact ⟨fun _ => hps.1 _ h2,fun h0 => by rw [← h.2] at h0; cases h0⟩
  ·rename_i k2 ag h2
   have hs2 := hps.2 _ _ h2
   split at h
   ·refine closed_says hn hf (fun x hx => ?_) hs2 h
    exact pass_keeps hn h2 (hf x hx) (hk x hx)
   ·rename_i hag
    have hag' : ag = false := by simpa using hag
    subst hag'
    simp only [Option.some.injEq,Prod.mk.injEq] at h
    obtain ⟨h3,h4⟩ := h
    subst h3
    obtain ⟨_,e,hd⟩ := pass_done h2
    subst e
    refine ⟨fun h0 => hs2.clash (by rw [← h4] at h0; simpa using h0),fun h0 => ?_⟩
    have hncl : clash k2 = false := by rw [← h4] at h0; simpa using h0
    have hcl : ∀ z : Int,z ≠ 0 → hasK k2 z = true → hasK k2 (-z) = true → False := fun z hz h5 h6 => by
     have : clash k2 = true := by
      rw [clash_iff]
      by_cases hz0 : 0 < z
      ·exact ⟨z,hz0,h5,h6⟩
      ·exact ⟨-z,by omega,h6,by rw [Int.neg_neg]; exact h5⟩
     rw [this] at hncl; cases hncl
    have hder : ∀ z,Der ls fixed z → z ≠ 0 → hasK k2 z = true := by
     intro z hz
     induction hz with
     | fix h => intro _; exact hk _ h
     | @unit c x hc hx _ ih =>
      intro _
      have hothers : ∀ m ∈ c,m ≠ x → hasK k2 (-m) = true := fun m hm hne => ih m hm hne (by have := hn c hc m hm; omega)
      obtain ⟨y,hy⟩ : ∃ y,unitK k2 c = (y,false) := ⟨(unitK k2 c).1,by rw [← hd c hc]⟩
      rcases unitG_false (hn c hc) hy with ⟨m,h5,h6⟩ | ⟨m,_,_,h6,_⟩ | ⟨m,h5,m',h6,h7,h8,h9⟩
      ·by_cases hm : m = x
       ·rw [← hm]; exact h6
       ·exact (hcl m (hn c hc m h5) h6 (hothers m h5 hm)).elim
      ·exact absurd rfl h6
      ·by_cases hm : m = x
       ·have := hothers m' h6 (fun e => h7 (by rw [hm,e]))
        rw [this] at h9; cases h9
       ·have := hothers m h5 hm
        rw [this] at h8; cases h8
    refine ⟨fun hconf => ?_,fun z hz => ⟨hs2 z hz,fun h => hder z h hz⟩⟩
    rcases hconf with h5 | ⟨x,h5,h6⟩
    ·have := hd [] h5
     simp [unitK,unitG] at this
    ·by_cases hx : x = 0
     ·subst hx
      have hz : ∀ z,Der ls fixed z → z ≠ 0 := fun z hz => by
       cases hz with
       | fix h => exact hf _ h
       | unit hc hx _ => exact hn _ hc _ hx
      exact hz 0 h5 rfl
     ·exact hcl x hx (hder x h5 hx) (hder (-x) h6 (by omega))
end Fm
namespace Fm
open Go Go.Eng
def aloneB (c out : List Int) (x : Int) : Bool := !out.contains x && c.all (fun m => m == x || out.contains (-m))
def stepL (c out : List Int) (x : Int) : List Int := if aloneB c out x then out ++ [x] else out
def passC (out c : List Int) : List Int := c.foldl (stepL c) out
def consPass (ls : List (List Int)) (out : List Int) : List Int := ls.foldl passC out
def consF : Nat → List (List Int) → List Int → Option (List Int)
 | 0,_,_ => none
 | n + 1,ls,out => if (consPass ls out).length = out.length then some (consPass ls out) else consF n ls (consPass ls out)
theorem step_pre {c out : List Int} {x : Int} : ∃ r,stepL c out x = out ++ r := by
 unfold stepL; split
 ·exact ⟨[x],rfl⟩
 exact ⟨[],by simp⟩
theorem fold_pre {c : List Int} : ∀ {xs out : List Int},∃ r,xs.foldl (stepL c) out = out ++ r
 | [],out => ⟨[],by simp⟩
 | x :: xs,out => by
  obtain ⟨r,hr⟩ := step_pre (c := c) (out := out) (x := x)
  obtain ⟨r2,hr2⟩ := fold_pre (c := c) (xs := xs) (out := stepL c out x)
  exact ⟨r ++ r2,by rw [List.foldl_cons,hr2,hr,List.append_assoc]⟩
theorem pass_pre : ∀ {ls : List (List Int)} {out : List Int},∃ r,consPass ls out = out ++ r
 | [],out => ⟨[],by simp [consPass]⟩
 | c :: cs,out => by
  obtain ⟨r,hr⟩ := fold_pre (c := c) (xs := c) (out := out)
  obtain ⟨r2,hr2⟩ := pass_pre (ls := cs) (out := passC out c)
  refine ⟨r ++ r2,?_⟩
  rw [consPass,List.foldl_cons]
  show consPass cs (passC out c) = _
  rw [hr2]
  show (c.foldl (stepL c) out) ++ r2 = _
  rw [hr,List.append_assoc]
theorem fold_keeps {c : List Int} : ∀ {xs out : List Int},(xs.foldl (stepL c) out).length = out.length → ∀ x ∈ xs,aloneB c out x = false
 | [],out,_,x,hx => by cases hx
 | y :: xs,out,h,x,hx => by
  rw [List.foldl_cons] at h
  obtain ⟨r2,hr2⟩ := fold_pre (c := c) (xs := xs) (out := stepL c out y)
  have hy : aloneB c out y = false := by
   cases hh : aloneB c out y with
   | false => rfl
   | true =>
    have : stepL c out y = out ++ [y] := by unfold stepL; rw [if_pos hh]
    rw [hr2,this] at h
    simp at h
  have he : stepL c out y = out := by unfold stepL; rw [hy]; rfl
  rw [he] at h
  rcases List.mem_cons.1 hx with e | hx
  ·rw [e]; exact hy
  ·exact fold_keeps h x hx
theorem pass_keep : ∀ {ls : List (List Int)} {out : List Int},(consPass ls out).length = out.length → ∀ c ∈ ls,∀ x ∈ c,aloneB c out x = false
 | [],out,_,c,hc => by cases hc
 | d :: cs,out,h,c,hc => by
  have h' : (consPass cs (passC out d)).length = out.length := h
  obtain ⟨r,hr⟩ := fold_pre (c := d) (xs := d) (out := out)
  obtain ⟨r2,hr2⟩ := pass_pre (ls := cs) (out := passC out d)
  have hr' : passC out d = out ++ r := hr
  have hl : (passC out d).length = out.length := by
   rw [hr2,List.length_append] at h'
   rw [hr',List.length_append] at h' ⊢
   omega
  have he : passC out d = out := by
   rw [hr',List.length_append] at hl
   have : r = [] := List.eq_nil_of_length_eq_zero (by omega)
   rw [hr',this,List.append_nil]
  rw [he] at h'
  rcases List.mem_cons.1 hc with e | hc
  ·rw [e]; exact fold_keeps hl
  ·exact pass_keep h' c hc
theorem fold_sound {ls : List (List Int)} {fixed c : List Int} (hc : c ∈ ls) : ∀ {xs out : List Int},(∀ x ∈ xs,x ∈ c) → (∀ z ∈ out,Der ls fixed z) → ∀ z ∈ xs.foldl (stepL c) out,Der ls fixed z
 | [],out,_,h => h
 | x :: xs,out,hx,h => by
  rw [List.foldl_cons]
  refine fold_sound hc (fun y hy => hx y (List.mem_cons_of_mem _ hy)) ?_
  unfold stepL
  split
  ·rename_i ha
   intro z hz
   rcases List.mem_append.1 hz with hz | hz
   ·exact h z hz
   ·simp only [List.mem_singleton] at hz
    subst hz
    simp only [aloneB,Bool.and_eq_true,List.all_eq_true,Bool.or_eq_true,beq_iff_eq,List.contains_iff_mem] at ha
    exact .unit hc (hx z (List.mem_cons_self ..)) (fun m hm hne => by
     rcases ha.2 m hm with h4 | h4
     ·exact absurd h4 hne
     ·exact h _ h4)
  ·exact h
theorem pass_soundL {ls0 : List (List Int)} {fixed : List Int} : ∀ {ls : List (List Int)} {out : List Int},(∀ c ∈ ls,c ∈ ls0) → (∀ z ∈ out,Der ls0 fixed z) → ∀ z ∈ consPass ls out,Der ls0 fixed z
 | [],out,_,h => h
 | c :: cs,out,hl,h => pass_soundL (ls := cs) (out := passC out c) (fun c' h' => hl c' (List.mem_cons_of_mem _ h')) (fold_sound (hl c (List.mem_cons_self ..)) (fun x hx => hx) h)
theorem cons_says {ls : List (List Int)} {fixed : List Int} : ∀ {n : Nat} {out o : List Int},(∀ x ∈ fixed,x ∈ out) → (∀ z ∈ out,Der ls fixed z) → consF n ls out = some o → ∀ z,z ∈ o ↔ Der ls fixed z
 | 0,_,_,_,_,h => by simp [consF] at h
 | n + 1,out,o,hf,hs,h => by
  simp only [consF] at h
  have hs2 := pass_soundL (ls := ls) (fun c h => h) hs
  obtain ⟨r,hr⟩ := pass_pre (ls := ls) (out := out)
  split at h
  ·rename_i hl
   injection h with h
   have hk := pass_keep hl
   have he : consPass ls out = out := by
    rw [hr,List.length_append] at hl
    have : r = [] := List.eq_nil_of_length_eq_zero (by omega)
    rw [hr,this,List.append_nil]
   rw [he] at h
   subst h
   intro z
   refine ⟨hs z,fun hz => ?_⟩
   induction hz with
   | fix h => exact hf _ h
   | @unit c x hc hx _ ih =>
    have := hk c hc x hx
    simp only [aloneB,Bool.and_eq_false_iff,Bool.not_eq_false',List.contains_iff_mem] at this
    rcases this with h1 | h1
    ·exact h1
    ·exfalso
     rw [List.all_eq_false] at h1
     obtain ⟨m,hm,h2⟩ := h1
     simp only [Bool.or_eq_true,beq_iff_eq,List.contains_iff_mem,not_or] at h2
     exact h2.2 (ih m hm h2.1)
  ·exact cons_says (fun x hx => by rw [hr]; exact List.mem_append_left _ (hf x hx)) hs2 h
def conflictB (ls : List (List Int)) (out : List Int) : Bool := ls.any (·.isEmpty) || out.any (fun x => out.contains (-x))
theorem conflict_says {ls : List (List Int)} {fixed out : List Int} (h : ∀ z,z ∈ out ↔ Der ls fixed z) : conflictB ls out = true ↔ Conf ls fixed := by
 unfold conflictB Conf
 simp only [Bool.or_eq_true,List.any_eq_true,List.contains_iff_mem,List.isEmpty_iff]
 constructor
 ·rintro (⟨c,h1,h2⟩ | ⟨x,h1,h2⟩)
  ·subst h2; exact .inl h1
  exact .inr ⟨x,(h x).1 h1,(h (-x)).1 h2⟩
 rintro (h1 | ⟨x,h1,h2⟩)
 ·exact .inl ⟨[],h1,rfl⟩
 exact .inr ⟨x,(h x).2 h1,(h (-x)).2 h2⟩
def Rg : List Int := (List.range 65).map fun (i : Nat) => (i : Int) - 32
theorem mem_Rg {x : Int} : x ∈ Rg ↔ -32 ≤ x ∧ x ≤ 32 := by
 unfold Rg
 simp only [List.mem_map,List.mem_range]
 constructor
 ·rintro ⟨i,h1,h2⟩; omega
 intro h; exact ⟨(x + 32).toNat,by omega,by omega⟩
def openC (p : Int → Bool) : Nat := (Rg.filter p).length
theorem filter_le {p q : Int → Bool} (h : ∀ z,q z = true → p z = true) (l : List Int) : (l.filter q).length ≤ (l.filter p).length := by
 induction l with
 | nil => simp
 | cons a l ih =>
  by_cases hq : q a = true
  ·simp [List.filter_cons,hq,h a hq]; exact ih
  ·by_cases hp : p a = true
   ·simp [List.filter_cons,hq,hp]; omega
   ·simp [List.filter_cons,hq,hp]; exact ih
theorem filter_lt {p q : Int → Bool} (h : ∀ z,q z = true → p z = true) {x : Int} (hp : p x = true) (hq : q x = false) : ∀ {l : List Int},x ∈ l → (l.filter q).length < (l.filter p).length
 | a :: l,hx => by
  rcases List.mem_cons.1 hx with e | hx
  ·subst e
   have := filter_le h l
   simp [List.filter_cons,hp,hq]; omega
  ·have ih := filter_lt h hp hq hx
   by_cases hqa : q a = true
   ·simp [List.filter_cons,hqa,h a hqa]; exact ih
   ·by_cases hpa : p a = true
    ·simp [List.filter_cons,hqa,hpa]; omega
    ·simp [List.filter_cons,hqa,hpa]; exact ih
theorem openC_le (p : Int → Bool) : openC p ≤ 65 := by
 unfold openC
 exact Nat.le_trans (List.length_filter_le _ _) (by simp [Rg])
def openL (out : List Int) : Nat := openC fun z => !out.contains z
theorem openL_app {out r : List Int} : openL (out ++ r) ≤ openL out := filter_le (fun z h => by simp at h ⊢; exact h.1) _
theorem openL_fold {c : List Int} : ∀ {xs out : List Int},(∀ x ∈ xs,-32 ≤ x ∧ x ≤ 32) → (xs.foldl (stepL c) out).length ≠ out.length → openL (xs.foldl (stepL c) out) < openL out
 | [],out,_,h => absurd rfl h
 | x :: xs,out,hx,h => by
  rw [List.foldl_cons] at h ⊢
  by_cases ha : aloneB c out x = true
  ·have he : stepL c out x = out ++ [x] := by unfold stepL; rw [if_pos ha]
   obtain ⟨r,hr⟩ := fold_pre (c := c) (xs := xs) (out := stepL c out x)
   rw [hr]
   refine Nat.lt_of_le_of_lt openL_app ?_
   rw [he]
   have hxo : out.contains x = false := by
    simp only [aloneB,Bool.and_eq_true,Bool.not_eq_true'] at ha
    exact ha.1
   exact filter_lt (fun z h => by simp at h ⊢; exact h.1) (x := x) (by simpa using hxo) (by simp) (mem_Rg.2 (hx x (List.mem_cons_self ..)))
  ·have he : stepL c out x = out := by unfold stepL; rw [if_neg ha]
   rw [he] at h ⊢
   exact openL_fold (fun y hy => hx y (List.mem_cons_of_mem _ hy)) h
theorem openL_pass : ∀ {ls : List (List Int)} {out : List Int},(∀ c ∈ ls,∀ x ∈ c,-32 ≤ x ∧ x ≤ 32) → (consPass ls out).length ≠ out.length → openL (consPass ls out) < openL out
 | [],out,_,h => absurd rfl h
 | c :: cs,out,hl,h => by
  have e : consPass (c :: cs) out = consPass cs (passC out c) := rfl
  rw [e] at h ⊢
  obtain ⟨r,hr⟩ := pass_pre (ls := cs) (out := passC out c)
  by_cases h1 : (passC out c).length = out.length
  ·obtain ⟨r2,hr2⟩ := fold_pre (c := c) (xs := c) (out := out)
   have hr2' : passC out c = out ++ r2 := hr2
   have : passC out c = out := by
    rw [hr2',List.length_append] at h1
    have : r2 = [] := List.eq_nil_of_length_eq_zero (by omega)
    rw [hr2',this,List.append_nil]
   rw [this] at h ⊢
   exact openL_pass (fun c' h' => hl c' (List.mem_cons_of_mem _ h')) h
  ·rw [hr]
   exact Nat.lt_of_le_of_lt openL_app (openL_fold (hl c (List.mem_cons_self ..)) h1)
theorem cons_total {ls : List (List Int)} (hl : ∀ c ∈ ls,∀ x ∈ c,-32 ≤ x ∧ x ≤ 32) : ∀ (n : Nat) (out : List Int),openL out < n → ∃ o,consF n ls out = some o
 | 0,out,h => by omega
 | n + 1,out,h => by
  simp only [consF]
  split
  ·exact ⟨_,rfl⟩
  ·rename_i hne
   exact cons_total hl n _ (by have := openL_pass hl hne; omega)
theorem cons_ends {ls : List (List Int)} (hl : ∀ c ∈ ls,∀ x ∈ c,-32 ≤ x ∧ x ≤ 32) (out : List Int) : ∃ o,consF 66 ls out = some o := cons_total hl 66 out (by have := openC_le (fun z => !out.contains z); unfold openL; omega)
def openKn (k : Kn) : Nat := openC fun z => z != 0 && !hasK k z
theorem unit_open {k : Kn} {c : List Int} (hn : ∀ m ∈ c,m ≠ 0) {x : Int} (h : unitK k c = (x,true)) (hx : x ≠ 0) : x ∈ c ∧ hasK k x = false := by
 obtain ⟨i1,i2,i3⟩ := unitG_true hn h
 have hm : x ∈ c := by
  rcases i3 hx with h3 | h3
  ·exact absurd h3 hx
  ·exact h3
 exact ⟨hm,(i1 x hm).1⟩
theorem openKn_with {k : Kn} {x : Int} (hx : x ≠ 0) (hr : -32 ≤ x ∧ x ≤ 32) (hk : hasK k x = false) : openKn (withK k x) < openKn k := by
 unfold openKn openC
 refine filter_lt (x := x) (fun z h => ?_) ?_ ?_ (mem_Rg.2 hr)
 ·simp only [Bool.and_eq_true,bne_iff_ne,Bool.not_eq_true'] at h ⊢
  rw [hasK_with hx h.1] at h
  simp at h
  exact ⟨h.1,h.2.2⟩
 ·simp [hx,hk]
 rw [hasK_with hx hx]; simp
theorem openKn_pass : ∀ {ls : List (List Int)} {k k' : Kn} {ag b : Bool},(∀ c ∈ ls,∀ x ∈ c,x ≠ 0 ∧ -32 ≤ x ∧ x ≤ 32) → passK ls k ag = .inr (k',b) → openKn k' ≤ openKn k ∧ (b = true → ag = true ∨ openKn k' < openKn k)
 | [],k,k',ag,b,_,h => by
  simp only [passK,Sum.inr.injEq,Prod.mk.injEq] at h
  rw [← h.1,← h.2]; exact ⟨Nat.le_refl _,fun h => .inl h⟩
 | c :: cs,k,k',ag,b,hl,h => by
  have hl' := fun c' h' => hl c' (List.mem_cons_of_mem _ h')
  simp only [passK] at h
  split at h
  ·cases h
  split at h
  ·cases h
  split at h
  ·rename_i h1 h2
   have hx0 : (unitK k c).1 ≠ 0 := fun h0 => h1 (by rw [h2,h0]; rfl)
   obtain ⟨hm,hk⟩ := unit_open (fun m hm => (hl c (List.mem_cons_self ..) m hm).1) (x := (unitK k c).1) (by rw [← h2]) hx0
   have h3 := openKn_with hx0 (hl c (List.mem_cons_self ..) _ hm).2 hk
   have h4 := (openKn_pass hl' h).1
   exact ⟨by omega,fun _ => .inr (by omega)⟩
  ·exact openKn_pass hl' h
theorem closed_total {ls : List (List Int)} (hl : ∀ c ∈ ls,∀ x ∈ c,x ≠ 0 ∧ -32 ≤ x ∧ x ≤ 32) : ∀ (n : Nat) (k : Kn),openKn k < n → ∃ r,closedF n ls k = some r
 | 0,k,h => by omega
 | n + 1,k,h => by
  simp only [closedF]
  split
  ·exact ⟨_,rfl⟩
  ·rename_i k' ag h1
   split
   ·rename_i hag
    have := (openKn_pass hl h1).2 hag
    refine closed_total hl n k' ?_
    rcases this with h2 | h2
    ·cases h2
    ·omega
   ·exact ⟨_,rfl⟩
theorem openKn_le (k : Kn) : openKn k ≤ 64 := by
 unfold openKn openC
 have h1 : (Rg.filter fun z => z != 0 && !hasK k z).length ≤ (Rg.filter fun z => z != 0).length := filter_le (fun z h => by simp at h ⊢; exact h.1) _
 have h2 : (Rg.filter fun z => z != 0).length = 64 := by decide
 omega
theorem closed_ends {ls : List (List Int)} (hl : ∀ c ∈ ls,∀ x ∈ c,x ≠ 0 ∧ -32 ≤ x ∧ x ≤ 32) (k : Kn) : ∃ r,closedF 65 ls k = some r := closed_total hl 65 k (by have := openKn_le k; omega)
end Fm
namespace Go.Proofs.YtkgllhkhdjodeaaGreat
open Go Go.Eng Go.Proofs
theorem name_c (s : List UInt8) (w : World) : Pure Tryz.prog 41 [.string (str s)] w (.agg [Value.int .u8 3,.string (str s),.slice none 0 0].toArray) := by
 refine enter Tryz.func41 rfl Tryz.ntmps41 rfl (St.init _) ?_
 refine jN 3 ?_
 refine WL.alloc F.zero24 rfl (fun b2 => ?_)
 refine jN 13 ?_
 refine WQ.ret (rs := [.cell 2 24]) rfl (.cellN F.agg24 rfl jM rfl .nil) (fun w hS => ⟨rfl,hS.drop⟩)
def T1 : Tree := .mk 5 [] [.mk 3 [97] [],.mk 3 [98] [],.mk 5 [] [.mk 3 [99] [],.mk 3 [100] []]]
def T2 : Tree := .mk 5 [] [.mk 6 [] [.mk 3 [97] [],.mk 3 [98] []],.mk 4 [] [.mk 3 [99] []]]
theorem top1 : Fm.top [97,32,38,32,98,32,38,32,40,99,32,38,32,100,41] = (T1,0,0) := by kernel_rfl
theorem top2 : Fm.top [97,32,60,61,62,32,98,32,60,61,62,32,99] = (Fm.zeroTree,8,4) := by kernel_rfl
theorem print1 : printS T2 = [40,97,32,124,32,98,41,32,38,32,33,99] := by kernel_rfl
theorem valid1 : Fm.validB T2 = true := by kernel_rfl
theorem sol1 : Fm.solveF 2 20 false [[1,2],[-1]] [] [] = some ⟨true,2,[]⟩ := by kernel_rfl
theorem sol2 : Fm.solveF 1 20 false [[1],[-1]] [] [] = some ⟨false,0,[[]]⟩ := by kernel_rfl
theorem may1 : Fm.mayE 2 [[1,2],[-1]] = 0 := by kernel_rfl
theorem may2 : Fm.mayE 1 [[1],[-1]] = 0 := by kernel_rfl
theorem RdLL.two {w0 w : World} {O : List Nat} {C : List Chunk} {b1 b2 b3 : Nat} {c1 c2 : List Int} (hS : St w0 O C w) (h1 : pt b1 (c1.map (Value.int .i64)) 3 ∈ C) (h2 : pt b2 (c2.map (Value.int .i64)) 3 ∈ C)
  (h3 : pt b3 [.slice (some ⟨b1,0,none⟩) c1.length c1.length,.slice (some ⟨b2,0,none⟩) c2.length c2.length] 41 ∈ C) :
  RdLL w [c1,c2] (some ⟨b3,0,none⟩) [.slice (some ⟨b1,0,none⟩) c1.length c1.length,.slice (some ⟨b2,0,none⟩) c2.length c2.length] := by
 refine ⟨rfl,fun i u hu => ⟨b3,0,rfl,by rw [Nat.zero_add]; exact hS.cell h3 hu⟩,fun i c u hc hu => ?_⟩
 match i,hc,hu with
 | 0,hc,hu =>
  simp at hc hu
  subst hc; subst hu
  exact ⟨_,_,rfl,fun j x hx => ⟨b1,0,rfl,by rw [Nat.zero_add]; exact hS.cell h1 (by simp [hx])⟩⟩
 | 1,hc,hu =>
  simp at hc hu
  subst hc; subst hu
  exact ⟨_,_,rfl,fun j x hx => ⟨b2,0,rfl,by rw [Nat.zero_add]; exact hS.cell h2 (by simp [hx])⟩⟩
 | i + 2,hc,hu => simp at hc
theorem wakes_c (w : World) : Pure Tryz.prog 9 [] w (.bool true) := by
 refine enter Tryz.func9 rfl Tryz.ntmps9 rfl (St.init _) ?_
 refine jN 9 ?_
 refine jC (β := List Nat × Option Addr × Nat) (res := fun y => .tuple #[tv T1 y.2.1 y.2.2,.int .i64 0,.int .i64 0]) (cs := fun y => [own y.1 T1 (tv T1 y.2.1 y.2.2)]) F.fun39 rfl (fun w hS _ => (Parse_c [97,32,38,32,98,32,38,32,40,99,32,38,32,100,41] w).mono (fun e w2 h => ?_)) (fun y14 => ?_)
 ·rw [top1] at h
  exact h
 refine jN 9 ?_
 refine WL.alloc F.zero24 rfl (fun b1 => ?_)
 refine jN 11 ?_
 refine WL.callV F.fun41 rfl rfl (fun w _ => name_c [97] w) ?_
 refine jN 1 ?_
 refine WL.callV F.fun41 rfl rfl (fun w _ => name_c [98] w) ?_
 refine jN 1 ?_
 refine WL.buildSlice F.sl22 F.ez22 rfl rfl rfl rfl jB rfl (fun b21 => ?_)
 refine jN 3 ?_
 refine WL.callV F.fun41 rfl rfl (fun w _ => name_c [99] w) ?_
 refine jN 1 ?_
 refine WL.buildSlice F.sl22 F.ez22 rfl rfl rfl rfl jB rfl (fun b24 => ?_)
 refine jN 3 ?_
 refine WL.buildSlice F.sl22 F.ez22 rfl rfl rfl rfl jB rfl (fun b26 => ?_)
 refine jN 2 ?_
 refine WA.chunksE (C' := fun x : List Nat => [own x T2 (.agg #[.int .u8 5,.string (str []),.slice (some ⟨b26,0,none⟩) 2 2]),pt b1 [.int .u8 T1.op,.string (str T1.name),.slice y14.2.1 T1.kids.length y14.2.2] 24]) (fun w hS => ?_) (fun G => ?_)
 ·have a1 := St.node0 3 [98] (St.node0 3 [97] hS)
  have a2 := St.pick a1 (c := own [] (Tree.mk 3 [97] []) (.agg #[.int .u8 3,.string (str [97]),.slice none 0 0])) jR
  obtain ⟨F1,a3⟩ := St.node2 6 (t1 := Tree.mk 3 [97] []) (t2 := Tree.mk 3 [98] []) (a1 := none) (a2 := none) (c1 := 0) (c2 := 0) (St.pick a2 (c := pt b21 [.int .u8 3,.string (str [97]),.slice none 0 0,.int .u8 3,.string (str [98]),.slice none 0 0] 24) jR)
  have a4 := St.node0 3 [99] a3
  obtain ⟨F2,a5⟩ := St.node1 4 (t1 := Tree.mk 3 [99] []) (a1 := none) (c1 := 0) (St.pick a4 (c := pt b24 [.int .u8 3,.string (str [99]),.slice none 0 0] 24) jR)
  have a6 := St.pick a5 (c := own F1 (.mk 6 [] [Tree.mk 3 [97] [],Tree.mk 3 [98] []]) (.agg #[.int .u8 6,.string (str []),.slice (some ⟨b21,0,none⟩) 2 2])) jR
  obtain ⟨F3,a7⟩ := St.node2 5 (t1 := .mk 6 [] [Tree.mk 3 [97] [],Tree.mk 3 [98] []]) (t2 := .mk 4 [] [Tree.mk 3 [99] []]) (a1 := some ⟨b21,0,none⟩) (a2 := some ⟨b24,0,none⟩) (c1 := 2) (c2 := 1) (St.pick a6 (c := pt b26 [.int .u8 6,.string (str []),.slice (some ⟨b21,0,none⟩) 2 2,.int .u8 4,.string (str []),.slice (some ⟨b24,0,none⟩) 1 1] 24) jR)
  exact ⟨F3,((St.pick (St.pick a7 (c := pt b1 [.int .u8 T1.op,.string (str T1.name),.slice y14.2.1 T1.kids.length y14.2.2] 24) jR) (c := own F3 T2 (.agg #[.int .u8 5,.string (str []),.slice (some ⟨b26,0,none⟩) 2 2])) jR)).two2⟩
 refine jN 1 ?_
 refine WL.callV (v := .tuple #[.string (str [40,97,32,124,32,98,41,32,38,32,33,99]),.int .i64 0]) F.fun40 rfl rfl (fun w hS => by have h9 := Print_c T2 G (some ⟨b26,0,none⟩) 2 w (hS.ok _ (List.Mem.head _)).2; rw [print1,valid1] at h9; exact h9) ?_
 refine jN 15 ?_
 refine jC (β := List Nat × Option Addr × Nat) (res := fun y => .tuple #[tv Fm.zeroTree y.2.1 y.2.2,.int .i64 8,.int .i64 4]) (cs := fun y => [own y.1 Fm.zeroTree (tv Fm.zeroTree y.2.1 y.2.2)]) F.fun39 rfl (fun w hS _ => (Parse_c [97,32,60,61,62,32,98,32,60,61,62,32,99] w).mono (fun e w2 h => ?_)) (fun y32 => ?_)
 ·rw [top2] at h
  exact h
 refine jN 9 ?_
 refine WL.alloc F.zero24 rfl (fun b6 => ?_)
 refine jN 11 ?_
 refine WL.buildSlice F.sl41 F.ez41 rfl rfl rfl rfl jB rfl (fun b37 => ?_)
 refine jN 1 ?_
 refine WL.buildSlice F.sl41 F.ez41 rfl rfl rfl rfl jB rfl (fun b38 => ?_)
 refine jN 1 ?_
 refine WL.buildSlice F.sl52 F.ez52 rfl rfl rfl rfl jB rfl (fun b39 => ?_)
 refine jN 1 ?_
 refine jC (β := Option Addr × Nat) (res := fun x => .tuple #[.agg #[.bool true,.int .u32 2,.slice x.1 0 x.2],.int .i64 0]) (cs := fun _ => []) F.fun31 rfl (fun w hS _ => (Solve_c 2 [[1,2],[-1]] (some ⟨b39,0,none⟩) 2 _ (.inr ⟨_,_,rfl⟩) w (RdLL.two (b1 := b37) (b2 := b38) (b3 := b39) (c1 := [1,2]) (c2 := [-1]) hS jM jM jM) 20 ⟨true,2,[]⟩ (by decide) (fun n hn _ => ?_)).mono (fun e w2 h => ?_)) (fun x40 => ?_)
 ·have : n = 2 := by omega
  subst this
  exact sol1
 ·rcases h with h | h
  ·exact absurd may1 h.1
  obtain ⟨_,x,F,vs,h1,h2⟩ := h
  exact ⟨x,h1,h2.sublist (List.nil_sublist _)⟩
 refine jN 7 ?_
 refine WL.alloc F.zero69 rfl (fun b9 => ?_)
 refine jN 9 ?_
 refine WL.buildSlice F.sl41 F.ez41 rfl rfl rfl rfl jB rfl (fun b44 => ?_)
 refine jN 1 ?_
 refine WL.buildSlice F.sl41 F.ez41 rfl rfl rfl rfl jB rfl (fun b45 => ?_)
 refine jN 1 ?_
 refine WL.buildSlice F.sl52 F.ez52 rfl rfl rfl rfl jB rfl (fun b46 => ?_)
 refine jN 1 ?_
 refine jC (β := Option Addr × Nat) (res := fun x => .tuple #[.agg #[.bool false,.int .u32 0,.slice x.1 1 x.2],.int .i64 0]) (cs := fun _ => []) F.fun31 rfl (fun w hS _ => (Solve_c 1 [[1],[-1]] (some ⟨b46,0,none⟩) 2 _ (.inr ⟨_,_,rfl⟩) w (RdLL.two (b1 := b44) (b2 := b45) (b3 := b46) (c1 := [1]) (c2 := [-1]) hS jM jM jM) 20 ⟨false,0,[[]]⟩ (by decide) (fun n hn _ => ?_)).mono (fun e w2 h => ?_)) (fun x47 => ?_)
 ·have : n = 1 := by omega
  subst this
  exact sol2
 ·rcases h with h | h
  ·exact absurd may2 h.1
  obtain ⟨_,x,F,vs,h1,h2⟩ := h
  exact ⟨x,h1,h2.sublist (List.nil_sublist _)⟩
 refine jN 7 ?_
 refine WL.alloc F.zero69 rfl (fun b11 => ?_)
 refine jN 14 ?_
 refine WA.splitB (i := 52) rfl (fun g52 => ?_) (fun g52 => ?_)
 ·refine jN 10 ?_
  refine WA.splitB (i := 56) rfl (fun g56 => ?_) (fun g56 => ?_)
  ·refine jN 13 ?_
   refine WA.splitB (i := 61) rfl (fun g61 => ?_) (fun g61 => ?_)
   ·refine jN 16 ?_
    refine WA.splitB (i := 67) rfl (fun g67 => ?_) (fun g67 => ?_)
    ·refine jN 10 ?_
     refine WA.splitB (i := 71) rfl (fun g71 => ?_) (fun g71 => ?_)
     ·refine jN 10 ?_
      refine WA.splitB (i := 75) rfl (fun g75 => ?_) (fun g75 => ?_)
      ·refine jN 10 ?_
       refine WA.splitB (i := 79) rfl (fun g79 => ?_) (fun g79 => ?_)
       ·refine jN 10 ?_
        refine WA.splitB (i := 83) rfl (fun g83 => ?_) (fun g83 => ?_)
        ·refine jN 10 ?_
         refine WA.splitB (i := 87) rfl (fun g87 => ?_) (fun g87 => ?_)
         ·refine jN 10 ?_
          refine WA.splitB (i := 91) rfl (fun g91 => ?_) (fun g91 => ?_)
          ·refine jN 13 ?_
           refine WA.splitB (i := 96) rfl (fun g96 => ?_) (fun g96 => ?_)
           ·refine jN 10 ?_
            refine WA.splitB (i := 100) rfl (fun g100 => ?_) (fun g100 => ?_)
            ·refine jN 13 ?_
             refine WA.splitB (i := 105) rfl (fun g105 => ?_) (fun g105 => ?_)
             ·refine jN 19 ?_
              exact WQ.ret (rs := [.tmp 0]) rfl (.tmp rfl .nil) (fun w hS => ⟨rfl,hS.sublist (List.nil_sublist _)⟩)
             exact absurd g105 (by decide)
            exact absurd g100 (by decide)
           exact absurd g96 (by decide)
          exact absurd g91 (by decide)
         exact absurd g87 (by decide)
        exact absurd g83 (by decide)
       exact absurd g79 (by decide)
      exact absurd g75 (by decide)
     exact absurd g71 (by decide)
    exact absurd g67 (by decide)
   exact absurd g61 (by decide)
  exact absurd g56 (by decide)
 exact absurd g52 (by decide)
structure C1 where
 f : Nat
 out : List Int
 ad : Option Addr
 ac : Nat
structure C2 where
 i : Nat
 out : List Int
 ad : Option Addr
 ac : Nat
def refuted (ls : List (List Int)) (c : List Int) : Bool := match Fm.consF 66 ls (c.map (fun x => -x)) with | some o => Fm.conflictB ls o | none => false
def verF : List (List Int) → List (List Int) → Nat → Int
 | _,[],i => i
 | ls,c :: ps,i => if refuted ls c then (if c.isEmpty then -1 else verF (ls ++ [c]) ps (i + 1)) else i
def satL (M : Nat) (x : Int) : Bool := if 0 < x then M.testBit (x - 1).toNat else !M.testBit (-x - 1).toNat
def satC (M : Nat) (c : List Int) : Bool := c.any (satL M)
def holdsB (ls : List (List Int)) (M : Nat) : Bool := ls.all (satC M)
theorem satL_neg {M : Nat} {x : Int} (hx : x ≠ 0) : satL M (-x) = !satL M x := by
 unfold satL
 by_cases h : 0 < x
 ·rw [if_pos h,if_neg (by omega),Int.neg_neg]
 rw [if_neg h,if_pos (by omega),Bool.not_not]
theorem der_mem {ls : List (List Int)} {fixed : List Int} {z : Int} (h : Fm.Der ls fixed z) : z ∈ fixed ∨ ∃ c ∈ ls,z ∈ c := by
 cases h with
 | fix h => exact .inl h
 | unit hc hx _ => exact .inr ⟨_,hc,hx⟩
theorem der_mono {ls ls' : List (List Int)} {fixed fixed' : List Int} {z : Int} (h1 : ∀ c ∈ ls,c ∈ ls') (h2 : ∀ x ∈ fixed,x ∈ fixed') (h : Fm.Der ls fixed z) : Fm.Der ls' fixed' z := by
 induction h with
 | fix h => exact .fix (h2 _ h)
 | unit hc hx _ ih => exact .unit (h1 _ hc) hx ih
theorem der_sat {ls : List (List Int)} {fixed : List Int} {z : Int} {M : Nat} (hl : ∀ c ∈ ls,∀ x ∈ c,x ≠ 0) (hM : holdsB ls M = true) (hf : ∀ x ∈ fixed,satL M x = true) (h : Fm.Der ls fixed z) : satL M z = true := by
 induction h with
 | fix h => exact hf _ h
 | @unit c x hc hx h ih =>
  obtain ⟨m,hm,hs⟩ := List.any_eq_true.1 (List.all_eq_true.1 hM c hc)
  by_cases he : m = x
  ·rw [← he]; exact hs
  ·have := ih m hm he
   rw [satL_neg (hl c hc m hm),hs] at this
   cases this
theorem conf_sat {ls : List (List Int)} {fixed : List Int} {M : Nat} (hl : ∀ c ∈ ls,∀ x ∈ c,x ≠ 0) (hf0 : ∀ x ∈ fixed,x ≠ 0) (hM : holdsB ls M = true) (hf : ∀ x ∈ fixed,satL M x = true) : ¬ Fm.Conf ls fixed := by
 rintro (h | ⟨x,h1,h2⟩)
 ·have := List.all_eq_true.1 hM [] h
  simp [satC] at this
 have hx : x ≠ 0 := by
  rcases der_mem h1 with h | ⟨c,h3,h4⟩
  ·exact hf0 x h
  ·exact hl c h3 x h4
 have e1 := der_sat hl hM hf h1
 have e2 := der_sat hl hM hf h2
 rw [satL_neg hx,e1] at e2
 cases e2
theorem negs_negs (c : List Int) : (c.map (fun x => -x)).map (fun x => -x) = c := by simp [Function.comp_def]
theorem refuted_iff {ls : List (List Int)} (hl : ∀ c ∈ ls,∀ x ∈ c,Lit x) (c : List Int) : refuted ls c = true ↔ Fm.Conf ls (c.map (fun x => -x)) := by
 obtain ⟨o,ho⟩ := Fm.cons_ends (fun d hd x hx => (hl d hd x hx).2) (c.map (fun x => -x))
 have hc := Fm.cons_says (fun x hx => hx) (fun z hz => .fix hz) ho
 unfold refuted
 rw [ho]
 exact Fm.conflict_says hc
theorem clo_says {ls : List (List Int)} {fixed : List Int} {k' : Fm.Kn} {ok : Bool} (hl : ∀ c ∈ ls,∀ x ∈ c,x ≠ 0) (hf : ∀ x ∈ fixed,x ≠ 0) (h1 : Fm.closedF 65 ls (fixed.foldl Fm.withK (0,0)) = some (k',ok)) :
  (ok = false → Fm.Conf ls fixed) ∧ (ok = true → ¬ Fm.Conf ls fixed ∧ ∀ z : Int,z ≠ 0 → (Fm.hasK k' z = true ↔ Fm.Der ls fixed z)) :=
 Fm.closed_says hl hf (fixed := fixed) (fun x hx => by rw [Fm.hasK_fold (hf x hx) hf]; simp [hx]) (fun z hz h => by
  rw [Fm.hasK_fold hz hf,Fm.hasK_zero,Bool.or_false,decide_eq_true_eq] at h
  exact .fix h) h1
theorem openK_zero {k : Fm.Kn} : ∀ {n : Nat},Fm.openK k n = 0 → ∀ v : Nat,0 < v → v ≤ n → Fm.hasK k (v : Int) = true ∨ Fm.hasK k (-(v : Int)) = true
 | 0,_,v,h1,h2 => by omega
 | n + 1,h,v,h1,h2 => by
  simp only [Fm.openK] at h
  split at h
  ·omega
  ·rename_i h3
   by_cases hv : v = n + 1
   ·subst hv
    cases e1 : Fm.hasK k ((n + 1 : Nat) : Int) with
    | true => exact .inl rfl
    | false =>
     cases e2 : Fm.hasK k (-((n + 1 : Nat) : Int)) with
     | true => exact .inr rfl
     | false => exact absurd (by rw [e1,e2]; rfl) h3
   ·exact openK_zero h v h1 (by omega)
theorem openK_pos {k : Fm.Kn} : ∀ {n : Nat},Fm.openK k n ≠ 0 → 0 < Fm.openK k n ∧ Fm.openK k n ≤ n ∧ Fm.hasK k (Fm.openK k n : Int) = false ∧ Fm.hasK k (-(Fm.openK k n : Int)) = false ∧ ∀ v : Nat,Fm.openK k n < v → v ≤ n → Fm.hasK k (v : Int) = true ∨ Fm.hasK k (-(v : Int)) = true
 | 0,h => by simp [Fm.openK] at h
 | n + 1,h => by
  simp only [Fm.openK] at h ⊢
  split
  ·rename_i h3
   simp only [Bool.and_eq_true,Bool.not_eq_true'] at h3
   exact ⟨by omega,Nat.le_refl _,h3.1,h3.2,fun v h1 h2 => by omega⟩
  ·rename_i h3
   rw [if_neg h3] at h
   obtain ⟨g1,g2,g3,g4,g5⟩ := openK_pos (n := n) h
   refine ⟨g1,by omega,g3,g4,fun v h1 h2 => ?_⟩
   by_cases hv : v = n + 1
   ·subst hv
    cases e1 : Fm.hasK k ((n + 1 : Nat) : Int) with
    | true => exact .inl rfl
    | false =>
     cases e2 : Fm.hasK k (-((n + 1 : Nat) : Int)) with
     | true => exact .inr rfl
     | false => exact absurd (by rw [e1,e2]; rfl) h3
   ·exact g5 v h1 (by omega)
theorem dec_len : ∀ {path : List Int} {b : Nat},path.Pairwise (fun x y => y.natAbs < x.natAbs) → (∀ x ∈ path,x ≠ 0 ∧ x.natAbs ≤ b) → path.length ≤ b
 | [],_,_,_ => Nat.zero_le _
 | x :: path,b,hp,hb => by
  obtain ⟨h1,h2⟩ := List.pairwise_cons.1 hp
  have hx := hb x (by simp)
  have := dec_len (b := b - 1) h2 (fun y hy => ⟨(hb y (by simp [hy])).1,by have := h1 y hy; omega⟩)
  simp only [List.length_cons]
  omega
theorem first_bad (M : Nat) : ∀ (path : List Int),(∀ x ∈ path,satL M x = true) ∨ ∃ i x,path[i]? = some x ∧ satL M x = false ∧ ∀ y ∈ path.take i,satL M y = true
 | [] => .inl (fun x hx => by simp at hx)
 | x :: path => by
  cases hx : satL M x with
  | false => exact .inr ⟨0,x,rfl,hx,fun y hy => by simp at hy⟩
  | true =>
   rcases first_bad M path with h | ⟨i,y,h1,h2,h3⟩
   ·refine .inl fun y hy => ?_
    rcases List.mem_cons.1 hy with rfl | hy
    ·exact hx
    ·exact h y hy
   ·refine .inr ⟨i + 1,y,by simpa using h1,h2,fun z hz => ?_⟩
    rw [List.take_succ_cons] at hz
    rcases List.mem_cons.1 hz with rfl | hz
    ·exact hx
    ·exact h3 z hz
theorem verF_run : ∀ (ps rest ls : List (List Int)) (i : Nat),(∀ j c,ps[j]? = some c → refuted (ls ++ ps.take j) c = true ∧ c ≠ []) → verF ls (ps ++ rest) i = verF (ls ++ ps) rest (i + ps.length)
 | [],rest,ls,i,_ => by simp
 | p :: ps,rest,ls,i,h => by
  have h0 := h 0 p rfl
  simp only [List.take_zero,List.append_nil] at h0
  rw [List.cons_append,verF,if_pos h0.1,if_neg (by simpa using h0.2),verF_run ps rest (ls ++ [p]) (i + 1) (fun j c hj => by
   have := h (j + 1) c (by simpa using hj)
   rw [List.take_succ_cons] at this
   simpa using this)]
  rw [List.length_cons,List.append_assoc,List.singleton_append]
  congr 1
  omega
theorem lt_of_bits : ∀ (i x y : Nat),x.testBit i = false → y.testBit i = true → (∀ j,i < j → x.testBit j = y.testBit j) → x < y
 | 0,x,y,h1,h2,h => by
  have e : x / 2 = y / 2 := Nat.eq_of_testBit_eq fun j => by rw [Nat.testBit_div_two,Nat.testBit_div_two]; exact h (j + 1) (by omega)
  have g1 := Nat.mod_two_eq_zero_iff_testBit_zero.2 h1
  have g2 := Nat.mod_two_eq_one_iff_testBit_zero.2 h2
  omega
 | i + 1,x,y,h1,h2,h => by
  rw [Nat.testBit_add_one] at h1 h2
  have := lt_of_bits i (x / 2) (y / 2) h1 h2 fun j hj => by rw [Nat.testBit_div_two,Nat.testBit_div_two]; exact h (j + 1) (by omega)
  omega
structure SI (n : Nat) (ls : List (List Int)) (path : List Int) (proof : List (List Int)) : Prop where
 lit : ∀ x ∈ path,x ≠ 0 ∧ x.natAbs ≤ n
 dec : path.Pairwise (fun x y => y.natAbs < x.natAbs)
 hi : ∀ i x,path[i]? = some x → ∀ v : Nat,x.natAbs < v → v ≤ n → Fm.Der (ls ++ proof) (path.take i) (v : Int) ∨ Fm.Der (ls ++ proof) (path.take i) (-(v : Int))
 pos : ∀ i x,path[i]? = some x → 0 < x → ((path.take i).map (fun y => -y) ++ [x]) ∈ ls ++ proof
 ver : ∀ i c,proof[i]? = some c → refuted (ls ++ proof.take i) c = true ∧ c ≠ []
 fit : ∀ c ∈ proof,(∀ x ∈ c,x ≠ 0 ∧ x.natAbs ≤ n) ∧ c.length ≤ 64
 mdl : ∀ M,holdsB ls M = true → holdsB (ls ++ proof) M = true
theorem lit_le {n : Nat} (hn : n ≤ 24) {ls : List (List Int)} (h : ∀ c ∈ ls,∀ x ∈ c,x ≠ 0 ∧ x.natAbs ≤ n) : ∀ c ∈ ls,∀ x ∈ c,Lit x := fun c hc x hx => by
 have := h c hc x hx
 exact ⟨this.1,by omega,by omega⟩
theorem SI.all {n : Nat} {ls proof : List (List Int)} {path : List Int} (h : SI n ls path proof) (hls : ∀ c ∈ ls,∀ x ∈ c,x ≠ 0 ∧ x.natAbs ≤ n) : ∀ c ∈ ls ++ proof,∀ x ∈ c,x ≠ 0 ∧ x.natAbs ≤ n := fun c hc => by
 rcases List.mem_append.1 hc with hc | hc
 ·exact hls c hc
 ·exact (h.fit c hc).1
theorem SI.pop {n : Nat} {ls proof : List (List Int)} {p : List Int} {x : Int} (hn : n ≤ 24) (hls : ∀ c ∈ ls,∀ x ∈ c,x ≠ 0 ∧ x.natAbs ≤ n) (h : SI n ls (p ++ [x]) proof) (hc : Fm.Conf (ls ++ proof) (p ++ [x])) : SI n ls p (proof ++ [(p ++ [x]).map (fun y => -y)]) := by
 have hall := h.all hls
 have hmono : ∀ c ∈ ls ++ proof,c ∈ ls ++ (proof ++ [(p ++ [x]).map (fun y => -y)]) := fun c hc => by
  rw [← List.append_assoc]; exact List.mem_append_left _ hc
 have hidx : ∀ i y,p[i]? = some y → (p ++ [x])[i]? = some y ∧ (p ++ [x]).take i = p.take i := fun i y hi => by
  have hlt := (List.getElem?_eq_some_iff.1 hi).1
  exact ⟨by rw [List.getElem?_append_left hlt]; exact hi,by rw [List.take_append_of_le_length (by omega)]⟩
 refine ⟨fun y hy => h.lit y (by simp [hy]),(List.pairwise_append.1 h.dec).1,fun i y hi v h1 h2 => ?_,fun i y hi h1 => ?_,fun i c hi => ?_,fun c hc2 => ?_,fun M hM => ?_⟩
 ·obtain ⟨g1,g2⟩ := hidx i y hi
  rcases h.hi i y g1 v h1 h2 with g | g
  ·rw [g2] at g; exact .inl (der_mono hmono (fun _ h => h) g)
  rw [g2] at g; exact .inr (der_mono hmono (fun _ h => h) g)
 ·obtain ⟨g1,g2⟩ := hidx i y hi
  have := h.pos i y g1 h1
  rw [g2] at this
  exact hmono _ this
 ·by_cases hlt : i < proof.length
  ·rw [List.getElem?_append_left hlt] at hi
   rw [List.take_append_of_le_length (by omega)]
   exact h.ver i c hi
  rw [List.getElem?_append_right (by omega)] at hi
  have hie : i = proof.length := by
   have := (List.getElem?_eq_some_iff.1 hi).1
   simp at this; omega
  subst hie
  rw [Nat.sub_self] at hi
  injection hi with hi
  subst hi
  refine ⟨?_,by simp⟩
  rw [List.take_left' rfl,refuted_iff (lit_le hn hall),negs_negs]
  exact hc
 ·rcases List.mem_append.1 hc2 with hc2 | hc2
  ·exact h.fit c hc2
  rw [List.mem_singleton] at hc2
  subst hc2
  refine ⟨fun y hy => ?_,?_⟩
  ·obtain ⟨z,hz,rfl⟩ := List.mem_map.1 hy
   have := h.lit z hz
   exact ⟨by omega,by omega⟩
  have := dec_len h.dec h.lit
  rw [List.length_map]; omega
 have hM' := h.mdl M hM
 rw [← List.append_assoc]
 unfold holdsB at hM' ⊢
 rw [List.all_append,hM',Bool.true_and]
 simp only [List.all_cons,List.all_nil,Bool.and_true]
 cases hs : satC M ((p ++ [x]).map (fun y => -y)) with
 | true => rfl
 | false =>
  refine absurd hc (conf_sat (fun c hc x hx => (hall c hc x hx).1) (fun y hy => (h.lit y hy).1) hM' fun y hy => ?_)
  have := List.any_eq_false.1 hs (-y) (List.mem_map.2 ⟨y,hy,rfl⟩)
  rw [satL_neg (h.lit y hy).1] at this
  simpa using this
def tS (v : Nat) : Nat := 4 * 2 ^ v - 3
def rS (x : Int) : Nat := if x < 0 then tS (x.natAbs - 1) + 2 else 1
def remS (n : Nat) (path : List Int) : Nat := match path.getLast? with | none => n | some x => x.natAbs - 1
def muS (n : Nat) (mode : Bool) (path : List Int) : Nat := (path.map rS).sum + 1 + (if mode then 0 else tS (remS n path))
theorem tS_succ (v : Nat) : tS (v + 1) = 2 * tS v + 3 := by
 have : 0 < 2 ^ v := Nat.pow_pos (by decide)
 unfold tS; rw [Nat.pow_succ]; omega
theorem tS_pos (v : Nat) : 0 < tS v := by
 have : 0 < 2 ^ v := Nat.pow_pos (by decide)
 unfold tS; omega
theorem tS_mono {u v : Nat} (h : u ≤ v) : tS u ≤ tS v := by
 have := Nat.pow_le_pow_right (n := 2) (by decide) h
 unfold tS; omega
def GoodS (n : Nat) (ls : List (List Int)) (r : Fm.Ans) : Prop :=
 (r.ok = true ∧ r.proof = [] ∧ r.model < 2 ^ n ∧ holdsB ls r.model = true ∧ ∀ M,M < 2 ^ n → holdsB ls M = true → r.model ≤ M) ∨
 (r.ok = false ∧ r.model = 0 ∧ verF ls r.proof 0 = -1 ∧ (∀ c ∈ r.proof,(∀ x ∈ c,x ≠ 0 ∧ x.natAbs ≤ n) ∧ c.length ≤ 64) ∧ ∀ M,holdsB ls M = false)
theorem model_good {n : Nat} {ls proof : List (List Int)} {path : List Int} {k : Fm.Kn} (hn : n ≤ 24) (hls : ∀ c ∈ ls,∀ x ∈ c,x ≠ 0 ∧ x.natAbs ≤ n) (h : SI n ls path proof) (hc : ¬ Fm.Conf (ls ++ proof) path) (hk : ∀ z : Int,z ≠ 0 → (Fm.hasK k z = true ↔ Fm.Der (ls ++ proof) path z)) (ho : Fm.openK k n = 0) :
  k.1 < 2 ^ n ∧ holdsB ls k.1 = true ∧ ∀ M,M < 2 ^ n → holdsB ls M = true → k.1 ≤ M := by
 have hall := h.all hls
 have hbit : ∀ i : Nat,k.1.testBit i = Fm.hasK k ((i : Int) + 1) := fun i => by
  unfold Fm.hasK
  rw [if_pos (by omega)]
  congr 1
  omega
 have hsmall : ∀ i,n ≤ i → k.1.testBit i = false := fun i hi => by
  rw [hbit]
  cases e : Fm.hasK k ((i : Int) + 1) with
  | false => rfl
  | true =>
   rcases der_mem ((hk _ (by omega)).1 e) with g | ⟨c,g1,g2⟩
   ·have := (h.lit _ g).2; omega
   ·have := (hall c g1 _ g2).2; omega
 have hsat : ∀ z : Int,z ≠ 0 → z.natAbs ≤ n → satL k.1 z = Fm.hasK k z := fun z hz hzn => by
  unfold satL
  by_cases hp : 0 < z
  ·rw [if_pos hp]; unfold Fm.hasK; rw [if_pos hp]
  ·rw [if_neg hp]
   have e1 : k.1.testBit (-z - 1).toNat = Fm.hasK k (-z) := by unfold Fm.hasK; rw [if_pos (by omega)]
   rw [e1]
   rcases openK_zero ho z.natAbs (by omega) hzn with g | g
   ·have e2 : ((z.natAbs : Nat) : Int) = -z := by omega
    rw [e2] at g
    rw [g]
    cases e3 : Fm.hasK k z with
    | false => rfl
    | true => exact absurd (.inr ⟨z,(hk z hz).1 e3,(hk (-z) (by omega)).1 g⟩) hc
   ·have e2 : (-((z.natAbs : Nat) : Int)) = z := by omega
    rw [e2] at g
    rw [g]
    cases e3 : Fm.hasK k (-z) with
    | false => rfl
    | true => exact absurd (.inr ⟨z,(hk z hz).1 g,(hk (-z) (by omega)).1 e3⟩) hc
 refine ⟨Nat.lt_pow_two_of_testBit _ hsmall,List.all_eq_true.2 fun c hcm => ?_,fun M hM hh => ?_⟩
 ·have hcm' : c ∈ ls ++ proof := List.mem_append_left _ hcm
  cases e : satC k.1 c with
  | true => rfl
  | false =>
   refine absurd ?_ hc
   have hno : ∀ m ∈ c,Fm.Der (ls ++ proof) path (-m) := fun m hm => by
    have g := List.any_eq_false.1 e m hm
    have hm0 := hls c hcm m hm
    rw [hsat m hm0.1 hm0.2] at g
    refine (hk (-m) (by omega)).1 ?_
    rcases openK_zero ho m.natAbs (by omega) hm0.2 with g2 | g2
    ·by_cases hp : 0 < m
     ·rw [show ((m.natAbs : Nat) : Int) = m by omega] at g2; exact absurd g2 g
     ·rw [show ((m.natAbs : Nat) : Int) = -m by omega] at g2; exact g2
    ·by_cases hp : 0 < m
     ·rw [show ((m.natAbs : Nat) : Int) = m by omega] at g2; exact g2
     ·rw [show (-((m.natAbs : Nat) : Int)) = m by omega] at g2; exact absurd g2 g
   cases c with
   | nil => exact .inl hcm'
   | cons x r => exact .inr ⟨x,.unit hcm' (by simp) (fun m hm _ => hno m hm),hno x (by simp)⟩
 have hM' := h.mdl M hh
 have hl0 : ∀ c ∈ ls ++ proof,∀ x ∈ c,x ≠ 0 := fun c hc x hx => (hall c hc x hx).1
 have agree : ∀ (fx : List Int),(∀ y ∈ fx,y ∈ path) → (∀ y ∈ fx,satL M y = true) → ∀ v : Nat,0 < v → v ≤ n → Fm.Der (ls ++ proof) fx (v : Int) ∨ Fm.Der (ls ++ proof) fx (-(v : Int)) → k.1.testBit (v - 1) = M.testBit (v - 1) := fun fx hsub hfx v hv hvn hd => by
  have e0 : ((v : Int) - 1).toNat = v - 1 := by omega
  rcases hd with hd | hd
  ·have g1 := der_sat hl0 hM' hfx hd
   have g2 := (hk (v : Int) (by omega)).2 (der_mono (fun _ h => h) hsub hd)
   unfold satL at g1
   rw [if_pos (by omega),e0] at g1
   unfold Fm.hasK at g2
   rw [if_pos (by omega),e0] at g2
   rw [g1,g2]
  ·have g1 := der_sat hl0 hM' hfx hd
   have g2 := (hk (-(v : Int)) (by omega)).2 (der_mono (fun _ h => h) hsub hd)
   have g3 := hsat (-(v : Int)) (by omega) (by omega)
   rw [satL_neg (by omega)] at g1 g3
   rw [g2] at g3
   unfold satL at g1 g3
   rw [if_pos (by omega),e0] at g1 g3
   simp at g1 g3
   rw [g1,g3]
 rcases first_bad M path with hg | ⟨i,x,h1,h2,h3⟩
 ·refine Nat.le_of_eq (Nat.eq_of_testBit_eq fun i => ?_)
  by_cases hi : n ≤ i
  ·rw [hsmall i hi,Nat.testBit_lt_two_pow (Nat.lt_of_lt_of_le hM (Nat.pow_le_pow_right (by decide) hi))]
  have hd : Fm.Der (ls ++ proof) path ((i + 1 : Nat) : Int) ∨ Fm.Der (ls ++ proof) path (-((i + 1 : Nat) : Int)) := by
   rcases openK_zero ho (i + 1) (by omega) (by omega) with g | g
   ·exact .inl ((hk _ (by omega)).1 g)
   ·exact .inr ((hk _ (by omega)).1 g)
  exact agree path (fun _ h => h) hg (i + 1) (by omega) (by omega) hd
 have hx := h.lit x (List.mem_of_getElem? h1)
 have hkx : Fm.hasK k x = true := (hk x hx.1).2 (.fix (List.mem_of_getElem? h1))
 by_cases hp : 0 < x
 ·exfalso
  have hm := List.all_eq_true.1 hM' _ (h.pos i x h1 hp)
  obtain ⟨m,hm1,hm2⟩ := List.any_eq_true.1 hm
  rcases List.mem_append.1 hm1 with hm1 | hm1
  ·obtain ⟨y,hy,rfl⟩ := List.mem_map.1 hm1
   have hy0 := (h.lit y (List.mem_of_mem_take hy)).1
   rw [satL_neg hy0,h3 y hy] at hm2
   cases hm2
  rw [List.mem_singleton] at hm1
  rw [hm1,h2] at hm2
  cases hm2
 have g3 := hsat x hx.1 hx.2
 rw [hkx] at g3
 unfold satL at g3 h2
 rw [if_neg hp] at g3 h2
 simp at g3 h2
 refine Nat.le_of_lt (lt_of_bits _ _ _ g3 h2 fun j hj => ?_)
 by_cases hjn : n ≤ j
 ·rw [hsmall j hjn,Nat.testBit_lt_two_pow (Nat.lt_of_lt_of_le hM (Nat.pow_le_pow_right (by decide) hjn))]
 exact agree (path.take i) (fun y hy => List.mem_of_mem_take hy) h3 (j + 1) (by omega) (by omega) (h.hi i x h1 (j + 1) (by omega) (by omega))
theorem SI.push {n : Nat} {ls proof : List (List Int)} {p : List Int} {y : Int} (h : SI n ls p proof) (hy : y ≠ 0 ∧ y.natAbs ≤ n) (hd : ∀ x ∈ p,y.natAbs < x.natAbs) (hh : ∀ v : Nat,y.natAbs < v → v ≤ n → Fm.Der (ls ++ proof) p (v : Int) ∨ Fm.Der (ls ++ proof) p (-(v : Int)))
  (hp : 0 < y → (p.map (fun z => -z) ++ [y]) ∈ ls ++ proof) : SI n ls (p ++ [y]) proof := by
 have hidx : ∀ i x,(p ++ [y])[i]? = some x → (p[i]? = some x ∧ (p ++ [y]).take i = p.take i) ∨ (x = y ∧ (p ++ [y]).take i = p) := fun i x hi => by
  by_cases hlt : i < p.length
  ·rw [List.getElem?_append_left hlt] at hi
   exact .inl ⟨hi,by rw [List.take_append_of_le_length (by omega)]⟩
  ·rw [List.getElem?_append_right (by omega)] at hi
   have hie : i = p.length := by
    have := (List.getElem?_eq_some_iff.1 hi).1
    simp at this; omega
   subst hie
   rw [Nat.sub_self] at hi
   injection hi with hi
   exact .inr ⟨hi.symm,List.take_left' rfl⟩
 refine ⟨fun x hx => ?_,?_,fun i x hi v h1 h2 => ?_,fun i x hi h1 => ?_,h.ver,h.fit,h.mdl⟩
 ·rcases List.mem_append.1 hx with hx | hx
  ·exact h.lit x hx
  rw [List.mem_singleton] at hx; rw [hx]; exact hy
 ·refine List.pairwise_append.2 ⟨h.dec,List.pairwise_singleton _ _,fun x hx z hz => ?_⟩
  rw [List.mem_singleton] at hz; rw [hz]; exact hd x hx
 ·rcases hidx i x hi with ⟨g1,g2⟩ | ⟨rfl,g2⟩
  ·rw [g2]; exact h.hi i x g1 v h1 h2
  rw [g2]; exact hh v h1 h2
 rcases hidx i x hi with ⟨g1,g2⟩ | ⟨rfl,g2⟩
 ·rw [g2]; exact h.pos i x g1 h1
 rw [g2]; exact hp h1
theorem getLast_some {path : List Int} {x : Int} (h : path.getLast? = some x) : ∃ p,path = p ++ [x] := by
 obtain ⟨p,hp⟩ := List.getLast?_eq_some_iff.1 h
 exact ⟨p,hp⟩
theorem solve_ok {n : Nat} {ls : List (List Int)} (hn : n ≤ 24) (hls : ∀ c ∈ ls,∀ x ∈ c,x ≠ 0 ∧ x.natAbs ≤ n) : ∀ (f : Nat) (mode : Bool) (path : List Int) (proof : List (List Int)),SI n ls path proof → (mode = true → Fm.Conf (ls ++ proof) path) → muS n mode path ≤ f → ∃ r,Fm.solveF n f mode (ls ++ proof) path proof = some r ∧ GoodS n ls r
 | 0,mode,path,proof,_,_,hmu => by unfold muS at hmu; omega
 | f + 1,false,path,proof,h,_,hmu => by
  have hall := h.all hls
  have hL := lit_le hn hall
  obtain ⟨⟨k,ok⟩,hcl⟩ := Fm.closed_ends hL (path.foldl Fm.withK (0,0))
  have hsay := clo_says (fun c hc x hx => (hL c hc x hx).1) (fun x hx => (h.lit x hx).1) hcl
  simp only [Fm.solveF]
  rw [hcl]
  cases ok with
  | false =>
   simp only
   refine solve_ok hn hls f true path proof h (fun _ => hsay.1 rfl) ?_
   have := tS_pos (remS n path)
   unfold muS at hmu ⊢
   simp at hmu ⊢
   omega
  | true =>
   simp only
   obtain ⟨hnc,hk⟩ := hsay.2 rfl
   split
   ·rename_i ho
    obtain ⟨g1,g2,g3⟩ := model_good hn hls h hnc hk ho
    exact ⟨_,rfl,.inl ⟨rfl,rfl,g1,g2,g3⟩⟩
   ·rename_i ho
    obtain ⟨g1,g2,g3,g4,g5⟩ := openK_pos ho
    have hab : (-(Fm.openK k n : Int)).natAbs = Fm.openK k n := by omega
    have hder : ∀ v : Nat,Fm.openK k n < v → v ≤ n → Fm.Der (ls ++ proof) path (v : Int) ∨ Fm.Der (ls ++ proof) path (-(v : Int)) := fun v h1 h2 => by
     rcases g5 v h1 h2 with g | g
     ·exact .inl ((hk _ (by omega)).1 g)
     ·exact .inr ((hk _ (by omega)).1 g)
    have hdec : ∀ x ∈ path,Fm.openK k n < x.natAbs := fun x hx => by
     have hx0 := h.lit x hx
     obtain ⟨i,hi⟩ := List.getElem?_of_mem hx
     have hkx := (hk x hx0.1).2 (.fix hx)
     have hne : x.natAbs ≠ Fm.openK k n := fun he => by
      by_cases hp : 0 < x
      ·rw [show ((Fm.openK k n : Nat) : Int) = x by omega,hkx] at g3; cases g3
      ·rw [show (-((Fm.openK k n : Nat) : Int)) = x by omega,hkx] at g4; cases g4
     by_cases hlt : x.natAbs < Fm.openK k n
     ·exfalso
      rcases h.hi i x hi (Fm.openK k n) hlt g2 with g | g
      ·have := (hk _ (by omega)).2 (der_mono (fun _ h => h) (fun y hy => List.mem_of_mem_take hy) g)
       rw [g3] at this; cases this
      ·have := (hk _ (by omega)).2 (der_mono (fun _ h => h) (fun y hy => List.mem_of_mem_take hy) g)
       rw [g4] at this; cases this
     ·omega
    refine solve_ok hn hls f false (path ++ [-(Fm.openK k n : Int)]) proof (h.push ⟨by omega,by omega⟩ (fun x hx => by rw [hab]; exact hdec x hx) (fun v h1 h2 => hder v (by omega) h2) (fun hp => by omega)) (fun hh => by cases hh) ?_
    have hrem : Fm.openK k n ≤ remS n path := by
     unfold remS
     split
     ·exact g2
     ·rename_i x hx
      obtain ⟨p,rfl⟩ := getLast_some hx
      have := hdec x (by simp)
      omega
    have e1 := tS_mono hrem
    have e2 := tS_succ (Fm.openK k n - 1)
    rw [Nat.sub_add_cancel g1] at e2
    have e3 : rS (-(Fm.openK k n : Int)) = tS (Fm.openK k n - 1) + 2 := by
     unfold rS; rw [if_pos (by omega),hab]
    have e4 : remS n (path ++ [-(Fm.openK k n : Int)]) = Fm.openK k n - 1 := by
     unfold remS; rw [List.getLast?_concat]; simp only; rw [hab]
    unfold muS at hmu ⊢
    rw [e4]
    simp only [List.map_append,List.sum_append,List.map_cons,List.map_nil,List.sum_cons,List.sum_nil,e3] at hmu ⊢
    simp at hmu ⊢
    omega
 | f + 1,true,path,proof,h,hc,hmu => by
  have hall := h.all hls
  have hL := lit_le hn hall
  have hconf := hc rfl
  simp only [Fm.solveF]
  cases hgl : path.getLast? with
  | none =>
   have hpe : path = [] := by simpa using hgl
   subst hpe
   simp only
   refine ⟨_,rfl,.inr ⟨rfl,rfl,?_,?_,fun M => ?_⟩⟩
   ·show verF ls (proof ++ [List.map (fun x => -x) []]) 0 = -1
    rw [verF_run proof _ ls 0 h.ver]
    have href : refuted (ls ++ proof) (List.map (fun x => -x) []) = true := (refuted_iff hL _).2 hconf
    simp only [verF]
    rw [if_pos href]
    rfl
   ·intro c hc
    rcases List.mem_append.1 hc with hc | hc
    ·exact h.fit c hc
    ·rw [List.mem_singleton] at hc
     subst hc
     exact ⟨fun x hx => by simp at hx,by simp⟩
   ·cases hM : holdsB ls M with
    | false => rfl
    | true => exact absurd hconf (conf_sat (fun c hc x hx => (hL c hc x hx).1) (fun x hx => by simp at hx) (h.mdl M hM) (fun x hx => by simp at hx))
  | some last =>
   obtain ⟨p,rfl⟩ := getLast_some hgl
   simp only [List.dropLast_concat]
   have hpop := h.pop hn hls hconf
   have hx0 := h.lit last (by simp)
   have hdl : ∀ x ∈ p,last.natAbs < x.natAbs := fun x hx => (List.pairwise_append.1 h.dec).2.2 x hx last (by simp)
   have hii : (p ++ [last])[p.length]? = some last := by simp
   have htk : (p ++ [last]).take p.length = p := List.take_left' rfl
   have hstep : (p ++ [last]).map (fun y => -y) = p.map (fun y => -y) ++ [-last] := by simp
   have hin : (p ++ [last]).map (fun y => -y) ∈ ls ++ (proof ++ [(p ++ [last]).map (fun y => -y)]) := by simp
   have hmono : ∀ c ∈ ls ++ proof,c ∈ ls ++ (proof ++ [(p ++ [last]).map (fun y => -y)]) := fun c hc => by
    rw [← List.append_assoc]; exact List.mem_append_left _ hc
   split
   ·rename_i hneg
    rw [List.append_assoc]
    refine solve_ok hn hls f false (p ++ [-last]) (proof ++ [(p ++ [last]).map (fun y => -y)]) (hpop.push ⟨by omega,by omega⟩ (fun x hx => by have := hdl x hx; omega) (fun v h1 h2 => ?_) (fun _ => ?_)) (fun hh => by cases hh) ?_
    ·have := h.hi p.length last hii v (by omega) h2
     rw [htk] at this
     rcases this with g | g
     ·exact .inl (der_mono hmono (fun _ h => h) g)
     ·exact .inr (der_mono hmono (fun _ h => h) g)
    ·have := hin
     rw [hstep] at this ⊢
     exact this
    ·have e1 : rS last = tS (last.natAbs - 1) + 2 := by unfold rS; rw [if_pos hneg]
     have e2 : rS (-last) = 1 := by unfold rS; rw [if_neg (by omega)]
     have e3 : remS n (p ++ [-last]) = last.natAbs - 1 := by
      unfold remS; rw [List.getLast?_concat]; simp only [Int.natAbs_neg]
     unfold muS at hmu ⊢
     rw [e3]
     simp only [List.map_append,List.sum_append,List.map_cons,List.map_nil,List.sum_cons,List.sum_nil,e1,e2] at hmu ⊢
     simp at hmu ⊢
     omega
   ·rename_i hneg
    rw [List.append_assoc]
    refine solve_ok hn hls f true p (proof ++ [(p ++ [last]).map (fun y => -y)]) hpop (fun _ => ?_) ?_
    ·have h1 := hmono _ (h.pos p.length last hii (by omega))
     rw [htk] at h1
     have h2 := hin
     rw [hstep] at h2
     rw [hstep] at h1 ⊢
     refine .inr ⟨last,.unit h1 (by simp) (fun m hm hne => ?_),.unit h2 (by simp) (fun m hm hne => ?_)⟩
     ·rcases List.mem_append.1 hm with hm | hm
      ·obtain ⟨y,hy,rfl⟩ := List.mem_map.1 hm
       rw [Int.neg_neg]; exact .fix hy
      ·rw [List.mem_singleton] at hm; exact absurd hm hne
     ·rcases List.mem_append.1 hm with hm | hm
      ·obtain ⟨y,hy,rfl⟩ := List.mem_map.1 hm
       rw [Int.neg_neg]; exact .fix hy
      ·rw [List.mem_singleton] at hm; exact absurd hm hne
    ·have e1 : rS last = 1 := by unfold rS; rw [if_neg hneg]
     unfold muS at hmu ⊢
     simp only [List.map_append,List.sum_append,List.map_cons,List.map_nil,List.sum_cons,List.sum_nil,e1] at hmu ⊢
     simp at hmu ⊢
     omega
theorem solve_len {n : Nat} : ∀ {f : Nat} {mode : Bool} {all : List (List Int)} {path : List Int} {proof : List (List Int)} {r : Fm.Ans},Fm.solveF n f mode all path proof = some r → r.proof.length ≤ proof.length + f
 | 0,_,_,_,_,_,h => by simp [Fm.solveF] at h
 | f + 1,false,all,path,proof,r,h => by
  simp only [Fm.solveF] at h
  split at h
  ·cases h
  ·split at h
   ·injection h with h; subst h; simp
   ·have := solve_len h; omega
  ·have := solve_len h; omega
 | f + 1,true,all,path,proof,r,h => by
  simp only [Fm.solveF] at h
  split at h
  ·injection h with h; subst h; simp
  ·split at h
   ·have := solve_len h; simp at this; omega
   ·have := solve_len h; simp at this; omega
theorem und4b : Tryz.prog.underlying 4 = some .bool := by kernel_rfl
theorem run_eqB {a b : Bool} (x y : Operand) (w : World) : (do eqGuard .eql 4 x y (.bool a) (.bool b); binOp .eql 4 (.bool a) (.bool b) : Sem Value).run Tryz.prog w = .ok (.bool (a == b)) w := by
 have h := run_eql_bool (P := Tryz.prog) (w := w) 4 a b und4b
 simp [eqGuard,h]
theorem wrap_u64 {n : Nat} (h : n < 18446744073709551616) : IntKind.u64.wrap (n : Int) = (n : Int) := by
 simp only [IntKind.wrap,IntKind.bits,IntKind.signed,Bool.false_and,Bool.false_eq_true,if_false]
 omega
theorem conv39 {n : Nat} (hn : n < 9223372036854775808) (w : World) : (convert 3 61 (.int .i64 (n : Int))).run Tryz.prog w = .ok (.int .u64 (n : Int)) w := by
 have h := run_convert_int (P := Tryz.prog) w 3 61 .i64 (n : Int) (by kernel_rfl) (by kernel_rfl)
 rw [show Tryz.prog.intKind 61 = .u64 by kernel_rfl,wrap_u64 (by omega)] at h
 exact h
open Go Go.Eng Go.Proofs Go.ChangeShapes Go.WideShapes Go.ChangeAt Go.RowKit Go.ChangeMaps
end Go.Proofs.YtkgllhkhdjodeaaGreat
namespace Dg
theorem snocInd {α : Type} {motive : List α → Prop} (nil : motive []) (append_singleton : ∀ l x,motive l → motive (l ++ [x])) (l : List α) : motive l := by
 have h : ∀ m : List α,motive m.reverse := by
  intro m
  induction m with
  | nil => exact nil
  | cons x m ih => rw [List.reverse_cons]; exact append_singleton _ _ ih
 have := h l.reverse
 rwa [List.reverse_reverse] at this
inductive BT where
 | lf (b : Bool)
 | nd (v : Nat) (lo hi : BT)
def BT.beq : BT → BT → Bool
 | .lf a,.lf b => a == b
 | .nd v a b,.nd u c d => v == u && BT.beq a c && BT.beq b d
 | _,_ => false
theorem BT.beq_iff : ∀ {s t : BT},BT.beq s t = true ↔ s = t
 | .lf a,.lf b => by simp [BT.beq]
 | .nd v a b,.nd u c d => by
  simp only [BT.beq,Bool.and_eq_true,BT.beq_iff (s := a),BT.beq_iff (s := b),beq_iff_eq,BT.nd.injEq,and_assoc]
 | .lf a,.nd u c d => by simp [BT.beq]
 | .nd v a b,.lf c => by simp [BT.beq]
theorem BT.beq_self (t : BT) : BT.beq t t = true := BT.beq_iff.2 rfl
abbrev Cf := Nat → Bool
def BT.ev : BT → Cf → Bool
 | .lf b,_ => b
 | .nd v lo hi,c => bif c v then hi.ev c else lo.ev c
def BT.ok : Nat → BT → Prop
 | _,.lf _ => True
 | m,.nd v lo hi => m ≤ v ∧ v < 24 ∧ lo ≠ hi ∧ lo.ok (v + 1) ∧ hi.ok (v + 1)
theorem BT.ok_mono : ∀ {t : BT} {m n : Nat},t.ok n → m ≤ n → t.ok m
 | .lf _,_,_,_,_ => trivial
 | .nd v lo hi,m,n,h,hm => ⟨Nat.le_trans hm h.1,h.2⟩
def BT.size : BT → Nat
 | .lf _ => 0
 | .nd _ lo hi => lo.size + hi.size + 1
theorem BT.size_le : ∀ {t : BT} {m : Nat},t.ok m → m ≤ 24 → t.size + 1 ≤ 2 ^ (24 - m)
 | .lf _,m,_,_ => Nat.one_le_two_pow
 | .nd v lo hi,m,h,hm => by
  obtain ⟨h1,h2,_,h4,h5⟩ := h
  have a := BT.size_le h4 (by omega)
  have b := BT.size_le h5 (by omega)
  have e : 2 ^ (24 - v) = 2 ^ (24 - (v + 1)) + 2 ^ (24 - (v + 1)) := by
   rw [show 24 - v = (24 - (v + 1)) + 1 by omega,Nat.pow_succ]; omega
  have l : 2 ^ (24 - v) ≤ 2 ^ (24 - m) := Nat.pow_le_pow_right (by decide) (by omega)
  simp only [BT.size]; omega
theorem BT.ev_above : ∀ {t : BT} {m : Nat} {c d : Cf},t.ok m → (∀ i,m ≤ i → i < 24 → c i = d i) → t.ev c = t.ev d
 | .lf _,_,_,_,_,_ => rfl
 | .nd v lo hi,m,c,d,h,he => by
  obtain ⟨h1,h2,_,h4,h5⟩ := h
  have a := BT.ev_above h4 (fun i hi h24 => he i (by omega) h24)
  have b := BT.ev_above h5 (fun i hi h24 => he i (by omega) h24)
  simp only [BT.ev,he v h1 h2,a,b]
def upd (c : Cf) (v : Nat) (b : Bool) : Cf := fun i => if i = v then b else c i
theorem upd_self (c : Cf) (v : Nat) (b : Bool) : upd c v b v = b := if_pos rfl
theorem upd_ne (c : Cf) {v i : Nat} (b : Bool) (h : i ≠ v) : upd c v b i = c i := if_neg h
theorem BT.ev_upd {t : BT} {m v : Nat} (h : t.ok m) (hv : v < m) (c : Cf) (b : Bool) : t.ev (upd c v b) = t.ev c :=
 BT.ev_above h (fun i hi _ => upd_ne _ _ (by omega))
theorem BT.ev_lo {v : Nat} {lo hi : BT} {m : Nat} (h : (BT.nd v lo hi).ok m) (c : Cf) : (BT.nd v lo hi).ev (upd c v false) = lo.ev c := by
 simp only [BT.ev,upd_self,cond_false]
 exact BT.ev_upd h.2.2.2.1 (Nat.lt_succ_self _) c false
theorem BT.ev_hi {v : Nat} {lo hi : BT} {m : Nat} (h : (BT.nd v lo hi).ok m) (c : Cf) : (BT.nd v lo hi).ev (upd c v true) = hi.ev c := by
 simp only [BT.ev,upd_self,cond_true]
 exact BT.ev_upd h.2.2.2.2 (Nat.lt_succ_self _) c true
theorem BT.unique : ∀ {s t : BT} {m n : Nat},s.ok m → t.ok n → (∀ c,s.ev c = t.ev c) → s = t
 | .lf a,.lf b,_,_,_,_,he => by have := he (fun _ => false); simp only [BT.ev] at this; rw [this]
 | .lf a,.nd u c d,m,n,hs,ht,he => by
  refine absurd ?_ ht.2.2.1
  refine BT.unique ht.2.2.2.1 ht.2.2.2.2 (fun x => ?_)
  rw [← BT.ev_lo ht x,← BT.ev_hi ht x,← he,← he]; rfl
 | .nd u c d,.lf a,m,n,hs,ht,he => by
  refine absurd ?_ hs.2.2.1
  refine BT.unique hs.2.2.2.1 hs.2.2.2.2 (fun x => ?_)
  rw [← BT.ev_lo hs x,← BT.ev_hi hs x,he,he]; rfl
 | .nd v a b,.nd u c d,m,n,hs,ht,he => by
  rcases Nat.lt_trichotomy v u with h | h | h
  ·refine absurd ?_ hs.2.2.1
   refine BT.unique hs.2.2.2.1 hs.2.2.2.2 (fun x => ?_)
   have ht' : (BT.nd u c d).ok (v + 1) := BT.ok_mono (m := v + 1) (n := u) ⟨Nat.le_refl _,ht.2⟩ h
   rw [← BT.ev_lo hs x,← BT.ev_hi hs x,he,he,BT.ev_upd ht' (Nat.lt_succ_self _),BT.ev_upd ht' (Nat.lt_succ_self _)]
  ·subst h
   have h1 : a = c := BT.unique hs.2.2.2.1 ht.2.2.2.1 (fun x => by rw [← BT.ev_lo hs x,← BT.ev_lo ht x,he])
   have h2 : b = d := BT.unique hs.2.2.2.2 ht.2.2.2.2 (fun x => by rw [← BT.ev_hi hs x,← BT.ev_hi ht x,he])
   rw [h1,h2]
  ·refine absurd ?_ ht.2.2.1
   refine BT.unique ht.2.2.2.1 ht.2.2.2.2 (fun x => ?_)
   have hs' : (BT.nd v a b).ok (u + 1) := BT.ok_mono (m := u + 1) (n := v) ⟨Nat.le_refl _,hs.2⟩ h
   rw [← BT.ev_lo ht x,← BT.ev_hi ht x,← he,← he,BT.ev_upd hs' (Nat.lt_succ_self _),BT.ev_upd hs' (Nat.lt_succ_self _)]
termination_by s t => s.size + t.size
decreasing_by all_goals simp only [BT.size]; omega
def mkN (v : Nat) (a b : BT) : BT := bif BT.beq a b then a else .nd v a b
theorem mkN_same (v : Nat) (a : BT) : mkN v a a = a := by simp [mkN,BT.beq_self]
theorem mkN_ne {v : Nat} {a b : BT} (h : a ≠ b) : mkN v a b = .nd v a b := by
 have : BT.beq a b = false := by
  cases hb : BT.beq a b with
  | true => exact absurd (BT.beq_iff.1 hb) h
  | false => rfl
 simp [mkN,this]
theorem mkN_ok {v m : Nat} {a b : BT} (hm : m ≤ v) (hv : v < 24) (ha : a.ok (v + 1)) (hb : b.ok (v + 1)) : (mkN v a b).ok m := by
 by_cases h : a = b
 ·subst h; rw [mkN_same]; exact BT.ok_mono ha (by omega)
 rw [mkN_ne h]; exact ⟨hm,hv,h,ha,hb⟩
theorem mkN_ev (v : Nat) (a b : BT) (c : Cf) : (mkN v a b).ev c = bif c v then b.ev c else a.ev c := by
 by_cases h : a = b
 ·subst h; rw [mkN_same]; cases c v <;> rfl
 rw [mkN_ne h]; rfl
abbrev Dec := Nat × Nat × Nat
theorem getD_left {α : Type} {a b : List α} {d : α} {n : Nat} (h : n < a.length) : (a ++ b).getD n d = a.getD n d := by
 simp [List.getD,List.getElem?_append_left h]
theorem getD_right {α : Type} {a b : List α} {d : α} {n : Nat} (h : a.length ≤ n) : (a ++ b).getD n d = b.getD (n - a.length) d := by
 simp [List.getD,List.getElem?_append_right h]
def tabT (l : List Dec) : List BT := l.foldl (fun out x => out ++ [.nd x.1 (out.getD x.2.1 (.lf false)) (out.getD x.2.2 (.lf false))]) [.lf false,.lf true]
def trs (l : List Dec) (p : Nat) : BT := (tabT l).getD p (.lf false)
theorem tabT_snoc (l : List Dec) (x : Dec) : tabT (l ++ [x]) = tabT l ++ [.nd x.1 (trs l x.2.1) (trs l x.2.2)] := by
 simp only [tabT,trs,List.foldl_append,List.foldl_cons,List.foldl_nil]
theorem tabT_len : ∀ l : List Dec,(tabT l).length = l.length + 2 := by
 intro l
 induction l using snocInd with
 | nil => rfl
 | append_singleton l x ih => rw [tabT_snoc,List.length_append,ih]; simp
theorem trs_zero (l : List Dec) : trs l 0 = .lf false ∧ trs l 1 = .lf true := by
 induction l using snocInd with
 | nil => exact ⟨rfl,rfl⟩
 | append_singleton l x ih =>
  have := tabT_len l
  unfold trs at ih ⊢
  rw [tabT_snoc,getD_left (by omega),getD_left (by omega)]
  exact ih
theorem trs_snoc_old {l : List Dec} {x : Dec} {p : Nat} (h : p < l.length + 2) : trs (l ++ [x]) p = trs l p := by
 unfold trs; rw [tabT_snoc,getD_left (by rw [tabT_len]; exact h)]
theorem trs_snoc_new (l : List Dec) (x : Dec) : trs (l ++ [x]) (l.length + 2) = .nd x.1 (trs l x.2.1) (trs l x.2.2) := by
 conv => lhs; unfold trs
 rw [tabT_snoc,getD_right (by rw [tabT_len]; exact Nat.le_refl _),tabT_len]
 simp
theorem trs_append {l m : List Dec} {p : Nat} (h : p < l.length + 2) : trs (l ++ m) p = trs l p := by
 induction m using snocInd with
 | nil => rw [List.append_nil]
 | append_singleton m x ih => rw [← List.append_assoc,trs_snoc_old (by rw [List.length_append]; omega),ih]
structure Mk (l : List Dec) : Prop where
 kid : ∀ k x,l[k]? = some x → x.1 < 24 ∧ x.2.1 < k + 2 ∧ x.2.2 < k + 2 ∧ x.2.1 ≠ x.2.2
 nodup : l.Nodup
theorem Mk.nil : Mk [] := ⟨by simp,List.nodup_nil⟩
theorem Mk.init {l : List Dec} {x : Dec} (h : Mk (l ++ [x])) : Mk l :=
 ⟨fun k y hy => h.kid k y (by rw [List.getElem?_append_left (List.getElem?_eq_some_iff.1 hy).1]; exact hy),(List.nodup_append.1 h.nodup).1⟩
theorem Mk.last {l : List Dec} {x : Dec} (h : Mk (l ++ [x])) : x.1 < 24 ∧ x.2.1 < l.length + 2 ∧ x.2.2 < l.length + 2 ∧ x.2.1 ≠ x.2.2 := h.kid l.length x (by simp)
theorem Mk.snoc {l : List Dec} {x : Dec} (h : Mk l) (hx : x.1 < 24 ∧ x.2.1 < l.length + 2 ∧ x.2.2 < l.length + 2 ∧ x.2.1 ≠ x.2.2) (hn : x ∉ l) : Mk (l ++ [x]) := by
 refine ⟨fun k y hy => ?_,List.nodup_append.2 ⟨h.nodup,by simp,fun a ha b hb => ?_⟩⟩
 ·by_cases hk : k < l.length
  ·rw [List.getElem?_append_left hk] at hy; exact h.kid k y hy
  have hlt := (List.getElem?_eq_some_iff.1 hy).1
  simp at hlt
  have e : k = l.length := by omega
  subst e
  simp at hy
  subst hy; exact hx
 simp only [List.mem_singleton] at hb
 subst hb
 exact fun e => hn (e ▸ ha)
theorem Mk.at {l : List Dec} : Mk l → ∀ {k : Nat} {x : Dec},l[k]? = some x → trs l (k + 2) = .nd x.1 (trs l x.2.1) (trs l x.2.2) := by
 induction l using snocInd with
 | nil => intro _ k x h; simp at h
 | append_singleton l y ih =>
  intro h k x hx
  by_cases hk : k < l.length
  ·rw [List.getElem?_append_left hk] at hx
   have hb := h.init.kid k x hx
   rw [trs_snoc_old (by omega),trs_snoc_old (by omega),trs_snoc_old (by omega)]
   exact ih h.init hx
  ·have hlt := (List.getElem?_eq_some_iff.1 hx).1
   simp at hlt
   have e : k = l.length := by omega
   subst e
   simp at hx
   subst hx
   have hb := h.last
   rw [trs_snoc_new,trs_snoc_old hb.2.1,trs_snoc_old hb.2.2.1]
theorem Mk.lf {l : List Dec} (h : Mk l) {p : Nat} {b : Bool} (hp : p < l.length + 2) (he : trs l p = .lf b) : p < 2 := by
 rcases Nat.lt_or_ge p 2 with h2 | h2
 ·exact h2
 obtain ⟨k,rfl⟩ : ∃ k,p = k + 2 := ⟨p - 2,by omega⟩
 have hk : k < l.length := by omega
 rw [h.at (List.getElem?_eq_getElem hk)] at he
 cases he
theorem Mk.inj {l : List Dec} : Mk l → ∀ {p q : Nat},p < l.length + 2 → q < l.length + 2 → trs l p = trs l q → p = q := by
 induction l using snocInd with
 | nil =>
  intro _ p q hp hq he
  simp at hp hq
  have h0 := (trs_zero ([] : List Dec)).1
  have h1 := (trs_zero ([] : List Dec)).2
  rcases p with _ | _ | p <;> rcases q with _ | _ | q <;> first | rfl | omega | skip
  ·rw [h0,h1] at he; simp at he
  ·rw [h0,h1] at he; simp at he
 | append_singleton l y ih =>
  intro h p q hp hq he
  have hlast := h.last
  have key : ∀ p,p < l.length + 2 → trs (l ++ [y]) p ≠ trs (l ++ [y]) (l.length + 2) := by
   intro p hp he
   rw [trs_snoc_old hp,trs_snoc_new] at he
   rcases Nat.lt_or_ge p 2 with h2 | h2
   ·rcases p with _ | _ | p
    ·rw [(trs_zero l).1] at he; cases he
    ·rw [(trs_zero l).2] at he; cases he
    ·omega
   ·obtain ⟨k,rfl⟩ : ∃ k,p = k + 2 := ⟨p - 2,by omega⟩
    have hk : k < l.length := by omega
    have hx := List.getElem?_eq_getElem hk
    have hb := h.init.kid k _ hx
    rw [h.init.at hx] at he
    simp only [BT.nd.injEq] at he
    obtain ⟨e1,e2,e3⟩ := he
    have e2' := ih h.init (by omega) (by omega) e2
    have e3' := ih h.init (by omega) (by omega) e3
    have e : l[k] = y := Prod.ext e1 (Prod.ext e2' e3')
    have := (List.nodup_append.1 h.nodup).2.2 l[k] (List.getElem_mem hk) y (by simp)
    exact this e
  simp only [List.length_append,List.length_cons,List.length_nil] at hp hq
  rcases Nat.lt_or_ge p (l.length + 2) with hp' | hp' <;> rcases Nat.lt_or_ge q (l.length + 2) with hq' | hq'
  ·rw [trs_snoc_old hp',trs_snoc_old hq'] at he
   exact ih h.init hp' hq' he
  ·have e : q = l.length + 2 := by omega
   subst e
   exact absurd he (key p hp')
  ·have e : p = l.length + 2 := by omega
   subst e
   exact absurd he.symm (key q hq')
  ·omega
def look (out : List Dec) (t : BT) : Option Nat := (List.range (out.length + 2)).find? fun p => BT.beq (trs out p) t
theorem look_some {out : List Dec} {t : BT} {p : Nat} (h : look out t = some p) : p < out.length + 2 ∧ trs out p = t := by
 unfold look at h
 have h1 := List.mem_of_find?_eq_some h
 have h2 := List.find?_some h
 exact ⟨List.mem_range.1 h1,BT.beq_iff.1 h2⟩
theorem look_none {out : List Dec} {t : BT} (h : look out t = none) : ∀ p,p < out.length + 2 → trs out p ≠ t := by
 unfold look at h
 intro p hp he
 have := List.find?_eq_none.1 h p (List.mem_range.2 hp)
 simp [he,BT.beq_self] at this
theorem look_eq {out : List Dec} (hm : Mk out) {t : BT} {p : Nat} (hp : p < out.length + 2) (he : trs out p = t) : look out t = some p := by
 cases h : look out t with
 | none => exact absurd he (look_none h p hp)
 | some q =>
  obtain ⟨h1,h2⟩ := look_some h
  rw [hm.inj h1 hp (h2.trans he.symm)]
def visitT : BT → List Dec → List Dec × Nat
 | .lf b,out => (out,bif b then 1 else 0)
 | .nd v lo hi,out => match look out (.nd v lo hi) with
  | some p => (out,p)
  | none => ((visitT hi (visitT lo out).1).1 ++ [(v,(visitT lo out).2,(visitT hi (visitT lo out).1).2)],(visitT hi (visitT lo out).1).1.length + 2)
def canon (t : BT) : List Dec × Nat := visitT t []
theorem visitT_pre : ∀ (t : BT) (out : List Dec),∃ r,(visitT t out).1 = out ++ r
 | .lf b,out => ⟨[],by simp [visitT]⟩
 | .nd v lo hi,out => by
  unfold visitT
  cases look out (.nd v lo hi) with
  | some p => exact ⟨[],by simp⟩
  | none =>
   obtain ⟨r1,h1⟩ := visitT_pre lo out
   obtain ⟨r2,h2⟩ := visitT_pre hi (visitT lo out).1
   exact ⟨r1 ++ r2 ++ [(v,(visitT lo out).2,(visitT hi (visitT lo out).1).2)],by simp only; rw [h2,h1]; simp⟩
theorem visitT_len (t : BT) (out : List Dec) : out.length ≤ (visitT t out).1.length := by
 obtain ⟨r,h⟩ := visitT_pre t out
 rw [h]; simp
theorem visitT_at : ∀ (t : BT) (out : List Dec),(visitT t out).2 < (visitT t out).1.length + 2 ∧ trs (visitT t out).1 (visitT t out).2 = t
 | .lf b,out => by
  cases b with
  | false => exact ⟨by simp [visitT],(trs_zero out).1⟩
  | true => exact ⟨by simp [visitT],(trs_zero out).2⟩
 | .nd v lo hi,out => by
  unfold visitT
  cases h : look out (.nd v lo hi) with
  | some p => exact look_some h
  | none =>
   obtain ⟨a1,a2⟩ := visitT_at lo out
   obtain ⟨b1,b2⟩ := visitT_at hi (visitT lo out).1
   obtain ⟨r,hr⟩ := visitT_pre hi (visitT lo out).1
   refine ⟨by simp,?_⟩
   simp only
   rw [trs_snoc_new,b2]
   rw [hr,trs_append a1,a2]
theorem visitT_new : ∀ (t : BT) (out : List Dec) (p : Nat),p < (visitT t out).1.length + 2 → p < out.length + 2 ∨ (trs (visitT t out).1 p).size ≤ t.size
 | .lf b,out,p,h => .inl h
 | .nd v lo hi,out,p,h => by
  unfold visitT at h ⊢
  cases hl : look out (.nd v lo hi) with
  | some q => rw [hl] at h; exact .inl h
  | none =>
   rw [hl] at h
   simp only [List.length_append,List.length_cons,List.length_nil] at h ⊢
   by_cases hp : p = (visitT hi (visitT lo out).1).1.length + 2
   ·right
    subst hp
    obtain ⟨a1,a2⟩ := visitT_at lo out
    obtain ⟨b1,b2⟩ := visitT_at hi (visitT lo out).1
    obtain ⟨r,hr⟩ := visitT_pre hi (visitT lo out).1
    rw [trs_snoc_new,b2]
    have : trs (visitT hi (visitT lo out).1).1 (visitT lo out).2 = lo := by rw [hr,trs_append a1,a2]
    simp only [this]
    exact Nat.le_refl _
   ·have hp' : p < (visitT hi (visitT lo out).1).1.length + 2 := by omega
    rw [trs_snoc_old hp']
    rcases visitT_new hi (visitT lo out).1 p hp' with h2 | h2
    ·rcases visitT_new lo out p h2 with h3 | h3
     ·exact .inl h3
     ·obtain ⟨r,hr⟩ := visitT_pre hi (visitT lo out).1
      rw [hr,trs_append h2]
      right; simp only [BT.size]; omega
    ·right; simp only [BT.size]; omega
theorem visitT_fresh {v : Nat} {lo hi : BT} {out : List Dec} (h : look out (.nd v lo hi) = none) : ∀ p,p < (visitT hi (visitT lo out).1).1.length + 2 → trs (visitT hi (visitT lo out).1).1 p ≠ .nd v lo hi := by
 intro p hp he
 rcases visitT_new hi (visitT lo out).1 p hp with h2 | h2
 ·rcases visitT_new lo out p h2 with h3 | h3
  ·obtain ⟨r1,h1⟩ := visitT_pre lo out
   obtain ⟨r2,h4⟩ := visitT_pre hi (visitT lo out).1
   rw [h4,trs_append h2,h1,trs_append h3] at he
   exact look_none h p h3 he
  obtain ⟨r,hr⟩ := visitT_pre hi (visitT lo out).1
  rw [hr,trs_append h2] at he
  rw [he] at h3
  simp only [BT.size] at h3; omega
 rw [he] at h2
 simp only [BT.size] at h2; omega
theorem visitT_mk : ∀ {t : BT} {m : Nat} {out : List Dec},t.ok m → Mk out → Mk (visitT t out).1
 | .lf b,_,out,_,h => h
 | .nd v lo hi,m,out,ht,h => by
  unfold visitT
  cases hl : look out (.nd v lo hi) with
  | some q => exact h
  | none =>
   have h1 := visitT_mk ht.2.2.2.1 h
   have h2 := visitT_mk ht.2.2.2.2 h1
   obtain ⟨a1,a2⟩ := visitT_at lo out
   obtain ⟨b1,b2⟩ := visitT_at hi (visitT lo out).1
   obtain ⟨r,hr⟩ := visitT_pre hi (visitT lo out).1
   have a2' : trs (visitT hi (visitT lo out).1).1 (visitT lo out).2 = lo := by rw [hr,trs_append a1,a2]
   have a1' : (visitT lo out).2 < (visitT hi (visitT lo out).1).1.length + 2 := Nat.lt_of_lt_of_le a1 (by have := visitT_len hi (visitT lo out).1; omega)
   refine h2.snoc ⟨ht.2.1,a1',b1,fun e => ?_⟩ (fun hm => ?_)
   ·simp only at e
    rw [e,b2] at a2'
    exact ht.2.2.1 a2'.symm
   ·obtain ⟨k,hk⟩ := List.getElem?_of_mem hm
    have := h2.at hk
    simp only at this
    rw [a2',b2] at this
    have hlt := (List.getElem?_eq_some_iff.1 hk).1
    exact visitT_fresh hl (k + 2) (by omega) this
theorem visitT_grow : ∀ (t : BT) (out : List Dec),(visitT t out).1.length ≤ out.length + t.size
 | .lf b,out => Nat.le_refl _
 | .nd v lo hi,out => by
  unfold visitT
  cases look out (.nd v lo hi) with
  | some q => simp
  | none =>
   have h1 := visitT_grow lo out
   have h2 := visitT_grow hi (visitT lo out).1
   simp only [List.length_append,List.length_cons,List.length_nil,BT.size]; omega
theorem canon_mk {t : BT} {m : Nat} (h : t.ok m) : Mk (canon t).1 := visitT_mk h Mk.nil
theorem canon_at (t : BT) : (canon t).2 < (canon t).1.length + 2 ∧ trs (canon t).1 (canon t).2 = t := visitT_at t []
theorem canon_len {t : BT} (h : t.ok 0) : (canon t).1.length < 16777216 := by
 have h1 := visitT_grow t []
 have h2 := BT.size_le h (by decide)
 have h3 : (canon t).1.length ≤ t.size := by simpa [canon] using h1
 have : (2 : Nat) ^ (24 - 0) = 16777216 := by decide
 omega
end Dg
namespace Dg
def KnowsL (l : List Dec) (f : Dec → Option Nat) : Prop := ∀ x p,f x = some p ↔ ∃ k,p = k + 2 ∧ l[k]? = some x
theorem KnowsL.nil : KnowsL [] (fun _ => none) := fun x p => by simp
theorem KnowsL.snoc {l : List Dec} {f : Dec → Option Nat} (h : KnowsL l f) (x : Dec) (hx : f x = none) : KnowsL (l ++ [x]) (fun y => if y = x then some (l.length + 2) else f y) := by
 intro y p
 by_cases he : y = x
 ·subst he
  simp only [if_pos]
  constructor
  ·intro e
   cases e
   exact ⟨l.length,rfl,by simp⟩
  rintro ⟨k,rfl,hk⟩
  by_cases hl : k < l.length
  ·rw [List.getElem?_append_left hl] at hk
   have := (h y (k + 2)).2 ⟨k,rfl,hk⟩
   rw [hx] at this; cases this
  have := (List.getElem?_eq_some_iff.1 hk).1
  simp at this
  have e : k = l.length := by omega
  rw [e]
 simp only [if_neg he]
 rw [h y p]
 constructor
 ·rintro ⟨k,rfl,hk⟩
  exact ⟨k,rfl,by rw [List.getElem?_append_left (List.getElem?_eq_some_iff.1 hk).1]; exact hk⟩
 rintro ⟨k,rfl,hk⟩
 by_cases hl : k < l.length
 ·exact ⟨k,rfl,by rw [List.getElem?_append_left hl] at hk; exact hk⟩
 have := (List.getElem?_eq_some_iff.1 hk).1
 simp at this
 have e : k = l.length := by omega
 subst e
 simp at hk
 exact absurd hk.symm he
structure MadeN (l l' : List Dec) (p : Nat) (t : BT) : Prop where
 ismk : Mk l'
 pre : ∃ r,l' = l ++ r
 lt : p < l'.length + 2
 tree : trs l' p = t
theorem MadeN.len {l l' : List Dec} {p : Nat} {t : BT} (h : MadeN l l' p t) : l.length ≤ l'.length := by
 obtain ⟨r,e⟩ := h.pre
 rw [e]; simp
theorem MadeN.old {l l' : List Dec} {p q : Nat} {t : BT} (h : MadeN l l' p t) (hq : q < l.length + 2) : trs l' q = trs l q := by
 obtain ⟨r,e⟩ := h.pre
 rw [e,trs_append hq]
theorem MadeN.same {l : List Dec} (h : Mk l) {i p : Nat} (hp : p < l.length + 2) : MadeN l l p (mkN i (trs l p) (trs l p)) :=
 ⟨h,⟨[],by simp⟩,hp,by rw [mkN_same]⟩
theorem MadeN.known {l : List Dec} {f : Dec → Option Nat} (h : Mk l) (hf : KnowsL l f) {i lo hi p : Nat} (hne : lo ≠ hi) (hlo : lo < l.length + 2) (hhi : hi < l.length + 2) (hp : f (i,lo,hi) = some p) : MadeN l l p (mkN i (trs l lo) (trs l hi)) := by
 obtain ⟨k,rfl,hk⟩ := (hf _ _).1 hp
 have hlt := (List.getElem?_eq_some_iff.1 hk).1
 refine ⟨h,⟨[],by simp⟩,by omega,?_⟩
 rw [h.at hk,mkN_ne (fun e => hne (h.inj hlo hhi e))]
theorem MadeN.new {l : List Dec} {f : Dec → Option Nat} (h : Mk l) (hf : KnowsL l f) {i lo hi : Nat} (hi24 : i < 24) (hne : lo ≠ hi) (hlo : lo < l.length + 2) (hhi : hi < l.length + 2) (hp : f (i,lo,hi) = none) : MadeN l (l ++ [(i,lo,hi)]) (l.length + 2) (mkN i (trs l lo) (trs l hi)) := by
 have hn : (i,lo,hi) ∉ l := by
  intro hm
  obtain ⟨k,hk⟩ := List.getElem?_of_mem hm
  have := (hf _ _).2 ⟨k,rfl,hk⟩
  rw [hp] at this; cases this
 refine ⟨h.snoc ⟨hi24,hlo,hhi,hne⟩ hn,⟨_,rfl⟩,by simp,?_⟩
 rw [trs_snoc_new,mkN_ne (fun e => hne (h.inj hlo hhi e))]
def PlaceOk (l o : List Dec) (f : Nat → Option Nat) : Prop := ∀ r p,r < l.length + 2 → (f r = some p ↔ p < o.length + 2 ∧ trs o p = trs l r)
theorem PlaceOk.nil {l : List Dec} (h : Mk l) : PlaceOk l [] (fun r => if r = 1 then some 1 else if r = 0 then some 0 else none) := by
 intro r p hr
 have z := trs_zero ([] : List Dec)
 have z' := trs_zero l
 by_cases h1 : r = 1
 ·subst h1
  simp only [if_pos,z'.2,List.length_nil]
  constructor
  ·intro e; cases e; exact ⟨by omega,z.2⟩
  rintro ⟨hp,e⟩
  have : p = 1 := by
   rcases p with _ | _ | p
   ·rw [z.1] at e; cases e
   ·rfl
   ·omega
  rw [this]
 by_cases h0 : r = 0
 ·subst h0
  simp only [if_pos,if_neg h1,z'.1,List.length_nil]
  constructor
  ·intro e; cases e; exact ⟨by omega,z.1⟩
  rintro ⟨hp,e⟩
  have : p = 0 := by
   rcases p with _ | _ | p
   ·rfl
   ·rw [z.2] at e; cases e
   ·omega
  rw [this]
 simp only [if_neg h1,if_neg h0]
 constructor
 ·intro e; cases e
 rintro ⟨hp,e⟩
 exfalso
 simp only [List.length_nil] at hp
 rcases p with _ | _ | p
 ·rw [z.1] at e; have := h.lf hr e.symm; omega
 ·rw [z.2] at e; have := h.lf hr e.symm; omega
 omega
theorem PlaceOk.hit {l o : List Dec} {f : Nat → Option Nat} (hm : Mk o) (h : PlaceOk l o f) {r p : Nat} (hr : r < l.length + 2) (hp : f r = some p) : visitT (trs l r) o = (o,p) := by
 obtain ⟨h1,h2⟩ := (h r p hr).1 hp
 cases ht : trs l r with
 | lf b =>
  rw [ht] at h2
  have h3 := hm.lf h1 h2
  have z := trs_zero o
  cases b with
  | false =>
   rcases p with _ | _ | p
   ·rfl
   ·rw [z.2] at h2; cases h2
   ·omega
  | true =>
   rcases p with _ | _ | p
   ·rw [z.1] at h2; cases h2
   ·rfl
   ·omega
 | nd v lo hi =>
  rw [ht] at h2
  unfold visitT
  rw [look_eq hm h1 h2]
theorem PlaceOk.miss {l o : List Dec} {f : Nat → Option Nat} (hl : Mk l) (h : PlaceOk l o f) {r : Nat} (hr : r < l.length + 2) (hp : f r = none) :
  ∃ x,2 ≤ r ∧ l[r - 2]? = some x ∧ x.2.1 < r ∧ x.2.2 < r ∧ x.1 < 24 ∧ trs l r = .nd x.1 (trs l x.2.1) (trs l x.2.2) ∧ look o (trs l r) = none := by
 have hlook : look o (trs l r) = none := by
  cases hk : look o (trs l r) with
  | none => rfl
  | some p =>
   have := (h r p hr).2 (look_some hk)
   rw [hp] at this; cases this
 have h2 : 2 ≤ r := by
  rcases Nat.lt_or_ge r 2 with h2 | h2
  ·exfalso
   rcases r with _ | _ | r
   ·have := (h 0 0 hr).2 ⟨by omega,by rw [(trs_zero o).1,(trs_zero l).1]⟩
    rw [hp] at this; cases this
   ·have := (h 1 1 hr).2 ⟨by omega,by rw [(trs_zero o).2,(trs_zero l).2]⟩
    rw [hp] at this; cases this
   ·omega
  ·exact h2
 obtain ⟨k,rfl⟩ : ∃ k,r = k + 2 := ⟨r - 2,by omega⟩
 have hk : k < l.length := by omega
 have hx := List.getElem?_eq_getElem hk
 have hb := hl.kid k _ hx
 exact ⟨l[k],h2,hx,hb.2.1,hb.2.2.1,hb.1,hl.at hx,hlook⟩
theorem PlaceOk.step {l o o2 : List Dec} {f2 : Nat → Option Nat} {r v p1 p2 : Nat} {lo hi : BT} (hl : Mk l) (hr : r < l.length + 2) (ht : trs l r = .nd v lo hi) (hlook : look o (.nd v lo hi) = none)
  (ho2 : o2 = (visitT hi (visitT lo o).1).1) (h2 : PlaceOk l o2 f2) (h : trs (o2 ++ [(v,p1,p2)]) (o2.length + 2) = .nd v lo hi) :
  PlaceOk l (o2 ++ [(v,p1,p2)]) (fun q => if q = r then some (o2.length + 2) else f2 q) := by
 have hfresh := visitT_fresh hlook
 rw [← ho2] at hfresh
 intro q p hq
 by_cases hqr : q = r
 ·subst hqr
  simp only [if_pos]
  constructor
  ·intro e; cases e; exact ⟨by simp,by rw [h,ht]⟩
  rintro ⟨hp,e⟩
  rw [List.length_append,List.length_singleton] at hp
  by_cases hlt : p < o2.length + 2
  ·rw [trs_snoc_old hlt,ht] at e
   exact absurd e (hfresh p hlt)
  rw [show p = o2.length + 2 by omega]
 simp only [if_neg hqr]
 rw [h2 q p hq]
 constructor
 ·rintro ⟨hp,e⟩
  exact ⟨by rw [List.length_append,List.length_singleton]; omega,by rw [trs_snoc_old hp,e]⟩
 rintro ⟨hp,e⟩
 rw [List.length_append,List.length_singleton] at hp
 by_cases hlt : p < o2.length + 2
 ·rw [trs_snoc_old hlt] at e
  exact ⟨hlt,e⟩
 have hpe : p = o2.length + 2 := by omega
 rw [hpe,h,← ht] at e
 exact absurd (hl.inj hr hq e).symm hqr
end Dg
namespace Dg
def atD (l : List Dec) (r : Nat) : Dec := if r < 2 then (24,r,r) else l.getD (r - 2) (24,r,r)
theorem atD_ge {l : List Dec} {r : Nat} {x : Dec} (h2 : 2 ≤ r) (hx : l[r - 2]? = some x) : atD l r = x := by
 unfold atD
 rw [if_neg (by omega)]
 simp [List.getD,hx]
def loP (l : List Dec) (r i : Nat) : Nat := if (atD l r).1 = i then (atD l r).2.1 else r
def hiP (l : List Dec) (r i : Nat) : Nat := if (atD l r).1 = i then (atD l r).2.2 else r
theorem half_at {l : List Dec} (h : Mk l) {r i : Nat} (hr : r < l.length + 2) {m : Nat} (ho : (trs l r).ok m) (hi : i ≤ (atD l r).1) (hi24 : i < 24) :
  loP l r i < l.length + 2 ∧ hiP l r i < l.length + 2 ∧ (trs l (loP l r i)).ok (i + 1) ∧ (trs l (hiP l r i)).ok (i + 1) ∧ (∀ c,(trs l r).ev c = bif c i then (trs l (hiP l r i)).ev c else (trs l (loP l r i)).ev c) ∧ ((atD l r).1 = i → m ≤ i) ∧ ((atD l r).1 = i → 2 ≤ r) := by
 unfold loP hiP
 rcases Nat.lt_or_ge r 2 with h2 | h2
 ·have e : atD l r = (24,r,r) := by unfold atD; rw [if_pos h2]
  rw [e]
  have hne : ¬ ((24,r,r) : Dec).1 = i := by simp only; omega
  simp only [if_neg hne]
  have hlf : ∃ b,trs l r = .lf b := by
   rcases r with _ | _ | r
   ·exact ⟨_,(trs_zero l).1⟩
   ·exact ⟨_,(trs_zero l).2⟩
   ·omega
  obtain ⟨b,hb⟩ := hlf
  rw [hb]
  exact ⟨hr,hr,trivial,trivial,fun c => by cases c i <;> rfl,fun h => absurd h hne,fun h => absurd h hne⟩
 obtain ⟨k,rfl⟩ : ∃ k,r = k + 2 := ⟨r - 2,by omega⟩
 have hk : k < l.length := by omega
 have hx := List.getElem?_eq_getElem hk
 have e : atD l (k + 2) = l[k] := atD_ge h2 hx
 have hb := h.kid k _ hx
 have ht := h.at hx
 rw [e] at hi ⊢
 rw [ht] at ho ⊢
 by_cases hv : l[k].1 = i
 ·simp only [if_pos hv]
  refine ⟨by omega,by omega,hv ▸ ho.2.2.2.1,hv ▸ ho.2.2.2.2,fun c => ?_,fun _ => hv ▸ ho.1,fun _ => h2⟩
  simp only [BT.ev,hv]
 simp only [if_neg hv]
 have hok : (BT.nd l[k].1 (trs l l[k].2.1) (trs l l[k].2.2)).ok (i + 1) := ⟨by omega,ho.2⟩
 rw [ht]
 exact ⟨hr,hr,hok,hok,fun c => by cases c i <;> rfl,fun h => absurd h hv,fun h => absurd h hv⟩
theorem atD_lt {l : List Dec} (h : Mk l) {r : Nat} (hr : r < l.length + 2) (h2 : 2 ≤ r) : (atD l r).1 < 24 := by
 obtain ⟨k,rfl⟩ : ∃ k,r = k + 2 := ⟨r - 2,by omega⟩
 have hk : k < l.length := by omega
 rw [atD_ge h2 (List.getElem?_eq_getElem hk)]
 exact (h.kid k _ (List.getElem?_eq_getElem hk)).1
theorem atD_ok {l : List Dec} (h : Mk l) {r m : Nat} (hr : r < l.length + 2) (ho : (trs l r).ok m) (hm : m ≤ 24) : m ≤ (atD l r).1 := by
 rcases Nat.lt_or_ge r 2 with h2 | h2
 ·unfold atD; rw [if_pos h2]; exact hm
 obtain ⟨k,rfl⟩ : ∃ k,r = k + 2 := ⟨r - 2,by omega⟩
 have hk : k < l.length := by omega
 rw [atD_ge h2 (List.getElem?_eq_getElem hk)]
 rw [h.at (List.getElem?_eq_getElem hk)] at ho
 exact ho.1
structure JR (bop : Bool → Bool → Bool) (l : List Dec) (r : Nat) (s t : BT) : Prop where
 lt : r < l.length + 2
 ok : ∀ j,s.ok j → t.ok j → (trs l r).ok j
 ev : ∀ c,(trs l r).ev c = bop (s.ev c) (t.ev c)
theorem JR.ext {bop : Bool → Bool → Bool} {l : List Dec} {r : Nat} {s t : BT} (h : JR bop l r s t) {l' : List Dec} (hp : ∃ z,l' = l ++ z) : JR bop l' r s t := by
 obtain ⟨z,rfl⟩ := hp
 have e := trs_append (m := z) h.lt
 exact ⟨by rw [List.length_append]; have := h.lt; omega,fun j hs ht => by rw [e]; exact h.ok j hs ht,fun c => by rw [e]; exact h.ev c⟩
def SeenOk (bop : Bool → Bool → Bool) (la lb l : List Dec) (f : Nat × Nat → Option Nat) : Prop := ∀ x y r,f (x,y) = some r → JR bop l r (trs la x) (trs lb y)
theorem SeenOk.ext {bop : Bool → Bool → Bool} {la lb l l' : List Dec} {f : Nat × Nat → Option Nat} (h : SeenOk bop la lb l f) (hp : ∃ z,l' = l ++ z) : SeenOk bop la lb l' f := fun x y r hr => (h x y r hr).ext hp
theorem SeenOk.put {bop : Bool → Bool → Bool} {la lb l : List Dec} {f : Nat × Nat → Option Nat} (h : SeenOk bop la lb l f) {x y r : Nat} (hr : JR bop l r (trs la x) (trs lb y)) : SeenOk bop la lb l (fun q => if q = (x,y) then some r else f q) := by
 intro x' y' r' h'
 by_cases e : (x',y') = (x,y)
 ·simp only [if_pos e,Option.some.injEq] at h'
  cases e
  rw [← h']; exact hr
 simp only [if_neg e] at h'
 exact h x' y' r' h'
structure OpSpec (bop : Bool → Bool → Bool) (opf : Nat → Nat → Nat × Bool) : Prop where
 stop : ∀ x y,(opf x y).2 = true → ∃ b : Bool,(opf x y).1 = (bif b then 1 else 0) ∧ ∀ p q : Bool,(x = 0 → p = false) → (x = 1 → p = true) → (y = 0 → q = false) → (y = 1 → q = true) → bop p q = b
 go : ∀ x y,(opf x y).2 = false → 2 ≤ x ∨ 2 ≤ y
theorem OpSpec.done {bop : Bool → Bool → Bool} {opf : Nat → Nat → Nat × Bool} (h : OpSpec bop opf) {la lb l : List Dec} {x y : Nat} (hs : (opf x y).2 = true) : JR bop l (opf x y).1 (trs la x) (trs lb y) := by
 obtain ⟨b,h1,h2⟩ := h.stop x y hs
 have hb : trs l (opf x y).1 = .lf b := by
  rw [h1]; cases b
  ·exact (trs_zero l).1
  ·exact (trs_zero l).2
 refine ⟨by rw [h1]; cases b <;> simp,fun j _ _ => by rw [hb]; trivial,fun c => ?_⟩
 rw [hb]
 symm
 refine h2 _ _ (fun e => ?_) (fun e => ?_) (fun e => ?_) (fun e => ?_)
 ·rw [e,(trs_zero la).1]; rfl
 ·rw [e,(trs_zero la).2]; rfl
 ·rw [e,(trs_zero lb).1]; rfl
 rw [e,(trs_zero lb).2]; rfl
theorem JR.node {bop : Bool → Bool → Bool} {la lb l1 l2 l3 : List Dec} {x y i p q r m : Nat} (ha : Mk la) (hb : Mk lb) (hx : x < la.length + 2) (hy : y < lb.length + 2) (hox : (trs la x).ok m) (hoy : (trs lb y).ok m) (hi : i = min (atD la x).1 (atD lb y).1) (hi24 : i < 24)
  (h1 : JR bop l1 p (trs la (loP la x i)) (trs lb (loP lb y i))) (h2 : JR bop l2 q (trs la (hiP la x i)) (trs lb (hiP lb y i))) (he : ∃ z,l2 = l1 ++ z) (h3 : MadeN l2 l3 r (mkN i (trs l2 p) (trs l2 q))) : JR bop l3 r (trs la x) (trs lb y) := by
 have hix : i ≤ (atD la x).1 := by omega
 have hiy : i ≤ (atD lb y).1 := by omega
 obtain ⟨a1,a2,a3,a4,a5,a6,_⟩ := half_at ha hx hox hix hi24
 obtain ⟨b1,b2,b3,b4,b5,b6,_⟩ := half_at hb hy hoy hiy hi24
 have h1' := h1.ext he
 refine ⟨h3.lt,fun j hs ht => ?_,fun c => ?_⟩
 ·rw [h3.tree]
  refine mkN_ok ?_ hi24 (h1'.ok _ a3 b3) (h2.ok _ a4 b4)
  have e : (atD la x).1 = i ∨ (atD lb y).1 = i := by omega
  rcases e with e | e
  ·exact (half_at ha hx hs hix hi24).2.2.2.2.2.1 e
  exact (half_at hb hy ht hiy hi24).2.2.2.2.2.1 e
 rw [h3.tree,mkN_ev,a5 c,b5 c,h1'.ev c,h2.ev c]
 cases c i <;> rfl
def andF (x y : Nat) : Nat × Bool := (min (min x y) 1,x == 0 || y == 0 || (x == 1 && y == 1))
def orF (x y : Nat) : Nat × Bool := if x = 1 ∨ y = 1 then (1,true) else (0,x == 0 && y == 0)
def xorF (x y : Nat) : Nat × Bool := (x ^^^ y,decide (x < 2) && decide (y < 2))
theorem and_spec : OpSpec (fun p q => p && q) andF where
 stop x y h := by
  unfold andF at h ⊢
  simp only [Bool.or_eq_true,Bool.and_eq_true,beq_iff_eq] at h
  rcases h with (h | h) | ⟨h,h'⟩
  ·refine ⟨false,by simp only [cond_false]; omega,fun p q h1 _ _ _ => by rw [h1 h]; rfl⟩
  ·refine ⟨false,by simp only [cond_false]; omega,fun p q _ _ h1 _ => by rw [h1 h]; simp⟩
  ·refine ⟨true,by simp only [cond_true]; omega,fun p q _ h1 _ h2 => by rw [h1 h,h2 h']; rfl⟩
 go x y h := by
  unfold andF at h
  simp at h
  omega
theorem or_spec : OpSpec (fun p q => p || q) orF where
 stop x y h := by
  unfold orF at h ⊢
  split at h
  ·rename_i h1
   rw [if_pos h1]
   refine ⟨true,rfl,fun p q _ a _ b => ?_⟩
   rcases h1 with e | e
   ·rw [a e]; rfl
   ·rw [b e]; simp
  ·rename_i h1
   rw [if_neg h1]
   simp only [Bool.and_eq_true,beq_iff_eq] at h
   exact ⟨false,rfl,fun p q a _ b _ => by rw [a h.1,b h.2]; rfl⟩
 go x y h := by
  unfold orF at h
  split at h
  ·cases h
  ·simp at h
   omega
theorem xor_spec : OpSpec (fun p q => p != q) xorF where
 stop x y h := by
  unfold xorF at h ⊢
  simp only [Bool.and_eq_true,decide_eq_true_eq] at h
  obtain ⟨h1,h2⟩ := h
  rcases x with _ | _ | x <;> rcases y with _ | _ | y <;> first | omega | skip
  ·exact ⟨false,rfl,fun p q a _ b _ => by rw [a rfl,b rfl]; rfl⟩
  ·exact ⟨true,rfl,fun p q a _ _ b => by rw [a rfl,b rfl]; rfl⟩
  ·exact ⟨true,rfl,fun p q _ a b _ => by rw [a rfl,b rfl]; rfl⟩
  ·exact ⟨false,rfl,fun p q _ a _ b => by rw [a rfl,b rfl]; rfl⟩
 go x y h := by
  unfold xorF at h
  simp at h
  omega
end Dg
namespace Dg
def notT : BT → BT
 | .lf b => .lf (!b)
 | .nd v lo hi => mkN v (notT lo) (notT hi)
theorem notT_ok : ∀ {t : BT} {m : Nat},t.ok m → (notT t).ok m
 | .lf _,_,_ => trivial
 | .nd v lo hi,m,h => mkN_ok h.1 h.2.1 (notT_ok h.2.2.2.1) (notT_ok h.2.2.2.2)
theorem notT_ev : ∀ (t : BT) (c : Cf),(notT t).ev c = !t.ev c
 | .lf _,_ => rfl
 | .nd v lo hi,c => by
  rw [notT,mkN_ev,notT_ev lo,notT_ev hi]
  simp only [BT.ev]
  cases c v <;> rfl
def fixT (i : Int) (on : Bool) : BT → BT
 | .lf b => .lf b
 | .nd v lo hi => if (v : Int) = i then (if on then fixT i on hi else fixT i on lo) else mkN v (fixT i on lo) (fixT i on hi)
theorem fixT_ok {i : Int} {on : Bool} : ∀ {t : BT} {m : Nat},t.ok m → (fixT i on t).ok m
 | .lf _,_,_ => trivial
 | .nd v lo hi,m,h => by
  unfold fixT
  by_cases hv : (v : Int) = i
  ·rw [if_pos hv]
   cases on
   ·exact BT.ok_mono (fixT_ok h.2.2.2.1) (by have := h.1; omega)
   ·exact BT.ok_mono (fixT_ok h.2.2.2.2) (by have := h.1; omega)
  ·rw [if_neg hv]
   exact mkN_ok h.1 h.2.1 (fixT_ok h.2.2.2.1) (fixT_ok h.2.2.2.2)
def updI (c : Cf) (i : Int) (b : Bool) : Cf := fun j => if (j : Int) = i then b else c j
theorem fixT_ev {i : Int} {on : Bool} : ∀ (t : BT) (c : Cf),(fixT i on t).ev c = t.ev (updI c i on)
 | .lf _,_ => rfl
 | .nd v lo hi,c => by
  unfold fixT
  by_cases hv : (v : Int) = i
  ·rw [if_pos hv]
   simp only [BT.ev,updI,if_pos hv]
   cases on
   ·simp only [Bool.false_eq_true,if_false,cond_false]; exact fixT_ev lo c
   ·simp only [if_true,cond_true]; exact fixT_ev hi c
  ·rw [if_neg hv,mkN_ev,fixT_ev lo,fixT_ev hi]
   simp only [BT.ev,updI,if_neg hv]
structure FI (φ : BT → BT) (la : List Dec) (out : List Int) (l : List Dec) : Prop where
 ismk : Mk l
 len : l.length + 2 ≤ out.length
 at' : ∀ k z,out[k]? = some z → ∃ p : Nat,z = (p : Int) ∧ p < l.length + 2 ∧ trs l p = φ (trs la k)
theorem FI.nil {φ : BT → BT} {la : List Dec} {b0 b1 : Bool} (h0 : φ (.lf false) = .lf b0) (h1 : φ (.lf true) = .lf b1) : FI φ la [bif b0 then 1 else 0,bif b1 then 1 else 0] [] := by
 refine ⟨Mk.nil,by simp,fun k z hz => ?_⟩
 have e : ∀ b : Bool,trs [] (bif b then 1 else 0) = .lf b := fun b => by cases b <;> rfl
 rcases k with _ | _ | k
 ·simp only [List.getElem?_cons_zero,Option.some.injEq] at hz
  refine ⟨bif b0 then 1 else 0,by rw [← hz]; cases b0 <;> rfl,by cases b0 <;> simp,?_⟩
  rw [e,(trs_zero la).1,h0]
 ·simp only [List.getElem?_cons_succ,List.getElem?_cons_zero,Option.some.injEq] at hz
  refine ⟨bif b1 then 1 else 0,by rw [← hz]; cases b1 <;> rfl,by cases b1 <;> simp,?_⟩
  rw [e,(trs_zero la).2,h1]
 simp at hz
theorem FI.step {φ : BT → BT} {la : List Dec} (hla : Mk la) {out : List Int} {l l' : List Dec} (h : FI φ la out l) {x : Dec} (hx : la[out.length - 2]? = some x) {p : Nat} (hm : Mk l') (hpre : ∃ r,l' = l ++ r) (hlen : l'.length ≤ l.length + 1) (hp : p < l'.length + 2) (ht : trs l' p = φ (.nd x.1 (trs la x.2.1) (trs la x.2.2))) : FI φ la (out ++ [(p : Int)]) l' := by
 have h2 : 2 ≤ out.length := by have := h.len; omega
 refine ⟨hm,by rw [List.length_append,List.length_singleton]; have := h.len; omega,fun k z hz => ?_⟩
 by_cases hk : k < out.length
 ·rw [List.getElem?_append_left hk] at hz
  obtain ⟨q,e1,e2,e3⟩ := h.at' k z hz
  obtain ⟨r,rfl⟩ := hpre
  exact ⟨q,e1,by rw [List.length_append]; omega,by rw [trs_append e2]; exact e3⟩
 have hlt := (List.getElem?_eq_some_iff.1 hz).1
 rw [List.length_append,List.length_singleton] at hlt
 have e : k = out.length := by omega
 subst e
 simp at hz
 refine ⟨p,hz.symm,hp,?_⟩
 rw [ht]
 have := hla.at hx
 rw [show out.length - 2 + 2 = out.length by omega] at this
 rw [this]
def cfg (n : Nat) : Cf := fun i => n.testBit i
def supT (l : List Dec) : Nat := l.foldl (fun s x => s ||| 2 ^ x.1) 0
end Dg
namespace Dg
def cubeB (on off m : Nat) (c : Cf) : Bool := (List.range 24).all fun j => decide (j < m) || ((!on.testBit j || c j) && (!off.testBit j || !c j))
theorem cubeB_end (on off : Nat) (c : Cf) : cubeB on off 24 c = true := by
 unfold cubeB
 rw [List.all_eq_true]
 intro j hj
 simp [List.mem_range.1 hj]
theorem cubeB_step {on off m : Nat} (hm : m < 24) (c : Cf) : cubeB on off m c = (((!on.testBit m || c m) && (!off.testBit m || !c m)) && cubeB on off (m + 1) c) := by
 unfold cubeB
 rw [Bool.eq_iff_iff]
 simp only [List.all_eq_true,Bool.and_eq_true,List.mem_range]
 constructor
 ·intro h
  refine ⟨by have := h m hm; simpa using this,fun j hj => ?_⟩
  have := h j hj
  by_cases hjm : j < m
  ·simp [show j < m + 1 by omega]
  simpa [hjm,show (j < m + 1) = (j = m) from by simp; omega] using Or.inr (by simpa [hjm] using this)
 rintro ⟨h1,h2⟩ j hj
 by_cases hjm : j = m
 ·subst hjm; simpa using h1
 have := h2 j hj
 by_cases hlt : j < m
 ·simp [hlt]
 have h3 : ¬ j < m + 1 := by omega
 simpa [hlt,h3] using this
theorem cubeB_mask {on off : Nat} (c : Cf) : cubeB (on &&& 16777215) (off &&& 16777215) 0 c = cubeB on off 0 c := by
 unfold cubeB
 have key : ∀ n j : Nat,j < 24 → (n &&& 16777215).testBit j = n.testBit j := fun n j hj => by
  rw [Nat.testBit_and,show (16777215 : Nat) = 2 ^ 24 - 1 by decide,Nat.testBit_two_pow_sub_one]
  simp [hj]
 rw [Bool.eq_iff_iff]
 simp only [List.all_eq_true,List.mem_range]
 constructor
 ·intro h j hj
  have := h j hj
  rwa [key on j hj,key off j hj] at this
 intro h j hj
 have := h j hj
 rwa [key on j hj,key off j hj]
theorem cubeB_clash {on off : Nat} (h : (on &&& 16777215) &&& (off &&& 16777215) ≠ 0) (c : Cf) : cubeB on off 0 c = false := by
 obtain ⟨j,hj⟩ : ∃ j,((on &&& 16777215) &&& (off &&& 16777215)).testBit j = true := Nat.exists_testBit_of_ne_zero h
 rw [Nat.testBit_and,Nat.testBit_and,Nat.testBit_and,show (16777215 : Nat) = 2 ^ 24 - 1 by decide,Nat.testBit_two_pow_sub_one] at hj
 simp only [Bool.and_eq_true,decide_eq_true_eq] at hj
 obtain ⟨⟨h1,h2⟩,h3,_⟩ := hj
 unfold cubeB
 rw [List.all_eq_false]
 refine ⟨j,List.mem_range.2 h2,?_⟩
 rw [h1,h3]
 cases c j <;> simp
end Dg
namespace Dg
def pathsT : BT → List Int → List (List Int)
 | .lf b,pre => bif b then [] else [pre]
 | .nd v lo hi,pre => pathsT lo (pre ++ [(v : Int) + 1]) ++ pathsT hi (pre ++ [-((v : Int) + 1)])
def pathsN : BT → Nat
 | .lf b => bif b then 0 else 1
 | .nd _ lo hi => pathsN lo + pathsN hi
theorem pathsT_len : ∀ (t : BT) (pre : List Int),(pathsT t pre).length = pathsN t
 | .lf b,pre => by cases b <;> rfl
 | .nd v lo hi,pre => by simp [pathsT,pathsN,pathsT_len lo,pathsT_len hi]
structure FP (la : List Dec) (out : List Int) : Prop where
 at' : ∀ k z,out[k]? = some z → z = ((min (pathsN (trs la k)) 4097 : Nat) : Int)
theorem FP.nil (la : List Dec) : FP la [1,0] := ⟨fun k z hz => by
 rcases k with _ | _ | k
 ·simp at hz; rw [(trs_zero la).1,← hz]; rfl
 ·simp at hz; rw [(trs_zero la).2,← hz]; rfl
 ·simp at hz⟩
theorem FP.step {la : List Dec} (hla : Mk la) {out : List Int} (h2 : 2 ≤ out.length) (h : FP la out) {x : Dec} (hx : la[out.length - 2]? = some x) {z1 z2 r : Int} (h1 : out[x.2.1]? = some z1) (h2' : out[x.2.2]? = some z2) (hr : r = if z1 + z2 > 4097 then 4097 else z1 + z2) : FP la (out ++ [r]) := ⟨fun k z hz => by
 by_cases hk : k < out.length
 ·rw [List.getElem?_append_left hk] at hz; exact h.at' k z hz
 ·have hlt := (List.getElem?_eq_some_iff.1 hz).1
  rw [List.length_append,List.length_singleton] at hlt
  have e : k = out.length := by omega
  subst e
  simp at hz
  have e1 := h.at' _ _ h1
  have e2 := h.at' _ _ h2'
  have ht := hla.at hx
  rw [show out.length - 2 + 2 = out.length by omega] at ht
  rw [ht,← hz,hr,e1,e2]
  simp only [pathsN]
  split <;> omega⟩
end Dg
namespace Dg
def featL (f : Nat) : List Nat := (List.range 24).filter (fun i => f.testBit i)
end Dg
namespace Dg
def eachF (jop : Bool → Bool → Bool) (fs : List Nat) (f : Cf → Bool) : Cf → Bool := fs.foldl (fun (g : Cf → Bool) (i : Nat) (cf : Cf) => jop (g (updI cf (i : Int) false)) (g (updI cf (i : Int) true))) f
theorem eachF_take {jop : Bool → Bool → Bool} {fs : List Nat} {k i : Nat} (h : fs[k]? = some i) (f : Cf → Bool) : eachF jop (fs.take (k + 1)) f = fun cf => jop (eachF jop (fs.take k) f (updI cf (i : Int) false)) (eachF jop (fs.take k) f (updI cf (i : Int) true)) := by
 unfold eachF
 rw [List.take_add_one,h,List.foldl_append]
 rfl
def featU (f i : Nat) : List Nat := (List.range i).filter (fun j => f.testBit j)
theorem featU_succ (f i : Nat) : featU f (i + 1) = featU f i ++ (if f.testBit i then [i] else []) := by
 unfold featU
 rw [List.range_succ,List.filter_append]
 congr 1
 cases h : f.testBit i <;> simp [h]
theorem featU_all (f : Nat) : featU f 24 = featL f := rfl
theorem featU_pre (f : Nat) : ∀ i j : Nat,i ≤ j → ∃ r,featU f j = featU f i ++ r
 | i,0,h => ⟨[],by rw [show i = 0 by omega]; simp⟩
 | i,j + 1,h => by
  by_cases e : i = j + 1
  ·exact ⟨[],by rw [e]; simp⟩
  ·obtain ⟨r,hr⟩ := featU_pre f i j (by omega)
   exact ⟨r ++ (if f.testBit j then [j] else []),by rw [featU_succ,hr,List.append_assoc]⟩
theorem feat_at {f i : Nat} (hi : i < 24) (hb : f.testBit i = true) : (featL f)[(featU f i).length]? = some i := by
 obtain ⟨r,hr⟩ := featU_pre f (i + 1) 24 (by omega)
 rw [← featU_all,hr,featU_succ,hb,if_pos rfl,List.append_assoc,List.getElem?_append_right (Nat.le_refl _),Nat.sub_self]
 rfl
theorem featU_lt {f i : Nat} (hi : i < 24) (hb : f.testBit i = true) : (featU f i).length < (featL f).length := (List.getElem?_eq_some_iff.1 (feat_at hi hb)).1
end Dg
namespace Dg
def popN (k x : Nat) : Nat := ((List.range k).filter (fun j => x.testBit j)).length
theorem popN_le (k x : Nat) : popN k x ≤ k := by
 unfold popN
 exact Nat.le_trans (List.length_filter_le _ _) (by simp)
theorem popN_succ (k x : Nat) : popN (k + 1) x = popN k x + (if x.testBit k then 1 else 0) := by
 unfold popN
 rw [List.range_succ,List.filter_append,List.length_append]
 cases h : x.testBit k <;> simp [h]
theorem popN_add (a : Nat) : ∀ (b x : Nat),popN (a + b) x = popN a x + popN b (x >>> a)
 | 0,x => by simp [popN]
 | b + 1,x => by
  rw [← Nat.add_assoc,popN_succ,popN_succ,popN_add a b x,Nat.testBit_shiftRight]
  omega
theorem popN_congr : ∀ (k x y : Nat),(∀ j,j < k → x.testBit j = y.testBit j) → popN k x = popN k y
 | 0,_,_,_ => rfl
 | k + 1,x,y,h => by rw [popN_succ,popN_succ,popN_congr k x y fun j hj => h j (by omega),h k (by omega)]
theorem popN_mask (x : Nat) : popN 8 (x &&& 255) = popN 8 x := popN_congr 8 _ _ fun j hj => by
 rw [Nat.testBit_and,show (255 : Nat) = 2 ^ 8 - 1 from rfl,Nat.testBit_two_pow_sub_one,decide_eq_true hj,Bool.and_true]
theorem popN_32 (x : Nat) : popN 32 x = popN 8 (x >>> 24) + popN 8 (x >>> 16 &&& 255) + popN 8 (x >>> 8 &&& 255) + popN 8 (x &&& 255) := by
 rw [popN_mask,popN_mask,popN_mask,show 32 = 8 + (8 + (8 + 8)) from rfl,popN_add,popN_add,popN_add,← Nat.shiftRight_add,← Nat.shiftRight_add]
 simp only [Nat.reduceAdd]
 omega
theorem popN_24 {x : Nat} (h : x < 2 ^ 24) : popN 32 x = popN 24 x := by
 rw [show 32 = 24 + 8 from rfl,popN_add,show x >>> 24 = 0 by rw [Nat.shiftRight_eq_div_pow]; exact Nat.div_eq_of_lt h]
 rw [show popN 8 0 = 0 from rfl]
 omega
def selN (F : Nat) (cf : Cf) : Nat → Nat
 | 0 => 0
 | d + 1 => selN F cf d + (if F.testBit (23 - d) && cf (23 - d) then 1 else 0)
def inB (low high : Int) (n : Nat) : Bool := decide (low ≤ (n : Int)) && decide ((n : Int) ≤ high)
structure BetI (low high : Int) (F d : Nat) (l : List Dec) (R : List Nat) : Prop where
 d24 : d ≤ 24
 mkl : Mk l
 len : R.length = popN (24 - d) F + 1
 at' : ∀ k r,R[k]? = some r → r < l.length + 2 ∧ (trs l r).ok (24 - d) ∧ ∀ cf,(trs l r).ev cf = inB low high (k + selN F cf d)
theorem BetI.skip {low high : Int} {F d : Nat} {l : List Dec} {R : List Nat} (h : BetI low high F d l R) (hd : d < 24) (hb : F.testBit (23 - d) = false) : BetI low high F (d + 1) l R := by
 have e : 24 - d = (24 - (d + 1)) + 1 := by omega
 have e2 : 24 - (d + 1) = 23 - d := by omega
 refine ⟨hd,h.mkl,?_,fun k r hk => ?_⟩
 ·have := h.len
  rw [e,popN_succ,e2,hb] at this
  rw [e2]
  simpa using this
 obtain ⟨h1,h2,h3⟩ := h.at' k r hk
 refine ⟨h1,BT.ok_mono h2 (by omega),fun cf => ?_⟩
 rw [h3,selN,hb,Bool.false_and]
 rfl
structure BetN (low high : Int) (F d : Nat) (l : List Dec) (R S : List Nat) : Prop where
 cur : BetI low high F d l R
 at' : ∀ k r,S[k]? = some r → r < l.length + 2 ∧ (trs l r).ok (24 - (d + 1)) ∧ ∀ cf,(trs l r).ev cf = inB low high (k + selN F cf (d + 1))
theorem BetN.next {low high : Int} {F d : Nat} {l l2 : List Dec} {R S : List Nat} (h : BetN low high F d l R S) (hd : d < 24) (hb : F.testBit (23 - d) = true) {lo hi p : Nat} (h1 : R[S.length]? = some lo) (h2 : R[S.length + 1]? = some hi) (hm : MadeN l l2 p (mkN (23 - d) (trs l lo) (trs l hi))) : BetN low high F d l2 R (S ++ [p]) := by
 obtain ⟨a1,a2,a3⟩ := h.cur.at' _ _ h1
 obtain ⟨b1,b2,b3⟩ := h.cur.at' _ _ h2
 have hl := hm.len
 refine ⟨⟨h.cur.d24,hm.ismk,h.cur.len,fun k r hk => ?_⟩,fun k r hk => ?_⟩
 ·obtain ⟨c1,c2,c3⟩ := h.cur.at' k r hk
  rw [hm.old c1]
  exact ⟨by omega,c2,c3⟩
 by_cases hks : k < S.length
 ·rw [List.getElem?_append_left hks] at hk
  obtain ⟨c1,c2,c3⟩ := h.at' k r hk
  rw [hm.old c1]
  exact ⟨by omega,c2,c3⟩
 have hkl := (List.getElem?_eq_some_iff.1 hk).1
 rw [List.length_append,List.length_singleton] at hkl
 have hke : k = S.length := by omega
 subst hke
 rw [List.getElem?_append_right (Nat.le_refl _),Nat.sub_self,List.getElem?_cons_zero] at hk
 cases hk
 refine ⟨hm.lt,?_,fun cf => ?_⟩
 ·rw [hm.tree]
  have e : 24 - d = 23 - d + 1 := by omega
  rw [e] at a2 b2
  exact mkN_ok (by omega) (by omega) a2 b2
 rw [hm.tree,mkN_ev,a3,b3,selN,hb,Bool.true_and]
 cases cf (23 - d)
 ·simp
 simp only [cond_true,if_true]
 rw [show S.length + 1 + selN F cf d = S.length + (selN F cf d + 1) by omega]
theorem BetN.done {low high : Int} {F d : Nat} {l : List Dec} {R S : List Nat} (h : BetN low high F d l R S) (hd : d < 24) (hb : F.testBit (23 - d) = true) (hs : S.length + 1 = R.length) : BetI low high F (d + 1) l S := by
 have e : 24 - d = (24 - (d + 1)) + 1 := by omega
 have e2 : 24 - (d + 1) = 23 - d := by omega
 refine ⟨hd,h.cur.mkl,?_,h.at'⟩
 have := h.cur.len
 rw [e,popN_succ,e2,hb,if_pos rfl] at this
 rw [e2]
 omega
end Dg
namespace Go.Eng
open Go Go.RowKit
theorem St.allocObj {w0 w : World} {O : List Nat} {C : List Chunk} (h : St w0 O C w) (o : Obj) (c0 : Chunk) (hf : ∀ k,c0.fp k ↔ k = w.heap.size) (hok : c0.ok (w.alloc o)) : St w0 O (c0 :: C) (w.alloc o) := by
 have hh : ∀ k,k < w.heap.size → (w.alloc o).heap[k]? = w.heap[k]? := fun k hk => Below.heap_alloc w _ k hk
 refine ⟨h.os,h.tape,h.output,by have := h.size; simp; omega,fun k hk ho => ?_,?_,?_,?_⟩
 ·rw [hh k (Nat.lt_of_lt_of_le hk h.size)]; exact h.old k hk ho
 ·intro c hc
  rcases List.mem_cons.1 hc with rfl | hc
  ·exact hok
  exact (h.ok c hc |> fun hok => c.loc w _ (fun k hk => hh k (h.bnd c hc k hk).1) hok)
 ·intro c hc k hk
  rcases List.mem_cons.1 hc with rfl | hc
  ·have : k = w.heap.size := (hf k).1 hk
   subst this
   exact ⟨by simp,fun hlt => absurd hlt (Nat.not_lt.2 h.size)⟩
  exact ⟨by have := (h.bnd c hc k hk).1; simp; omega,(h.bnd c hc k hk).2⟩
 refine List.Pairwise.cons (fun c hc k hk hk' => ?_) h.disj
 have : k = w.heap.size := (hf k).1 hk
 subst this
 exact Nat.lt_irrefl _ (h.bnd c hc _ hk').1
theorem St.setObj {w0 w : World} {O : List Nat} {C C' : List Chunk} {b : Nat} {c0 c1 : Chunk} {o : Obj} (h : St w0 O C w) (hu : Upd c0 c1 C C') (hf : ∀ k,c0.fp k ↔ k = b) (hf' : ∀ k,c1.fp k ↔ k = b) (hok : c1.ok { w with heap := w.heap.setIfInBounds b o }) :
  St w0 O C' { w with heap := w.heap.setIfInBounds b o } := by
 obtain ⟨R,p1,p2⟩ := hu.perm
 have h1 := h.perm p1
 refine St.perm ?_ p2.symm
 have hbO := (h1.bnd _ (List.mem_cons_self ..) b ((hf b).2 rfl))
 have hoth : ∀ k,k ≠ b → ({ w with heap := w.heap.setIfInBounds b o } : World).heap[k]? = w.heap[k]? := fun k hk => by
  show (w.heap.setIfInBounds b o)[k]? = _
  rw [Array.getElem?_setIfInBounds_ne (Ne.symm hk)]
 have hdis := List.pairwise_cons.1 h1.disj
 refine ⟨h.os,h.tape,h.output,by simpa using h.size,fun k hk ho => ?_,?_,?_,?_⟩
 ·by_cases hkb : k = b
  ·subst hkb; exact absurd (hbO.2 hk) ho
  rw [hoth k hkb]; exact h.old k hk ho
 ·intro c hc
  rcases List.mem_cons.1 hc with rfl | hc
  ·exact hok
  refine c.loc w _ (fun k hk => hoth k (fun e => ?_)) (h1.ok c (List.mem_cons_of_mem _ hc))
  exact hdis.1 c hc k ((hf k).2 e) hk
 ·intro c hc k hk
  rcases List.mem_cons.1 hc with rfl | hc
  ·have : k = b := (hf' k).1 hk
   subst this
   exact ⟨by simpa using hbO.1,hbO.2⟩
  simpa using h1.bnd c (List.mem_cons_of_mem _ hc) k hk
 exact List.Pairwise.cons (fun c hc k hk hk' => hdis.1 c hc k ((hf k).2 ((hf' k).1 hk)) hk') hdis.2
section
variable {P : Program} {w0 : World} {O : List Nat} {ops : Array Oper} {Q : Exit → Act → World → Prop} {N : Nat} {D : List Deferred} {L : FL} {C : List Chunk} {K : Act → World → Prop}
variable {d : Nat} {ty : TypeId} {pos : String} {af : Array Edge}
end
open Go Go.RowKit
def kidx {κ : Type} [DecidableEq κ] : List (κ × Value) → κ → Nat → Option (Nat × Value)
 | [],_,_ => none
 | p :: r,k,i => if p.1 = k then some (i,p.2) else kidx r k (i + 1)
def kfind {κ : Type} [DecidableEq κ] : List (κ × Value) → κ → Option Value
 | [],_ => none
 | p :: r,k => if p.1 = k then some p.2 else kfind r k
theorem kidx_none {κ : Type} [DecidableEq κ] : ∀ {kvs : List (κ × Value)} {k : κ} {i : Nat},kidx kvs k i = none ↔ kfind kvs k = none
 | [],_,_ => by simp [kidx,kfind]
 | p :: r,k,i => by
  unfold kidx kfind
  split
  ·simp
  ·exact kidx_none
theorem kidx_some {κ : Type} [DecidableEq κ] : ∀ {kvs : List (κ × Value)} {k : κ} {i j : Nat} {v : Value},kidx kvs k i = some (j,v) → i ≤ j ∧ kvs[j - i]? = some (k,v) ∧ kfind kvs k = some v ∧ ∀ v' k',kfind (kvs.set (j - i) (k,v')) k' = if k' = k then some v' else kfind kvs k'
 | [],_,_,_,_,h => by simp [kidx] at h
 | p :: r,k,i,j,v,h => by
  unfold kidx at h
  by_cases hp : p.1 = k
  ·rw [if_pos hp] at h
   simp only [Option.some.injEq,Prod.mk.injEq] at h
   obtain ⟨rfl,rfl⟩ := h
   subst hp
   refine ⟨Nat.le_refl _,by simp,by simp [kfind],fun v' k' => ?_⟩
   simp only [Nat.sub_self,List.set_cons_zero,kfind]
   by_cases hk : k' = p.1
   ·simp [hk]
   ·simp [hk,Ne.symm hk]
  ·rw [if_neg hp] at h
   obtain ⟨h1,h2,h3,h4⟩ := kidx_some h
   have e : j - i = (j - (i + 1)) + 1 := by omega
   refine ⟨by omega,by rw [e]; simpa using h2,by simp [kfind,hp,h3],fun v' k' => ?_⟩
   rw [e,List.set_cons_succ]
   simp only [kfind]
   by_cases hk : p.1 = k'
   ·rw [if_pos hk,if_pos hk,if_neg (fun e => hp (hk.trans e))]
   ·rw [if_neg hk,if_neg hk]; exact h4 v' k'
theorem kfind_snoc {κ : Type} [DecidableEq κ] : ∀ {kvs : List (κ × Value)} {k : κ} {v : Value},kfind kvs k = none → ∀ k',kfind (kvs ++ [(k,v)]) k' = if k' = k then some v else kfind kvs k'
 | [],k,v,_,k' => by
  simp only [List.nil_append,kfind]
  by_cases h : k' = k
  ·simp [h]
  ·simp [h,Ne.symm h]
 | p :: r,k,v,h,k' => by
  unfold kfind at h
  by_cases hp : p.1 = k
  ·rw [if_pos hp] at h; cases h
  ·rw [if_neg hp] at h
   simp only [List.cons_append,kfind]
   by_cases hk : p.1 = k'
   ·rw [if_pos hk,if_pos hk,if_neg (fun e => hp (hk.trans e))]
   ·rw [if_neg hk,if_neg hk]; exact kfind_snoc h k'
structure KeyT (P : Program) (kt : TypeId) {κ : Type} [DecidableEq κ] (enc : κ → Value) : Prop where
 check : ∀ e w k,(Instr.checkKey e 10000 kt (enc k)).run P w = .ok () w
 find : ∀ w k (es : List MapEntry) (kvs : List (κ × Value)),es.map (fun e => (e.key,e.val)) = kvs.map (fun p => (enc p.1,p.2)) → (Instr.findKey kt (enc k) es).run P w = .ok (kidx kvs k 0) w
 stays : ∀ w k,(Instr.keyThatStays (enc k) (enc k)).run P w = .ok (enc k) w
def mpg {κ : Type} [DecidableEq κ] (enc : κ → Value) (b : Nat) (f : κ → Option Value) : Chunk where
 fp k := k = b
 ok w := ∃ (es : Array MapEntry) (clock : Nat) (kvs : List (κ × Value)),w.heap[b]? = some (.map es clock) ∧ es.toList.map (fun e => (e.key,e.val)) = kvs.map (fun p => (enc p.1,p.2)) ∧ ∀ k,f k = kfind kvs k
 loc w w' h := fun ⟨es,c,kvs,h1,h2⟩ => ⟨es,c,kvs,(h b rfl).trans h1,h2⟩
theorem map_modify_set {α β : Type} (f : α → β) (g : α → α) : ∀ (l : List α) (j : Nat) (a : α),l[j]? = some a → (l.modify j g).map f = (l.map f).set j (f (g a))
 | [],j,a,h => by simp at h
 | x :: r,0,a,h => by simp at h; subst h; simp
 | x :: r,j + 1,a,h => by
  simp only [List.getElem?_cons_succ] at h
  simp [map_modify_set f g r j a h]
section
variable {P : Program} {w0 : World} {O : List Nat} {ops : Array Oper} {Q : Exit → Act → World → Prop} {N : Nat} {D : List Deferred} {L : FL} {C : List Chunk} {K : Act → World → Prop}
variable {d : Nat} {ty : TypeId} {pos : String} {af : Array Edge}
variable {κ : Type} [DecidableEq κ] {enc : κ → Value} {kt : TypeId}
theorem WL.makeMapG (enc : κ → Value) {t : TypeId} (hd : Nat.blt d N = true) (h : ∀ b,WA w0 O K N D ((d,.map (some b)) :: L) (mpg enc b (fun _ => none) :: C)) :
  WK P w0 O ops Q ⟨some d,.makeMap t none,ty,pos,af,none⟩ K N D L C := fun a w hF hS => by
 refine wpo_val rfl ?_ (h w.heap.size _ (w.alloc (.map #[] 0)) (hF.put d _ hd) (hS.allocObj _ (mpg enc w.heap.size (fun _ => none)) (fun k => Iff.rfl) ⟨#[],0,[],by show (w.heap.push _)[w.heap.size]? = _; simp,rfl,fun _ => rfl⟩))
 have hr := run_makeMap_plain (P := P) (w := w) t
 simp only [execOp,Option.map_none,Sem.run_bind,hr,Result.andThen_ok,Sem.run_pure]
theorem run_lookupG {t et : TypeId} {b : Nat} {k : κ} {f : κ → Option Value} {z : Value} (hm : P.underlying t = some (.map kt et)) (hk : KeyT P kt enc) (hz : ∀ w,(zeroValue et).run P w = .ok z w) {w : World} (hok : (mpg enc b f).ok w) (cm : Bool) :
  (Instr.lookup t (.map (some b)) (enc k) cm).run P w = .ok (bif cm then .tuple #[(f k).getD z,.bool (f k).isSome] else (f k).getD z) w := by
 obtain ⟨es,clock,kvs,h1,h2,h3⟩ := hok
 have hf := hk.find w k es.toList kvs h2
 cases hh : kidx kvs k 0 with
 | none =>
  have hn : f k = none := by rw [h3,kidx_none.1 hh]
  rw [hh] at hf
  cases cm <;> simp [Instr.lookup,run_underlying hm,MapKept.run_getObj_map h1,hk.check,hf,Result.andThen,hz,hn]
 | some p =>
  obtain ⟨j,v⟩ := p
  have hn : f k = some v := by rw [h3,(kidx_some hh).2.2.1]
  rw [hh] at hf
  cases cm <;> simp [Instr.lookup,run_underlying hm,MapKept.run_getObj_map h1,hk.check,hf,Result.andThen,hn]
theorem WL.lookupG {t et : TypeId} {x y : Operand} {b : Nat} {f : κ → Option Value} {z vy : Value} {cm : Bool} (k : κ) (hm : P.underlying t = some (.map kt et)) (hk : KeyT P kt enc) (hz : ∀ w,(zeroValue et).run P w = .ok z w) (hd : Nat.blt d N = true)
  (hx : ev L x = some (.map (some b))) (hy : ev L y = some vy) (hvy : vy = enc k) (hmem : mpg enc b f ∈ C) (h : WA w0 O K N D ((d,bif cm then .tuple #[(f k).getD z,.bool (f k).isSome] else (f k).getD z) :: L) C) :
  WK P w0 O ops Q ⟨some d,.lookup t x y cm,ty,pos,af,none⟩ K N D L C := fun a w hF hS => by
 subst hvy
 refine wpo_val rfl ?_ (h _ w (hF.put d _ hd) hS)
 simp only [execOp,hF.ev hx,hF.ev hy,Sem.run_bind,run_lookupG hm hk hz (hS.ok _ hmem),Result.andThen_ok,Sem.run_pure]
theorem WL.lookupHit {t et : TypeId} {x y : Operand} {b : Nat} {f : κ → Option Value} {z v vy : Value} (k : κ) (hm : P.underlying t = some (.map kt et)) (hk : KeyT P kt enc) (hz : ∀ w,(zeroValue et).run P w = .ok z w) (hd : Nat.blt d N = true)
  (hx : ev L x = some (.map (some b))) (hy : ev L y = some vy) (hvy : vy = enc k) (hmem : mpg enc b f ∈ C) (hf : f k = some v) (h : WA w0 O K N D ((d,.tuple [v,.bool true].toArray) :: L) C) :
  WK P w0 O ops Q ⟨some d,.lookup t x y true,ty,pos,af,none⟩ K N D L C := WL.lookupG k hm hk hz hd hx hy hvy hmem (by rw [hf]; exact h)
theorem WL.lookupMiss {t et : TypeId} {x y : Operand} {b : Nat} {f : κ → Option Value} {z vy : Value} (k : κ) (hm : P.underlying t = some (.map kt et)) (hk : KeyT P kt enc) (hz : ∀ w,(zeroValue et).run P w = .ok z w) (hd : Nat.blt d N = true)
  (hx : ev L x = some (.map (some b))) (hy : ev L y = some vy) (hvy : vy = enc k) (hmem : mpg enc b f ∈ C) (hf : f k = none) (h : WA w0 O K N D ((d,.tuple [z,.bool false].toArray) :: L) C) :
  WK P w0 O ops Q ⟨some d,.lookup t x y true,ty,pos,af,none⟩ K N D L C := WL.lookupG k hm hk hz hd hx hy hvy hmem (by rw [hf]; exact h)
theorem WL.mapPutG {t et : TypeId} {x y z : Operand} {b : Nat} {f : κ → Option Value} {vy v : Value} {C' : List Chunk} (k : κ) (hm : P.underlying t = some (.map kt et)) (hk : KeyT P kt enc)
  (hx : ev L x = some (.map (some b))) (hy : ev L y = some vy) (hvy : vy = enc k) (hz : ev L z = some v) (hu : Upd (mpg enc b f) (mpg enc b (fun q => if q = k then some v else f q)) C C') (h : WA w0 O K N D L C') :
  WK P w0 O ops Q ⟨none,.mapUpdate t x y z,ty,pos,af,none⟩ K N D L C := fun a w hF hS => by
 subst hvy
 obtain ⟨es,clock,kvs,h1,h2,h3⟩ := hS.ok _ hu.mem
 have hb : b < w.heap.size := ((hS.bnd _ hu.mem) b rfl).1
 have hf := hk.find w k es.toList kvs h2
 cases hh : kidx kvs k 0 with
 | none =>
  rw [hh] at hf
  have hr : (Instr.mapUpdate t (.map (some b)) (enc k) v).run P w = .ok () { w with heap := w.heap.setIfInBounds b (.map (es.push { key := enc k,val := v,born := clock }) (clock + 1)) } := by
   simp [Instr.mapUpdate,run_underlying hm,MapKept.run_getObj_map h1,hk.check,hf,MapKept.run_setObj_map _ h1,Result.andThen]
  refine wpo_skip rfl (w' := { w with heap := w.heap.setIfInBounds b (.map (es.push { key := enc k,val := v,born := clock }) (clock + 1)) }) ?_ (h _ _ hF (hS.setObj hu (fun k => Iff.rfl) (fun k => Iff.rfl) ⟨es.push { key := enc k,val := v,born := clock },clock + 1,kvs ++ [(k,v)],?_,?_,?_⟩))
  ·simp [execOp,hF.ev hx,hF.ev hy,hF.ev hz,hr]
  ·show (w.heap.setIfInBounds b _)[b]? = _
   rw [Array.getElem?_setIfInBounds_self_of_lt hb]
  ·simp [h2]
  ·intro q
   rw [kfind_snoc (kidx_none.1 hh) q]
   simp only [h3]
 | some p =>
  obtain ⟨j,u⟩ := p
  rw [hh] at hf
  obtain ⟨_,g2,g3,g4⟩ := kidx_some hh
  simp only [Nat.sub_zero] at g2 g4
  have hlen : es.toList.length = kvs.length := by have := congrArg List.length h2; simpa using this
  have hjl : j < es.toList.length := by rw [hlen]; exact (List.getElem?_eq_some_iff.1 g2).1
  have hej : es.toList[j]? = some es.toList[j] := List.getElem?_eq_getElem hjl
  have hkey : es.toList[j].key = enc k := by
   have e1 : (es.toList.map (fun e => (e.key,e.val)))[j]? = some (es.toList[j].key,es.toList[j].val) := by rw [List.getElem?_map,hej]; rfl
   rw [h2,List.getElem?_map,g2] at e1
   simp only [Option.map_some,Option.some.injEq,Prod.mk.injEq] at e1
   exact e1.1.symm
  have hej' : es[j]? = some es.toList[j] := by rw [← Array.getElem?_toList]; exact hej
  have hkey2 := hkey
  simp only [Array.getElem_toList] at hkey2
  have hr : (Instr.mapUpdate t (.map (some b)) (enc k) v).run P w = .ok () { w with heap := w.heap.setIfInBounds b (.map (es.modify j fun e => { e with key := enc k,val := v }) clock) } := by
   simp [Instr.mapUpdate,run_underlying hm,MapKept.run_getObj_map h1,hk.check,hf,MapKept.run_setObj_map _ h1,Result.andThen,hej',hkey,hkey2,hk.stays]
  refine wpo_skip rfl (w' := { w with heap := w.heap.setIfInBounds b (.map (es.modify j fun e => { e with key := enc k,val := v }) clock) }) ?_ (h _ _ hF (hS.setObj hu (fun k => Iff.rfl) (fun k => Iff.rfl) ⟨es.modify j fun e => { e with key := enc k,val := v },clock,kvs.set j (k,v),?_,?_,?_⟩))
  ·simp [execOp,hF.ev hx,hF.ev hy,hF.ev hz,hr]
  ·show (w.heap.setIfInBounds b _)[b]? = _
   rw [Array.getElem?_setIfInBounds_self_of_lt hb]
  ·rw [Array.toList_modify,map_modify_set _ _ _ _ _ hej,h2,List.map_set]
  ·intro q
   rw [g4 v q]
   simp only [h3]
end
def encI (n : Nat) : Value := .int .i64 (n : Int)
def enc2 (p : Nat × Nat) : Value := .agg #[.int .i64 (p.1 : Int),.int .i64 (p.2 : Int)]
def enc3 (p : Nat × Nat × Nat) : Value := .agg #[.int .i64 (p.1 : Int),.int .i64 (p.2.1 : Int),.int .i64 (p.2.2 : Int)]
section
variable {P : Program} {kt : TypeId} {κ : Type} [DecidableEq κ] {enc : κ → Value}
theorem findNow_kidx {d : TypeDesc} (hs : ∀ a b : κ,Instr.sameNow d (enc a) (enc b) = some (decide (b = a))) (k : κ) : ∀ (es : List MapEntry) (kvs : List (κ × Value)) (i : Nat),es.map (fun e => (e.key,e.val)) = kvs.map (fun p => (enc p.1,p.2)) → Instr.findNow d (enc k) es i = some (kidx kvs k i)
 | [],[],_,_ => rfl
 | [],p :: r,_,h => by simp at h
 | e :: es,[],_,h => by simp at h
 | e :: es,p :: r,i,h => by
  simp only [List.map_cons,List.cons.injEq,Prod.mk.injEq] at h
  obtain ⟨⟨h1,h2⟩,h3⟩ := h
  unfold Instr.findNow kidx
  rw [h1,hs k p.1,h2]
  by_cases hp : p.1 = k
  ·simp [hp]
  ·simp only [hp,decide_false,if_false]
   exact findNow_kidx hs k es r (i + 1) h3
theorem findAsking_kidx {w : World} (hs : ∀ a b : κ,(Op.equal kt (enc a) (enc b)).run P w = .ok (decide (b = a)) w) (k : κ) : ∀ (es : List MapEntry) (kvs : List (κ × Value)) (i : Nat),es.map (fun e => (e.key,e.val)) = kvs.map (fun p => (enc p.1,p.2)) → (Instr.findAsking kt (enc k) es i).run P w = .ok (kidx kvs k i) w
 | [],[],_,_ => by simp [Instr.findAsking,kidx]
 | [],p :: r,_,h => by simp at h
 | e :: es,[],_,h => by simp at h
 | e :: es,p :: r,i,h => by
  simp only [List.map_cons,List.cons.injEq,Prod.mk.injEq] at h
  obtain ⟨⟨h1,h2⟩,h3⟩ := h
  unfold Instr.findAsking kidx
  simp only [Sem.run_bind,h1,hs k p.1,Result.andThen_ok,h2]
  by_cases hp : p.1 = k
  ·simp [hp]
  ·simp only [hp,decide_false,if_false,Bool.false_eq_true]
   exact findAsking_kidx hs k es r (i + 1) h3
theorem KeyT.nat (hu : P.underlying kt = some (.int .i64)) : KeyT P kt encI where
 check e w k := by unfold encI; exact MapKept.run_checkKey hu (by simp [MapKept.IsKey]) e 9999
 find w k es kvs h := MapKept.run_findKey hu (findNow_kidx (d := .int .i64) (fun a b => by
  simp only [Instr.sameNow,encI,if_pos,Option.some.injEq]
  rw [Bool.eq_iff_iff]; simp; omega) k es kvs 0 h)
 stays w k := MapKept.run_keyThatStays (d := .int .i64) (by simp [MapKept.IsKey,encI])
end
open Go Go.RowKit
section
variable {P : Program} {w0 : World} {O : List Nat} {Q : Exit → Act → World → Prop} {N : Nat} {D : List Deferred} {L : FL} {C : List Chunk}
theorem WC.cutPE {c : Code} {α : Type} (M : α → FL) (C' : α → List Chunk) (hq : NoLook Q) (hx : ∀ Q',NoLook Q' → (∀ x,WQ w0 O Q' .normal N D (M x) (C' x)) → WC P w0 O c Q' N D L C) (hy : ∀ x,WQ w0 O Q .normal N D (M x) (C' x)) : WC P w0 O c Q N D L C := hx Q hq hy
end
section
variable {ops : Array Oper} {Fs : List (List Nat × (World → Prop))}
def fwd (i : Nat) : List Oper → List Bool → List Bool
 | [],acc => acc
 | o :: os,acc => fwd i os (acc ++ [o.after.any fun e => Region.binds .any e && (e.on == i || acc.getD e.on false)])
theorem fwd_not {listed : Array Bool} (hc : Closed ops listed) {i : Nat} (hi : listed.getD i false = false) : ∀ (os : List Oper) (acc : List Bool),ops.toList.drop acc.length = os → (∀ x,acc.getD x false = true → listed.getD x false = false) → ∀ x,(fwd i os acc).getD x false = true → listed.getD x false = false
 | [],acc,_,h,x,hx => h x hx
 | o :: os,acc,hd,h,x,hx => by
  have hlt : acc.length < ops.toList.length := by
   by_cases hl : acc.length < ops.toList.length
   ·exact hl
   ·rw [List.drop_eq_nil_of_le (by omega)] at hd; cases hd
  rw [List.drop_eq_getElem_cons hlt] at hd
  injection hd with h1 h2
  have ho : ops[acc.length]? = some o := by
   rw [← Array.getElem?_toList,List.getElem?_eq_getElem hlt,h1]
  refine fwd_not hc hi os _ (by rw [List.length_append]; exact h2) (fun y hy => ?_) x hx
  by_cases hyl : y < acc.length
  ·rw [List.getD_eq_getElem?_getD,List.getElem?_append_left hyl,← List.getD_eq_getElem?_getD] at hy
   exact h y hy
  ·rw [List.getD_eq_getElem?_getD,List.getElem?_append_right (by omega)] at hy
   have hye : y = acc.length := by
    by_cases he : y - acc.length = 0
    ·omega
    ·rw [List.getElem?_eq_none (by simp; omega)] at hy; simp at hy
   subst hye
   simp only [Nat.sub_self,List.getElem?_cons_zero,Option.getD_some] at hy
   obtain ⟨e,he,hb⟩ := Array.any_eq_true'.1 hy
   simp only [Bool.and_eq_true,Bool.or_eq_true,beq_iff_eq] at hb
   cases hl : listed.getD acc.length false with
   | false => rfl
   | true =>
    have h3 := hc acc.length o ho hl e he hb.1
    rcases hb.2 with h4 | h4
    ·rw [h4,hi] at h3; cases h3
    ·rw [h _ h4] at h3; cases h3
def allIn (l : List Bool) (ds : List Nat) : Bool := ds.all fun j => l.getD j false
theorem need_at2 {i : Nat} (k : Nat) {ds : List Nat} {Y : World → Prop} (hm : Fs[k]? = some (ds,Y)) (hr : allIn (fwd i ops.toList []) ds = true) :
  ∀ (listed : Array Bool) (w : World),Closed ops listed → listed.getD i false = false → Sx Fs listed w → Y w := fun listed w hc hi hS =>
 hS (ds,Y) (List.mem_of_getElem? hm) fun j hj => fwd_not hc hi ops.toList [] rfl (fun x hx => by simp at hx) j (List.all_eq_true.1 hr j hj)
end
open Go Go.RowKit Go.Proofs.YtkgllhkhdjodeaaGreat
def bun (F : List Nat) {α : Type} (Cs : α → List Chunk) (φ : α → Prop) : Chunk where
 fp k := k ∈ F
 ok w := ∃ x,φ x ∧ (∀ c ∈ Cs x,c.ok w) ∧ (Cs x).Pairwise (fun (c d : Chunk) => ∀ k : Nat,c.fp k → ¬ d.fp k) ∧ (∀ c ∈ Cs x,∀ k,c.fp k → k ∈ F) ∧ ∀ k ∈ F,∃ c ∈ Cs x,c.fp k
 loc w w' h := fun ⟨x,h1,h2,h3,h4,h5⟩ => ⟨x,h1,fun c hc => c.loc w w' (fun k hk => h k (h4 c hc k hk)) (h2 c hc),h3,h4,h5⟩
section
variable {P : Program} {w0 : World} {O : List Nat} {ops : Array Oper} {Q : Exit → Act → World → Prop} {N : Nat} {D : List Deferred} {L : FL} {C : List Chunk} {K : Act → World → Prop}
variable {d : Nat} {ty : TypeId} {pos : String} {af : Array Edge}
theorem St.bunOpen {w : World} {F : List Nat} {α : Type} {Cs : α → List Chunk} {φ : α → Prop} (h : St w0 O (bun F Cs φ :: C) w) : ∃ x,φ x ∧ (∀ c ∈ Cs x,∀ k,c.fp k → k ∈ F) ∧ (∀ k ∈ F,∃ c ∈ Cs x,c.fp k) ∧ St w0 O (Cs x ++ C) w := by
 obtain ⟨x,h1,h2,h3,h4,h5⟩ := h.ok _ (List.mem_cons_self ..)
 have hd := List.pairwise_cons.1 h.disj
 refine ⟨x,h1,h4,h5,h.os,h.tape,h.output,h.size,h.old,fun c hc => ?_,fun c hc k hk => ?_,List.pairwise_append.2 ⟨h3,hd.2,fun c hc d hd' k hk hk' => hd.1 d hd' k (h4 c hc k hk) hk'⟩⟩
 ·rcases List.mem_append.1 hc with hc | hc
  ·exact h2 c hc
  exact h.ok c (List.mem_cons_of_mem _ hc)
 rcases List.mem_append.1 hc with hc | hc
 ·exact h.bnd _ (List.mem_cons_self ..) k (h4 c hc k hk)
 exact h.bnd c (List.mem_cons_of_mem _ hc) k hk
theorem St.bunClose {w : World} {F : List Nat} {α : Type} {Cs : α → List Chunk} {φ : α → Prop} (x : α) (hφ : φ x) (h4 : ∀ c ∈ Cs x,∀ k,c.fp k → k ∈ F) (h5 : ∀ k ∈ F,∃ c ∈ Cs x,c.fp k) (h : St w0 O (Cs x ++ C) w) : St w0 O (bun F Cs φ :: C) w := by
 have hd := List.pairwise_append.1 h.disj
 refine ⟨h.os,h.tape,h.output,h.size,h.old,fun c hc => ?_,fun c hc k hk => ?_,List.Pairwise.cons (fun c hc k hk hk' => ?_) hd.2.1⟩
 ·rcases List.mem_cons.1 hc with rfl | hc
  ·exact ⟨x,hφ,fun c hc => h.ok c (List.mem_append_left _ hc),hd.1,h4,h5⟩
  exact h.ok c (List.mem_append_right _ hc)
 ·rcases List.mem_cons.1 hc with rfl | hc
  ·obtain ⟨c',hc',hk'⟩ := h5 k hk
   exact h.bnd c' (List.mem_append_left _ hc') k hk'
  exact h.bnd c (List.mem_append_right _ hc) k hk
 obtain ⟨c',hc',hk2⟩ := h5 k hk
 exact hd.2.2 c' hc' c hc k hk2 hk'
theorem bun_O1 {F : List Nat} {α : Type} {Cs : α → List Chunk} {φ : α → Prop} : ∀ c ∈ [bun F Cs φ],∀ k,c.fp k → k ∈ F := by
 intro c hc k hk
 simp only [List.mem_singleton] at hc
 subst hc; exact hk
theorem bun_O2 {F : List Nat} {α : Type} {Cs : α → List Chunk} {φ : α → Prop} : ∀ k ∈ F,∃ c ∈ [bun F Cs φ],c.fp k := fun k hk => ⟨_,List.mem_singleton.2 rfl,hk⟩
def FpIs (c : Chunk) (F : List Nat) : Prop := ∀ k,c.fp k ↔ k ∈ F
theorem FpIs.pt {b : Nat} {cs : List Value} {e : TypeId} : FpIs (pt b cs e) [b] := fun k => by
 show k = b ↔ _
 simp
theorem FpIs.mpg {κ : Type} [DecidableEq κ] {enc : κ → Value} {b : Nat} {f : κ → Option Value} : FpIs (mpg enc b f) [b] := fun k => by
 show k = b ↔ _
 simp
theorem FpIs.rowc {v : Value} {n : Nat} {e : TypeId} {sz : Nat} {xs : List Value} : FpIs (rowc v n e sz xs) (ob v) := fun k => by
 rw [mem_ob]; rfl
theorem FpIs.bun {F : List Nat} {α : Type} {Cs : α → List Chunk} {φ : α → Prop} : FpIs (bun F Cs φ) F := fun k => Iff.rfl
inductive FpL : List Chunk → List Nat → Prop
 | nil : FpL [] []
 | cons {c F Cs Fs} : FpIs c F → FpL Cs Fs → FpL (c :: Cs) (F ++ Fs)
theorem FpL.one {Cs : List Chunk} {F : List Nat} (h : FpL Cs F) : ∀ c ∈ Cs,∀ k,c.fp k → k ∈ F := by
 induction h with
 | nil => intro c hc; cases hc
 | cons h1 h2 ih =>
  intro c hc k hk
  rcases List.mem_cons.1 hc with rfl | hc
  ·exact List.mem_append_left _ ((h1 k).1 hk)
  ·exact List.mem_append_right _ (ih c hc k hk)
theorem FpL.two {Cs : List Chunk} {F : List Nat} (h : FpL Cs F) : ∀ k ∈ F,∃ c ∈ Cs,c.fp k := by
 induction h with
 | nil => intro k hk; cases hk
 | cons h1 h2 ih =>
  intro k hk
  rcases List.mem_append.1 hk with hk | hk
  ·exact ⟨_,List.mem_cons_self ..,(h1 k).2 hk⟩
  ·obtain ⟨c,hc,hk⟩ := ih k hk
   exact ⟨c,List.mem_cons_of_mem _ hc,hk⟩
theorem St.bunClose' {w : World} {F : List Nat} {α : Type} {Cs : α → List Chunk} {φ : α → Prop} (x : α) (hφ : φ x) (hF : FpL (Cs x) F) (h : St w0 O (Cs x ++ C) w) : St w0 O (bun F Cs φ :: C) w := h.bunClose x hφ hF.one hF.two
theorem St.apart {w : World} {C1 : List Chunk} {F : List Nat} (h : St w0 O (C ++ C1) w) (h2 : ∀ k ∈ F,∃ c ∈ C,c.fp k) {z : Nat} (hz : z < w0.heap.size) (hO : z ∉ O) : z ∉ F := fun hk => by
 obtain ⟨c,hc,hf⟩ := h2 z hk
 exact hO ((h.bnd c (List.mem_append_left _ hc) z hf).2 hz)
variable {κ : Type} [DecidableEq κ] {enc : κ → Value} {kt : TypeId}
theorem Yl.lookupG {t et : TypeId} {x y : Operand} {b : Nat} {f : κ → Option Value} {z vy v : Value} {cm : Bool} (k : κ) (hm : P.underlying t = some (.map kt et)) (hk : KeyT P kt enc) (hz : ∀ w,(zeroValue et).run P w = .ok z w)
  (hx : ev L x = some (.map (some b))) (hy : ev L y = some vy) (hvy : vy = enc k) (hv : v = bif cm then .tuple #[(f k).getD z,.bool (f k).isSome] else (f k).getD z) : Yl P N D L (fun w => (mpg enc b f).ok w) ⟨some d,.lookup t x y cm,ty,pos,af,none⟩ v := fun a w hF hok => by
 subst hvy; subst hv
 simp only [execOp,hF.ev hx,hF.ev hy,Sem.run_bind,run_lookupG hm hk hz hok,Result.andThen_ok,Sem.run_pure]
theorem Yl.lookupHit {t et : TypeId} {x y : Operand} {b : Nat} {f : κ → Option Value} {z vy v : Value} (k : κ) (hm : P.underlying t = some (.map kt et)) (hk : KeyT P kt enc) (hz : ∀ w,(zeroValue et).run P w = .ok z w)
  (hx : ev L x = some (.map (some b))) (hy : ev L y = some vy) (hvy : vy = enc k) (hf : f k = some v) : Yl P N D L (fun w => (mpg enc b f).ok w) ⟨some d,.lookup t x y true,ty,pos,af,none⟩ (.tuple [v,.bool true].toArray) := Yl.lookupG k hm hk hz hx hy hvy (by rw [hf]; rfl)
theorem Yl.lookupMiss {t et : TypeId} {x y : Operand} {b : Nat} {f : κ → Option Value} {z vy : Value} (k : κ) (hm : P.underlying t = some (.map kt et)) (hk : KeyT P kt enc) (hz : ∀ w,(zeroValue et).run P w = .ok z w)
  (hx : ev L x = some (.map (some b))) (hy : ev L y = some vy) (hvy : vy = enc k) (hf : f k = none) : Yl P N D L (fun w => (mpg enc b f).ok w) ⟨some d,.lookup t x y true,ty,pos,af,none⟩ (.tuple [z,.bool false].toArray) := Yl.lookupG k hm hk hz hx hy hvy (by rw [hf]; rfl)
end
section
variable {P : Program} {kt : TypeId}
structure IntF (P : Program) (f : Field) (off : Nat) : Prop where
 name : f.name ≠ "_"
 offset : f.offset = off
 plain : P.plainKey f.type = true
 int : P.underlying f.type = some (.int .i64)
def intFB (P : Program) (f : Field) (off : Nat) : Bool := f.name != "_" && f.offset == off && P.plainKey f.type && (match P.underlying f.type with | some (.int .i64) => true | _ => false)
theorem IntF.of {f : Field} {off : Nat} (h : intFB P f off = true) : IntF P f off := by
 unfold intFB at h
 simp only [Bool.and_eq_true,bne_iff_ne,beq_iff_eq] at h
 refine ⟨h.1.1.1,h.1.1.2,h.1.2,?_⟩
 have h2 := h.2
 split at h2
 ·assumption
 cases h2
theorem run_equal_int {t : TypeId} (hu : P.underlying t = some (.int .i64)) (d : Nat) (a b : Int) (w : World) : (Op.equalIn (d + 1) t (.int .i64 a) (.int .i64 b)).run P w = .ok (a == b) w := by
 simp [Op.equalIn,run_underlying hu]
theorem KeyT.three {f0 f1 f2 : Field} (hu : P.underlying kt = some (.struct #[f0,f1,f2])) (h0 : IntF P f0 0) (h1 : IntF P f1 1) (h2 : IntF P f2 2) (hs : P.stoodInHeld kt = false) : KeyT P kt enc3 where
 check e w k := by
  unfold enc3
  show (Instr.checkKey e (9998 + 1 + 1) kt _).run P w = _
  rw [Instr.checkKey]
  simp only [Sem.run_bind,run_underlying hu,Result.andThen_ok]
  rw [← Array.forIn_toList]
  have p0 := run_part_plain w h0.plain (xs := #[.int .i64 (k.1 : Int),.int .i64 (k.2.1 : Int),.int .i64 (k.2.2 : Int)]) (off := 0) (v := .int .i64 (k.1 : Int)) rfl
  have p1 := run_part_plain w h1.plain (xs := #[.int .i64 (k.1 : Int),.int .i64 (k.2.1 : Int),.int .i64 (k.2.2 : Int)]) (off := 1) (v := .int .i64 (k.2.1 : Int)) rfl
  have p2 := run_part_plain w h2.plain (xs := #[.int .i64 (k.1 : Int),.int .i64 (k.2.1 : Int),.int .i64 (k.2.2 : Int)]) (off := 2) (v := .int .i64 (k.2.2 : Int)) rfl
  have c0 := MapKept.run_checkKey (w := w) h0.int (k := .int .i64 (k.1 : Int)) (by simp [MapKept.IsKey]) e 9998
  have c1 := MapKept.run_checkKey (w := w) h1.int (k := .int .i64 (k.2.1 : Int)) (by simp [MapKept.IsKey]) e 9998
  have c2 := MapKept.run_checkKey (w := w) h2.int (k := .int .i64 (k.2.2 : Int)) (by simp [MapKept.IsKey]) e 9998
  simp only [List.forIn_cons,List.forIn_nil,h0.name,h1.name,h2.name,h0.offset,h1.offset,h2.offset,ne_eq,not_false_eq_true,if_true,Sem.run_bind,Sem.run_pure,p0,p1,p2,c0,c1,c2,Result.andThen_ok]
 find w k es kvs h := by
  rw [run_findKey_eq w (by rw [hu])]
  refine findAsking_kidx (fun a b => ?_) k es kvs 0 h
  obtain ⟨a1,a2,a3⟩ := a
  obtain ⟨b1,b2,b3⟩ := b
  unfold enc3
  simp only
  show (Op.equalIn (9998 + 1 + 1) kt _ _).run P w = _
  rw [Op.equalIn]
  simp only [Sem.run_bind,run_underlying hu,Result.andThen_ok]
  have p0 := run_part_plain w h0.plain (xs := #[.int .i64 (a1 : Int),.int .i64 (a2 : Int),.int .i64 (a3 : Int)]) (off := 0) (v := .int .i64 (a1 : Int)) rfl
  have p1 := run_part_plain w h1.plain (xs := #[.int .i64 (a1 : Int),.int .i64 (a2 : Int),.int .i64 (a3 : Int)]) (off := 1) (v := .int .i64 (a2 : Int)) rfl
  have p2 := run_part_plain w h2.plain (xs := #[.int .i64 (a1 : Int),.int .i64 (a2 : Int),.int .i64 (a3 : Int)]) (off := 2) (v := .int .i64 (a3 : Int)) rfl
  have q0 := run_part_plain w h0.plain (xs := #[.int .i64 (b1 : Int),.int .i64 (b2 : Int),.int .i64 (b3 : Int)]) (off := 0) (v := .int .i64 (b1 : Int)) rfl
  have q1 := run_part_plain w h1.plain (xs := #[.int .i64 (b1 : Int),.int .i64 (b2 : Int),.int .i64 (b3 : Int)]) (off := 1) (v := .int .i64 (b2 : Int)) rfl
  have q2 := run_part_plain w h2.plain (xs := #[.int .i64 (b1 : Int),.int .i64 (b2 : Int),.int .i64 (b3 : Int)]) (off := 2) (v := .int .i64 (b3 : Int)) rfl
  have e0 := run_equal_int h0.int 9998 (a1 : Int) (b1 : Int) w
  have e1 := run_equal_int h1.int 9998 (a2 : Int) (b2 : Int) w
  have e2 := run_equal_int h2.int 9998 (a3 : Int) (b3 : Int) w
  simp only [run_program,Sem.run_bind,Result.andThen_ok,hs,Bool.false_eq_true,if_false]
  rw [← Array.forIn_toList]
  simp only [List.forIn_cons,List.forIn_nil,h0.name,h1.name,h2.name,h0.offset,h1.offset,h2.offset,ne_eq,not_false_eq_true,if_true,Sem.run_bind,p0,q0,e0,Result.andThen_ok]
  cases c0 : ((a1 : Int) == (b1 : Int)) with
  | false =>
   have : ¬ ((b1,b2,b3) = (a1,a2,a3)) := by
    simp only [beq_eq_false_iff_ne,ne_eq] at c0
    simp only [Prod.mk.injEq]; omega
   simp [this]
  | true =>
   simp only [Bool.not_true,Bool.false_eq_true,if_false,Sem.run_bind,Sem.run_pure,Result.andThen_ok,p1,q1,e1]
   cases c1 : ((a2 : Int) == (b2 : Int)) with
   | false =>
    have : ¬ ((b1,b2,b3) = (a1,a2,a3)) := by
     simp only [beq_eq_false_iff_ne,ne_eq] at c1
     simp only [Prod.mk.injEq]; omega
    simp [this]
   | true =>
    simp only [Bool.not_true,Bool.false_eq_true,if_false,Sem.run_bind,Sem.run_pure,Result.andThen_ok,p2,q2,e2]
    cases c2 : ((a3 : Int) == (b3 : Int)) with
    | false =>
     have : ¬ ((b1,b2,b3) = (a1,a2,a3)) := by
      simp only [beq_eq_false_iff_ne,ne_eq] at c2
      simp only [Prod.mk.injEq]; omega
     simp [this]
    | true =>
     have : (b1,b2,b3) = (a1,a2,a3) := by
      simp only [beq_iff_eq] at c0 c1 c2
      simp only [Prod.mk.injEq]; omega
     simp [this]
 stays w k := by
  have : Instr.sameBits 10000 (enc3 k) (enc3 k) = true := by
   unfold enc3
   show Instr.sameBits (9999 + 1) _ _ = true
   simp [Instr.sameBits]
  simp [Instr.keyThatStays,this]
def threeB (P : Program) (kt : TypeId) : Bool := match P.underlying kt with
 | some (.struct fs) => (match fs with
  | ⟨[f0,f1,f2]⟩ => intFB P f0 0 && intFB P f1 1 && intFB P f2 2 && !P.stoodInHeld kt
  | _ => false)
 | _ => false
theorem KeyT.threeOf (h : threeB P kt = true) : KeyT P kt enc3 := by
 unfold threeB at h
 split at h
 ·rename_i fs hu
  split at h
  ·rename_i f0 f1 f2
   simp only [Bool.and_eq_true,Bool.not_eq_true'] at h
   exact KeyT.three hu (IntF.of h.1.1.1) (IntF.of h.1.1.2) (IntF.of h.1.2) h.2
  cases h
 cases h
theorem KeyT.two {e : TypeId} {i : TypeInfo} (hu : P.underlying kt = some (.array 2 e)) (he : P.underlying e = some (.int .i64)) (hp : P.plainKey e = true) (hi : P.info? e = some i) (hc : P.cellsOf e = 1) : KeyT P kt enc2 where
 check em w k := by
  unfold enc2
  show (Instr.checkKey em (9998 + 1 + 1) kt _).run P w = _
  rw [Instr.checkKey]
  have p0 := run_part_plain w hp (xs := #[.int .i64 (k.1 : Int),.int .i64 (k.2 : Int)]) (off := 0) (v := .int .i64 (k.1 : Int)) rfl
  have p1 := run_part_plain w hp (xs := #[.int .i64 (k.1 : Int),.int .i64 (k.2 : Int)]) (off := 1) (v := .int .i64 (k.2 : Int)) rfl
  simp only [Sem.run_bind,run_underlying hu,Result.andThen_ok]
  have hsz := Go.run_sizeOf w hi
  rw [hc] at hsz
  simp only [Std.Legacy.Range.forIn_eq_forIn_range',Std.Legacy.Range.size,Nat.sub_zero,Nat.add_one_sub_one,Nat.div_one]
  rw [show List.range' 0 2 = [0,1] from rfl]
  have c0 := MapKept.run_checkKey (w := w) he (k := .int .i64 (k.1 : Int)) (by simp [MapKept.IsKey]) em 9998
  have c1 := MapKept.run_checkKey (w := w) he (k := .int .i64 (k.2 : Int)) (by simp [MapKept.IsKey]) em 9998
  simp only [List.forIn_cons,List.forIn_nil,Sem.run_bind,hsz,Result.andThen_ok,Nat.zero_mul,Nat.one_mul,p0,p1,c0,c1,Sem.run_pure]
 find w k es kvs h := by
  rw [run_findKey_eq w (by rw [hu])]
  refine findAsking_kidx (fun a b => ?_) k es kvs 0 h
  obtain ⟨a1,a2⟩ := a
  obtain ⟨b1,b2⟩ := b
  unfold enc2
  simp only
  show (Op.equalIn (9998 + 1 + 1) kt _ _).run P w = _
  have p0 := run_part_plain w hp (xs := #[.int .i64 (a1 : Int),.int .i64 (a2 : Int)]) (off := 0) (v := .int .i64 (a1 : Int)) rfl
  have p1 := run_part_plain w hp (xs := #[.int .i64 (a1 : Int),.int .i64 (a2 : Int)]) (off := 1) (v := .int .i64 (a2 : Int)) rfl
  have q0 := run_part_plain w hp (xs := #[.int .i64 (b1 : Int),.int .i64 (b2 : Int)]) (off := 0) (v := .int .i64 (b1 : Int)) rfl
  have q1 := run_part_plain w hp (xs := #[.int .i64 (b1 : Int),.int .i64 (b2 : Int)]) (off := 1) (v := .int .i64 (b2 : Int)) rfl
  have e0 := run_equal_int he 9998 (a1 : Int) (b1 : Int) w
  have e1 := run_equal_int he 9998 (a2 : Int) (b2 : Int) w
  rw [run_equalIn_array w _ _ _ hu hi,hc]
  show (Op.eqItems _ _ _ _ _ [0,1]).run P w = _
  simp only [Op.eqItems,Sem.run_bind,Nat.zero_mul,Nat.one_mul,p0,p1,q0,q1,e0,e1,Result.andThen_ok]
  cases c0 : ((a1 : Int) == (b1 : Int)) with
  | false =>
   have : ¬ ((b1,b2) = (a1,a2)) := by
    simp only [beq_eq_false_iff_ne,ne_eq] at c0
    simp only [Prod.mk.injEq]; omega
   simp [this]
  | true =>
   simp only [Bool.not_true,Bool.false_eq_true,if_false,Sem.run_bind,Sem.run_pure,Result.andThen_ok,p1,q1,e1]
   cases c1 : ((a2 : Int) == (b2 : Int)) with
   | false =>
    have : ¬ ((b1,b2) = (a1,a2)) := by
     simp only [beq_eq_false_iff_ne,ne_eq] at c1
     simp only [Prod.mk.injEq]; omega
    simp [this]
   | true =>
    have : (b1,b2) = (a1,a2) := by
     simp only [beq_iff_eq] at c0 c1
     simp only [Prod.mk.injEq]; omega
    simp [this]
 stays w k := by
  have : Instr.sameBits 10000 (enc2 k) (enc2 k) = true := by
   unfold enc2
   show Instr.sameBits (9999 + 1) _ _ = true
   simp [Instr.sameBits]
  simp [Instr.keyThatStays,this]
def twoB (P : Program) (kt : TypeId) : Bool := match P.underlying kt with
 | some (.array 2 e) => P.plainKey e && P.cellsOf e == 1 && (match P.underlying e with | some (.int .i64) => true | _ => false) && (P.info? e).isSome
 | _ => false
theorem KeyT.twoOf (h : twoB P kt = true) : KeyT P kt enc2 := by
 unfold twoB at h
 split at h
 ·rename_i e hu
  simp only [Bool.and_eq_true,beq_iff_eq] at h
  have h2 := h.1.2
  split at h2
  ·rename_i he
   obtain ⟨i,hi⟩ := Option.isSome_iff_exists.1 h.2
   exact KeyT.two hu he h.1.1.1 hi h.1.1.2
  cases h2
 cases h
end
open Go Go.RowKit
section
variable {P : Program} {w0 : World} {O : List Nat} {ops : Array Oper} {Q : Exit → Act → World → Prop} {N : Nat} {D : List Deferred} {L : FL} {C : List Chunk} {K : Act → World → Prop}
theorem WA.openB {F : List Nat} {α : Type} {Cs : α → List Chunk} {φ : α → Prop} (h : ∀ x,φ x → (∀ c ∈ Cs x,∀ k,c.fp k → k ∈ F) → (∀ k ∈ F,∃ c ∈ Cs x,c.fp k) → WA w0 O K N D L (Cs x ++ C)) : WA w0 O K N D L (bun F Cs φ :: C) := fun a w hF hS => by
 obtain ⟨x,h1,h2,h3,h4⟩ := hS.bunOpen
 exact h x h1 h2 h3 a w hF h4
end
end Go.Eng
namespace Go.Proofs.YtkgllhkhdjodeaaGreat
open Go Go.Eng Go.Proofs Dg
theorem keyDec : KeyT Tryz.prog 104 enc3 := KeyT.threeOf (by kernel_rfl)
theorem keyInt : KeyT Tryz.prog 3 encI := KeyT.nat (by kernel_rfl)
theorem undMD : Tryz.prog.underlying 233 = some (.map 104 3) := by kernel_rfl
theorem undMI : Tryz.prog.underlying 236 = some (.map 3 3) := by kernel_rfl
theorem zeroInt (w : World) : (zeroValue 3).run Tryz.prog w = .ok (.int .i64 0) w := by kernel_rfl
def decs (l : List Dec) : List Value := l.flatMap fun x => [.int .i64 (x.1 : Int),.int .i64 (x.2.1 : Int),.int .i64 (x.2.2 : Int)]
theorem decs_append (l m : List Dec) : decs (l ++ m) = decs l ++ decs m := by simp [decs]
theorem decs_len : ∀ l : List Dec,(decs l).length = l.length * 3
 | [] => rfl
 | x :: l => by
  have := decs_len l
  simp only [decs,List.flatMap_cons,List.length_append,List.length_cons,List.length_nil] at this ⊢
  omega
theorem decs_at : ∀ {l : List Dec} {k : Nat} {x : Dec},l[k]? = some x → ∀ j u,[Value.int .i64 (x.1 : Int),.int .i64 (x.2.1 : Int),.int .i64 (x.2.2 : Int)][j]? = some u → (decs l)[k * 3 + j]? = some u
 | [],k,x,h,_,_,_ => by simp at h
 | y :: l,0,x,h,j,u,hj => by
  simp only [List.getElem?_cons_zero,Option.some.injEq] at h
  subst h
  have hjl := (List.getElem?_eq_some_iff.1 hj).1
  show ([Value.int .i64 (y.1 : Int),.int .i64 (y.2.1 : Int),.int .i64 (y.2.2 : Int)] ++ decs l)[0 * 3 + j]? = _
  rw [Nat.zero_mul,Nat.zero_add,List.getElem?_append_left hjl]
  exact hj
 | y :: l,k + 1,x,h,j,u,hj => by
  simp only [List.getElem?_cons_succ] at h
  have ih := decs_at h j u hj
  show ([Value.int .i64 (y.1 : Int),.int .i64 (y.2.1 : Int),.int .i64 (y.2.2 : Int)] ++ decs l)[(k + 1) * 3 + j]? = _
  rw [List.getElem?_append_right (by simp; omega)]
  simp only [List.length_cons,List.length_nil]
  rw [show (k + 1) * 3 + j - (0 + 1 + 1 + 1) = k * 3 + j by omega]
  exact ih
theorem decs_one (l : List Dec) : ∀ u ∈ decs l,u.oneCell' = true := by
 intro u hu
 simp only [decs,List.mem_flatMap] at hu
 obtain ⟨x,_,hu⟩ := hu
 simp only [List.mem_cons,List.not_mem_nil,or_false] at hu
 rcases hu with rfl | rfl | rfl <;> rfl
def RdDec (w : World) (l : List Dec) (a : Option Addr) : Prop := ∀ j u,(decs l)[j]? = some u → ∃ b off,a = some ⟨b,off,none⟩ ∧ w.cell? ⟨b,off + j,none⟩ = some u
theorem RdDec.next {w0 w : World} {O : List Nat} {C : List Chunk} {l : List Dec} {a : Option Addr} (h : RdDec w0 l a) (hS : St w0 O C w) (hO : ∀ b off,a = some ⟨b,off,none⟩ → b < w0.heap.size → b ∉ O) : RdDec w l a := fun j u hu => by
 obtain ⟨b,off,ha,hc⟩ := h j u hu
 exact ⟨b,off,ha,hS.oldc hc (hO b off ha (World.block_lt_of_cell? w0 _ hc))⟩
theorem RdDec.next0 {w0 w : World} {C : List Chunk} {l : List Dec} {a : Option Addr} (h : RdDec w0 l a) (hS : St w0 [] C w) : RdDec w l a := h.next hS (by simp)
theorem RdDec.ext {wb w : World} {l : List Dec} {a : Option Addr} (h : RdDec wb l a) (hE : Ext wb w) : RdDec w l a := fun j u hu => by
 obtain ⟨b,off,ha,hc⟩ := h j u hu
 exact ⟨b,off,ha,hE.cell hc⟩
theorem RdDec.at {w : World} {l : List Dec} {a : Option Addr} (h : RdDec w l a) {k : Nat} {x : Dec} (hk : l[k]? = some x) : ∃ b off,a = some ⟨b,off,none⟩ ∧ ∀ j u,[Value.int .i64 (x.1 : Int),.int .i64 (x.2.1 : Int),.int .i64 (x.2.2 : Int)][j]? = some u → w.cell? ⟨b,off + k * 3 + j,none⟩ = some u := by
 obtain ⟨b,off,ha,_⟩ := h (k * 3 + 0) _ (decs_at hk 0 _ rfl)
 refine ⟨b,off,ha,fun j u hj => ?_⟩
 obtain ⟨b',off',ha',hc⟩ := h (k * 3 + j) u (decs_at hk j u hj)
 rw [ha] at ha'
 injection ha' with e
 injection e with e1 e2
 subst e1; subst e2
 rw [Nat.add_assoc]; exact hc
theorem RdDec.of_row {w : World} {l : List Dec} {a : Option Addr} {n cap : Nat} {e : TypeId} (hn : n = l.length) (h : (rowc (.slice a n cap) n e 3 (decs l)).ok w) : RdDec w l a := fun j u hu => by
 have hpos : 0 < n := by
  have h1 := (List.getElem?_eq_some_iff.1 hu).1
  rw [decs_len] at h1; omega
 obtain ⟨g,hg,_,_⟩ := rowc_addr h hpos
 subst hg
 exact ⟨g,0,rfl,by rw [Nat.zero_add]; exact rowc_cells h hu⟩
abbrev dC (a : Option Addr) (c : Nat) (t : BT) : Chunk := rowc (.slice a (canon t).1.length c) (canon t).1.length 104 3 (decs (canon t).1)
abbrev dval (t : BT) (a : Option Addr) (c : Nat) : Value := .agg [.slice a (canon t).1.length c,.int .i64 ((canon t).2 : Int)].toArray
def RdD (w : World) (t : BT) (a : Option Addr) : Prop := t.ok 0 ∧ RdDec w (canon t).1 a
theorem RdD.next0 {w0 w : World} {C : List Chunk} {t : BT} {a : Option Addr} (h : RdD w0 t a) (hS : St w0 [] C w) : RdD w t a := ⟨h.1,h.2.next0 hS⟩
theorem RdD.ext {wb w : World} {t : BT} {a : Option Addr} (h : RdD wb t a) (hE : Ext wb w) : RdD w t a := ⟨h.1,h.2.ext hE⟩
theorem RdD.of_row {w : World} {t : BT} {a : Option Addr} {c : Nat} (ht : t.ok 0) (h : (dC a c t).ok w) : RdD w t a := ⟨ht,RdDec.of_row rfl h⟩
abbrev mkCs (bm : Nat) (l : List Dec) (x : Option Addr × Nat × Nat × (Dec → Option Nat)) : List Chunk :=
 [pt bm [.slice x.1 l.length x.2.1,.map (some x.2.2.1)] 235,rowc (.slice x.1 l.length x.2.1) l.length 104 3 (decs l),mpg enc3 x.2.2.1 (fun y => (x.2.2.2 y).map encI)]
def mkr (F : List Nat) (bm : Nat) (l : List Dec) : Chunk := bun F (mkCs bm l) (fun x => KnowsL l x.2.2.2)
theorem mkr_fp {bm : Nat} {l : List Dec} (x : Option Addr × Nat × Nat × (Dec → Option Nat)) : FpL (mkCs bm l x) ([bm] ++ (ob (.slice x.1 l.length x.2.1) ++ ([x.2.2.1] ++ []))) := .cons FpIs.pt (.cons FpIs.rowc (.cons FpIs.mpg .nil))
theorem St.mkrClose {w0 w : World} {O : List Nat} {C : List Chunk} {bm : Nat} {l : List Dec} {a : Option Addr} {c b n : Nat} {f : Dec → Option Nat} {g : Dec → Option Value} (hf : KnowsL l f) (hg : g = fun y => (f y).map encI) (hn : n = l.length) {xs : List Value} (hx : xs = decs l)
  (h : St w0 O (pt bm [.slice a n c,.map (some b)] 235 :: rowc (.slice a n c) n 104 3 xs :: mpg enc3 b g :: C) w) : St w0 O (mkr ([bm] ++ (ob (.slice a l.length c) ++ ([b] ++ []))) bm l :: C) w := by
 subst hg; subst hn; subst hx
 exact St.bunClose' (Cs := mkCs bm l) (a,c,b,f) hf (mkr_fp (a,c,b,f)) h
theorem newMaker_c (w : World) : Calls Tryz.prog 147 [].toArray w fun e w' => ∃ x : List Nat × Nat,e = .returned (pp x.2) ∧ St w [] [mkr x.1 x.2 []] w' := by
 refine enter Tryz.func147 rfl Tryz.ntmps147 rfl (St.init _) ?_
 refine jN 9 ?_
 refine WL.makeMapG enc3 rfl (fun b1 => ?_)
 refine jN 3 ?_
 refine WL.boxN rfl rfl (fun b3 => ?_)
 refine jN 5 ?_
 refine WQ.ret (rs := [.tmp 0]) rfl (.tmp rfl .nil) (fun w hS => ⟨(_,b3),rfl,St.mkrClose (l := []) (a := none) (c := 0) (b := b1) (n := 0) (f := fun _ => none) KnowsL.nil rfl rfl rfl ?_⟩)
 exact St.pick (hS.rowNil 104 3) (c := pt b3 [.slice none 0 0,.map (some b1)] 235) jR
theorem mnode_c (Fp : List Nat) (bm : Nat) (l : List Dec) (i lo hi : Nat) (w : World) (h24 : i < 24) (hm : Mk l) (hlo : lo < l.length + 2) (hhi : hi < l.length + 2) (hlen : l.length ≤ 16777214) (hS0 : St w Fp [mkr Fp bm l] w) :
  Calls Tryz.prog 149 [pp bm,.int .i64 (i : Int),.int .i64 (lo : Int),.int .i64 (hi : Int)].toArray w fun e w' => ∃ x : { x : List Nat × List Dec × Nat // MadeN l x.2.1 x.2.2 (mkN i (trs l lo) (trs l hi)) ∧ x.2.1.length ≤ l.length + 1 },e = .returned (.int .i64 (x.1.2.2 : Int)) ∧ St w Fp [mkr x.1.1 bm x.1.2.1] w' := by
 obtain ⟨⟨a,c,bk,fk⟩,hk,h1,h2,hS0⟩ := hS0.bunOpen
 simp only [List.cons_append,List.nil_append] at hS0
 refine enter Tryz.func149 rfl Tryz.ntmps149 rfl (C := [pt bm [.slice a l.length c,.map (some bk)] 235,rowc (.slice a l.length c) l.length 104 3 (decs l),mpg enc3 bk (fun y => (fk y).map encI)]) hS0 ?_
 refine jN 17 ?_
 refine WC.cond rfl (fun h14 => ?_) (fun h14 => ?_)
 ·have he : lo = hi := by simp at h14; omega
  subst he
  refine jN 10 ?_
  refine WQ.ret (rs := [.tmp 8]) rfl (.tmp rfl .nil) (fun w hS => ⟨⟨(Fp,l,lo),MadeN.same hm hlo,Nat.le_succ _⟩,rfl,?_⟩)
  exact hS.bunClose (Cs := mkCs bm l) (a,c,bk,fk) hk h1 h2
 have hne : lo ≠ hi := by simp at h14; omega
 refine jN 13 ?_
 refine WL.alloc F.zero104 rfl (fun b9 => ?_)
 refine jN 5 ?_
 rcases Option.eq_none_or_eq_some (fk (i,lo,hi)) with hf | ⟨p,hf⟩
 ·refine WC.drawsL (by kernel_rfl) (FactsOk.cons (ds := []) (LoadOk.one (t := 0) (off := 1) rfl jM rfl) (FactsOk.cons (ds := []) (LoadOk.whole (t := 9) rfl jM) (FactsOk.cons (ds := []) (LoadOk.by (Y := fun w => (mpg enc3 bk (fun y => (fk y).map encI)).ok w) (fun w hS => hS.ok _ jM)) (FactsOk.nil)))) ?_
  refine jT 0 rfl (Yl.move rfl) ?_
  refine jT 1 rfl (Yl.nilCheck rfl) ?_
  refine jT 2 rfl (Yl.fieldAddr0 F.fld235_1 rfl) ?_
  refine jF 3 0 rfl rfl (Yl.load1 F.one233 rfl) ?_
  refine jF 4 1 rfl rfl (Yl.loadN F.agg104 rfl rfl) ?_
  refine jF 5 2 rfl rfl (Yl.lookupMiss (f := fun y => (fk y).map encI) (i,lo,hi) undMD keyDec zeroInt rfl rfl rfl (by rw [hf]; rfl)) ?_
  refine jT 6 rfl (Yl.move rfl) ?_
  refine jT 7 rfl (Yl.extract rfl rfl) ?_
  refine jT 8 rfl (Yl.extract rfl rfl) ?_
  refine jT 9 rfl (Yl.assign rfl) ?_
  refine jT 10 rfl (Yl.assign rfl) ?_
  refine jD ?_
  refine jN 12 ?_
  refine WC.drawsL (by kernel_rfl) (FactsOk.cons (ds := [7,10]) (LoadOk.one (t := 0) (off := 0) rfl jM rfl) (FactsOk.cons (ds := [6,7,10]) (LoadOk.whole (t := 9) rfl jM) (FactsOk.nil))) ?_
  refine jT 0 rfl (Yl.move rfl) ?_
  refine jT 1 rfl (Yl.move rfl) ?_
  refine jT 2 rfl (Yl.nilCheck rfl) ?_
  refine jT 3 rfl (Yl.fieldAddr0 F.fld235_0 rfl) ?_
  refine jF 4 0 rfl rfl (Yl.load1 F.one33 rfl) ?_
  refine jF 5 1 rfl rfl (Yl.loadN F.agg104 rfl rfl) ?_
  refine jA 6 rfl ?_
  refine WL.buildSlice F.sl33 F.ez33 rfl rfl rfl rfl jB rfl (fun b37 => ?_)
  refine WD.on (closed_of (by kernel_rfl)) (fun w hS => Sx.keep (hS.cell jM rfl) (Sx.gone rfl (Sx.none))) ?_
  refine jA 7 rfl ?_
  refine WL.appendE (news := decs [(i,lo,hi)]) F.el33 rfl rfl rfl jR (fun w hS jj u hu => by rw [Nat.zero_add]; exact hS.cell (cs := [.int .i64 (i : Int),.int .i64 (lo : Int),.int .i64 (hi : Int)]) jM hu) rfl (decs_one _) (Nat.le_trans (m := 16777216) (by omega) (by decide)) (by omega) (fun a2 c2 => ?_)
  refine jG ?_
  refine jT 8 rfl (Yl.nilCheck rfl) ?_
  refine jT 9 rfl (Yl.fieldAddr0 F.fld235_0 rfl) ?_
  refine jA 10 rfl ?_
  refine WL.store1 F.one33 rfl rfl rfl jU jS ?_
  refine jG ?_
  refine jD ?_
  refine jN 19 ?_
  refine WC.drawsL (by kernel_rfl) (FactsOk.cons (ds := [6]) (LoadOk.one (t := 0) (off := 1) rfl jM rfl) (FactsOk.cons (ds := [6]) (LoadOk.whole (t := 9) rfl jM) (FactsOk.nil))) ?_
  refine jT 0 rfl (Yl.move rfl) ?_
  refine jT 1 rfl (Yl.nilCheck rfl) ?_
  refine jT 2 rfl (Yl.fieldAddr0 F.fld235_1 rfl) ?_
  refine jF 3 0 rfl rfl (Yl.load1 F.one233 rfl) ?_
  refine jF 4 1 rfl rfl (Yl.loadN F.agg104 rfl rfl) ?_
  refine jT 5 rfl (Yl.move rfl) ?_
  refine jA 6 rfl ?_
  refine WL.mapPutG (f := fun y => (fk y).map encI) (i,lo,hi) undMD keyDec rfl rfl rfl rfl jU ?_
  refine jG ?_
  refine jD ?_
  refine jN 10 ?_
  have hlen2 : (l ++ [(i,lo,hi)]).length = l.length + 1 := by simp
  refine WQ.ret (rs := [.tmp 8]) rfl (.tmp rfl .nil) (fun w hS => ⟨⟨([bm] ++ (ob (.slice a2 (l ++ [(i,lo,hi)]).length c2) ++ ([bk] ++ [])),l ++ [(i,lo,hi)],l.length + 2),MadeN.new hm hk h24 hne hlo hhi hf,by simp⟩,rfl,?_⟩)
  refine St.mkrClose (a := a2) (c := c2) (b := bk) (n := l.length + 1) (hk.snoc (i,lo,hi) hf) ?_ hlen2.symm (decs_append _ _).symm (jK hS)
  funext q
  by_cases hq : q = (i,lo,hi)
  ·simp only [if_pos hq,Option.map_some,encI]; rfl
  simp only [if_neg hq]
 refine WC.drawsL (by kernel_rfl) (FactsOk.cons (ds := []) (LoadOk.one (t := 0) (off := 1) rfl jM rfl) (FactsOk.cons (ds := []) (LoadOk.whole (t := 9) rfl jM) (FactsOk.cons (ds := []) (LoadOk.by (Y := fun w => (mpg enc3 bk (fun y => (fk y).map encI)).ok w) (fun w hS => hS.ok _ jM)) (FactsOk.nil)))) ?_
 refine jT 0 rfl (Yl.move rfl) ?_
 refine jT 1 rfl (Yl.nilCheck rfl) ?_
 refine jT 2 rfl (Yl.fieldAddr0 F.fld235_1 rfl) ?_
 refine jF 3 0 rfl rfl (Yl.load1 F.one233 rfl) ?_
 refine jF 4 1 rfl rfl (Yl.loadN F.agg104 rfl rfl) ?_
 refine jF 5 2 rfl rfl (Yl.lookupHit (f := fun y => (fk y).map encI) (v := encI p) (i,lo,hi) undMD keyDec zeroInt rfl rfl rfl (by rw [hf]; rfl)) ?_
 refine jT 6 rfl (Yl.move rfl) ?_
 refine jT 7 rfl (Yl.extract rfl rfl) ?_
 refine jT 8 rfl (Yl.extract rfl rfl) ?_
 refine jT 9 rfl (Yl.assign rfl) ?_
 refine jT 10 rfl (Yl.assign rfl) ?_
 refine jD ?_
 refine jN 22 ?_
 refine WQ.ret (rs := [.tmp 8]) rfl (.tmp rfl .nil) (fun w hS => ⟨⟨(Fp,l,p),MadeN.known hm hk hne hlo hhi hf,Nat.le_succ _⟩,rfl,?_⟩)
 exact St.bunClose (Cs := mkCs bm l) (a,c,bk,fk) hk h1 h2 (jK hS)
theorem place_map {f : Nat → Option Nat} {r n : Nat} {z : Int} (hz : z = (n : Int)) : (fun q : Nat => if q = r then some (Value.int .i64 z) else (f q).map encI) = (fun y => (if y = r then some n else f y).map encI) := by
 funext q
 by_cases h : q = r
 ·rw [if_pos h,if_pos h,hz]; rfl
 rw [if_neg h,if_neg h]
theorem place_map0 : (fun q : Nat => if q = 1 then some (Value.int .i64 1) else if q = 0 then some (Value.int .i64 0) else none) = (fun y => (if y = 1 then some 1 else if y = 0 then some 0 else none : Option Nat).map encI) := by
 funext q
 by_cases h : q = 1
 ·rw [if_pos h,if_pos h]; rfl
 rw [if_neg h,if_neg h]
 by_cases h0 : q = 0
 ·rw [if_pos h0,if_pos h0]; rfl
 rw [if_neg h0,if_neg h0]; rfl
abbrev viCs (bo bk : Nat) (o : List Dec) (x : Option Addr × Nat × (Nat → Option Nat)) : List Chunk :=
 [pt bo [.slice x.1 o.length x.2.1] 33,rowc (.slice x.1 o.length x.2.1) o.length 104 3 (decs o),mpg encI bk (fun r => (x.2.2 r).map encI)]
def vis (F : List Nat) (bo bk : Nat) (l o : List Dec) : Chunk := bun F (viCs bo bk o) (fun x => PlaceOk l o x.2.2)
theorem vis_fp {bo bk : Nat} {o : List Dec} (x : Option Addr × Nat × (Nat → Option Nat)) : FpL (viCs bo bk o x) ([bo] ++ (ob (.slice x.1 o.length x.2.1) ++ ([bk] ++ []))) := .cons FpIs.pt (.cons FpIs.rowc (.cons FpIs.mpg .nil))
theorem St.visClose {w0 w : World} {O : List Nat} {C : List Chunk} {bo bk n c : Nat} {l o : List Dec} {a : Option Addr} {f : Nat → Option Nat} {g : Nat → Option Value} (hf : PlaceOk l o f) (hg : g = fun y => (f y).map encI) (hn : n = o.length) {xs : List Value} (hx : xs = decs o)
  (h : St w0 O (pt bo [.slice a n c] 33 :: rowc (.slice a n c) n 104 3 xs :: mpg encI bk g :: C) w) : ∃ F,St w0 O (vis F bo bk l o :: C) w := by
 subst hg; subst hn; subst hx
 refine ⟨_,St.bunClose' (Cs := viCs bo bk o) (a,c,f) hf (vis_fp (a,c,f)) h⟩
abbrev visF (bp bm bv bo : Nat) : Value := .func (.func 172) [].toArray [pp bp,pp bm,pp bv,pp bo].toArray
def RdDecO (w : World) (l : List Dec) (a : Option Addr) (F : List Nat) : Prop := ∀ j u,(decs l)[j]? = some u → ∃ b off,a = some ⟨b,off,none⟩ ∧ w.cell? ⟨b,off + j,none⟩ = some u ∧ b ∉ F
theorem RdDecO.at {w : World} {l : List Dec} {a : Option Addr} {F : List Nat} (h : RdDecO w l a F) {k : Nat} {x : Dec} (hk : l[k]? = some x) : ∃ b off,a = some ⟨b,off,none⟩ ∧ b ∉ F ∧ ∀ j u,[Value.int .i64 (x.1 : Int),.int .i64 (x.2.1 : Int),.int .i64 (x.2.2 : Int)][j]? = some u → w.cell? ⟨b,off + k * 3 + j,none⟩ = some u := by
 obtain ⟨b,off,ha,_,hb⟩ := h (k * 3 + 0) _ (decs_at hk 0 _ rfl)
 refine ⟨b,off,ha,hb,fun j u hj => ?_⟩
 obtain ⟨b',off',ha',hc,_⟩ := h (k * 3 + j) u (decs_at hk j u hj)
 rw [ha] at ha'
 injection ha' with e
 injection e with e1 e2
 subst e1; subst e2
 rw [Nat.add_assoc]; exact hc
structure VEnv (w : World) (F : List Nat) (bp bmv bv bo bk bm : Nat) (l : List Dec) (a : Option Addr) (c : Nat) : Prop where
 pl : w.cell? ⟨bp,0,none⟩ = some (.map (some bk))
 pl' : bp ∉ F
 mv : w.cell? ⟨bmv,0,none⟩ = some (pp bm)
 mv' : bmv ∉ F
 vi : w.cell? ⟨bv,0,none⟩ = some (visF bp bmv bv bo)
 vi' : bv ∉ F
 li : w.cell? ⟨bm,0,none⟩ = some (.slice a l.length c)
 li' : bm ∉ F
 rd : RdDecO w l a F
theorem VEnv.next {w0 w : World} {F F' : List Nat} {C1 : List Chunk} {bp bmv bv bo bk bm c : Nat} {l o : List Dec} {a : Option Addr} (h : VEnv w0 F bp bmv bv bo bk bm l a c) (hS : St w0 F ([vis F' bo bk l o] ++ C1) w) : VEnv w F' bp bmv bv bo bk bm l a c := by
 have hap := fun {z : Nat} (h1 : z < w0.heap.size) (h2 : z ∉ F) => hS.apart (F := F') bun_O2 h1 h2
 refine ⟨hS.oldc h.pl h.pl',hap (World.block_lt_of_cell? w0 _ h.pl) h.pl',hS.oldc h.mv h.mv',hap (World.block_lt_of_cell? w0 _ h.mv) h.mv',hS.oldc h.vi h.vi',hap (World.block_lt_of_cell? w0 _ h.vi) h.vi',hS.oldc h.li h.li',hap (World.block_lt_of_cell? w0 _ h.li) h.li',fun j u hu => ?_⟩
 obtain ⟨b,off,e1,e2,e3⟩ := h.rd j u hu
 exact ⟨b,off,e1,hS.oldc e2 e3,hap (World.block_lt_of_cell? w0 _ e2) e3⟩
theorem visit_c (bp bmv bv bo bk bm : Nat) (l : List Dec) (a : Option Addr) (c : Nat) (hl : Mk l) (hll : l.length ≤ 16777216) : ∀ (n r : Nat),r < n → ∀ (Fp : List Nat) (o : List Dec) (w : World),r < l.length + 2 → Mk o → (∃ m,(trs l r).ok m) → (visitT (trs l r) o).1.length ≤ 16777216 → VEnv w Fp bp bmv bv bo bk bm l a c → St w Fp [vis Fp bo bk l o] w →
  Calls Tryz.prog 172 [.int .i64 (r : Int),pp bp,pp bmv,pp bv,pp bo].toArray w fun e w' => ∃ x : List Nat,e = .returned (.int .i64 ((visitT (trs l r) o).2 : Int)) ∧ St w Fp [vis x bo bk l (visitT (trs l r) o).1] w' := by
 intro n
 induction n with
 | zero => intro r hr; omega
 | succ n hrec =>
 intro r hrn Fp o w hr ho ⟨mo,hok⟩ hb hE hS0
 obtain ⟨⟨a2,c2,fk⟩,hk,h1,h2,hS0⟩ := hS0.bunOpen
 have hk : PlaceOk l o fk := hk
 simp only [List.cons_append,List.nil_append] at hS0
 refine enter Tryz.func172 rfl Tryz.ntmps172 rfl (C := [pt bo [.slice a2 o.length c2] 33,rowc (.slice a2 o.length c2) o.length 104 3 (decs o),mpg encI bk (fun y => (fk y).map encI)]) hS0 ?_
 refine jN 8 ?_
 rcases Option.eq_none_or_eq_some (fk r) with hf | ⟨p,hf⟩
 ·obtain ⟨x,hr2,hx,hlo,hhi,hx24,htr,hlk⟩ := hk.miss hl hr hf
  rw [htr] at hlk hok hb
  have hvt : visitT (trs l r) o = ((visitT (trs l x.2.2) (visitT (trs l x.2.1) o).1).1 ++ [(x.1,(visitT (trs l x.2.1) o).2,(visitT (trs l x.2.2) (visitT (trs l x.2.1) o).1).2)],(visitT (trs l x.2.2) (visitT (trs l x.2.1) o).1).1.length + 2) := by rw [htr]; show visitT (.nd x.1 (trs l x.2.1) (trs l x.2.2)) o = _; conv => lhs; unfold visitT; rw [hlk]
  have hb0 : (visitT (.nd x.1 (trs l x.2.1) (trs l x.2.2)) o).1.length = (visitT (trs l x.2.2) (visitT (trs l x.2.1) o).1).1.length + 1 := by rw [← htr,hvt]; simp
  have hb2 := visitT_len (trs l x.2.2) (visitT (trs l x.2.1) o).1
  have hb1 := visitT_len (trs l x.2.1) o
  have hm1 := visitT_mk hok.2.2.2.1 ho
  have hm2 := visitT_mk hok.2.2.2.2 hm1
  obtain ⟨bl,off,rfl,hbl,hcx⟩ := hE.rd.at hx
  have hri : ((r - 2 : Nat) : Int) = (r : Int) - 2 := by omega
  refine jN 2 ?_
  refine WL.load1 F.one236 rfl rfl (v := .map (some bk)) (fun w hS => hS.oldc hE.pl hE.pl') ?_
  refine jN 3 ?_
  refine WL.lookupMiss (f := fun y => (fk y).map encI) r undMI keyInt zeroInt rfl rfl rfl rfl jM (by rw [hf]; rfl) ?_
  refine jN 24 ?_
  refine WL.load1 F.one200 rfl rfl (v := pp bm) (fun w hS => hS.oldc hE.mv hE.mv') ?_
  refine jN 5 ?_
  refine WL.load1 F.one33 rfl rfl (v := .slice (some ⟨bl,off,none⟩) l.length c) (fun w hS => hS.oldc hE.li hE.li') ?_
  refine jN 4 ?_
  refine WA.say 25 (.int .i64 ((r - 2 : Nat) : Int)) (by rw [hri]; rfl) ?_
  refine jN 1 ?_
  refine WL.indexAddr F.sl33 rfl rfl rfl (List.getElem?_eq_some_iff.1 hx).1 ?_
  refine jN 1 ?_
  refine WL.loadN F.agg104 rfl rfl (vs := [Value.int .i64 (x.1 : Int),.int .i64 (x.2.1 : Int),.int .i64 (x.2.2 : Int)]) rfl (fun w hS j v hv => hS.oldc (hcx j v hv) hbl) ?_
  refine jN 1 ?_
  refine WL.alloc F.zero104 rfl (fun b9 => ?_)
  refine jN 7 ?_
  refine WL.load1 F.one237 rfl rfl (v := visF bp bmv bv bo) (fun w hS => hS.oldc hE.vi hE.vi') ?_
  refine jN 4 ?_
  refine WA.chunks (C' := [vis Fp bo bk l o,pt b9 [Value.int .i64 (x.1 : Int),.int .i64 (x.2.1 : Int),.int .i64 (x.2.2 : Int)] 104]) (fun w hS => St.bunClose (Cs := viCs bo bk o) (a2,c2,fk) hk h1 h2 (jK hS)) ?_
  refine jN 1 ?_
  refine WL.callFC (β := List Nat) (us := []) (cap := [pp bp,pp bmv,pp bv,pp bo]) (res := fun y => .int .i64 ((visitT (trs l x.2.1) o).2 : Int)) (cs := fun y => [vis y bo bk l (visitT (trs l x.2.1) o).1]) (Cs := [vis Fp bo bk l o]) (C1 := [pt b9 [Value.int .i64 (x.1 : Int),.int .i64 (x.2.1 : Int),.int .i64 (x.2.2 : Int)] 104]) (O' := Fp) F.fun172 (fun d h => by cases h; rfl) rfl rfl (List.Perm.refl _) bun_O1 bun_O2 (fun w hS hS2 => hrec x.2.1 (by omega) Fp o w (by omega) ho ⟨_,hok.2.2.2.1⟩ (by omega) (hE.next hS) hS2) (fun Fp1 => ?_)
  refine jN 7 ?_
  refine WL.load1 F.one237 rfl rfl (v := visF bp bmv bv bo) (fun w hS => hS.oldc hE.vi hE.vi') ?_
  refine jN 5 ?_
  refine WL.callFC (β := List Nat) (us := []) (cap := [pp bp,pp bmv,pp bv,pp bo]) (res := fun y => .int .i64 ((visitT (trs l x.2.2) (visitT (trs l x.2.1) o).1).2 : Int)) (cs := fun y => [vis y bo bk l (visitT (trs l x.2.2) (visitT (trs l x.2.1) o).1).1]) (Cs := [vis Fp1 bo bk l (visitT (trs l x.2.1) o).1]) (C1 := [pt b9 [Value.int .i64 (x.1 : Int),.int .i64 (x.2.1 : Int),.int .i64 (x.2.2 : Int)] 104]) (O' := Fp1) F.fun172 (fun d h => by cases h; rfl) rfl rfl (List.Perm.refl _) bun_O1 bun_O2 (fun w hS hS2 => hrec x.2.2 (by omega) Fp1 (visitT (trs l x.2.1) o).1 w (by omega) hm1 ⟨_,hok.2.2.2.2⟩ (by omega) (hE.next hS) hS2) (fun Fp2 => ?_)
  refine jN 6 ?_
  refine WA.openB (fun x3 hk3 h13 h23 => ?_)
  obtain ⟨a3,c3,f3⟩ := x3
  have hk3 : PlaceOk l (visitT (trs l x.2.2) (visitT (trs l x.2.1) o).1).1 f3 := hk3
  simp only [viCs,List.cons_append,List.nil_append]
  refine jN 13 ?_
  refine WL.buildSlice F.sl33 F.ez33 rfl rfl rfl rfl jB rfl (fun b42 => ?_)
  refine jN 1 ?_
  refine WL.appendE (news := decs [(x.1,(visitT (trs l x.2.1) o).2,(visitT (trs l x.2.2) (visitT (trs l x.2.1) o).1).2)]) F.el33 rfl rfl rfl jR (fun w hS jj u hu => by rw [Nat.zero_add]; exact hS.cell (cs := [.int .i64 (x.1 : Int),.int .i64 ((visitT (trs l x.2.1) o).2 : Int),.int .i64 ((visitT (trs l x.2.2) (visitT (trs l x.2.1) o).1).2 : Int)]) jM hu) rfl (decs_one _) (Nat.le_trans (m := 16777217) (by omega) (by decide)) (by omega) (fun a4 c4 => ?_)
  refine jN 7 ?_
  refine WL.load1 F.one236 rfl rfl (v := .map (some bk)) (fun w hS => hS.oldc hE.pl hE.pl') ?_
  refine jN 9 ?_
  refine WL.mapPutG (f := fun y => (f3 y).map encI) r undMI keyInt rfl rfl rfl rfl jU ?_
  refine jN 15 ?_
  have htn := visitT_at (trs l r) o
  rw [hvt,htr] at htn
  have hst := hk3.step hl hr htr hlk rfl (v := x.1) (p1 := (visitT (trs l x.2.1) o).2) (p2 := (visitT (trs l x.2.2) (visitT (trs l x.2.1) o).1).2) htn.2
  refine WQ.ret (rs := [.tmp 6]) rfl (.tmp rfl .nil) (fun w hS => ?_)
  obtain ⟨F9,hF9⟩ := St.visClose (a := a4) (c := c4) (bk := bk) (bo := bo) (n := (visitT (trs l x.2.2) (visitT (trs l x.2.1) o).1).1.length + 1) hst (place_map (z := ((((visitT (trs l x.2.2) (visitT (trs l x.2.1) o).1).1.length + 1 : Nat) : Int) + 1)) (by omega)) (by simp) (decs_append _ _).symm (((St.pick (St.pick (St.pick hS (c := mpg encI bk (fun q => if q = r then some (.int .i64 ((((visitT (trs l x.2.2) (visitT (trs l x.2.1) o).1).1.length + 1 : Nat) : Int) + 1)) else (f3 q).map encI)) (by repeat (first | exact Rem.here | apply Rem.there))) (c := rowc (.slice a4 ((visitT (trs l x.2.2) (visitT (trs l x.2.1) o).1).1.length + 1) c4) ((visitT (trs l x.2.2) (visitT (trs l x.2.1) o).1).1.length + 1) 104 3 (decs (visitT (trs l x.2.2) (visitT (trs l x.2.1) o).1).1 ++ decs [(x.1,(visitT (trs l x.2.1) o).2,(visitT (trs l x.2.2) (visitT (trs l x.2.1) o).1).2)])) (by repeat (first | exact Rem.here | apply Rem.there))) (c := pt bo [.slice a4 ((visitT (trs l x.2.2) (visitT (trs l x.2.1) o).1).1.length + 1) c4] 33) (by repeat (first | exact Rem.here | apply Rem.there)))).sublist (List.Sublist.cons_cons _ (List.Sublist.cons_cons _ (List.Sublist.cons_cons _ (List.nil_sublist _)))))
  exact ⟨F9,by rw [hvt]; rfl,by rw [hvt]; exact hF9⟩
 refine jN 2 ?_
 refine WL.load1 F.one236 rfl rfl (v := .map (some bk)) (fun w hS => hS.oldc hE.pl hE.pl') ?_
 refine jN 3 ?_
 refine WL.lookupHit (f := fun y => (fk y).map encI) (v := encI p) r undMI keyInt zeroInt rfl rfl rfl rfl jM (by rw [hf]; rfl) ?_
 refine jN 29 ?_
 have hh := hk.hit ho hr hf
 refine WQ.ret (rs := [.tmp 6]) rfl (.tmp rfl .nil) (fun w hS => ⟨Fp,by rw [hh]; rfl,?_⟩)
 rw [hh]
 exact hS.bunClose (Cs := viCs bo bk o) (a2,c2,fk) hk h1 h2
end Go.Proofs.YtkgllhkhdjodeaaGreat
