import Derived.Test.YtkgllhkhdjodeaaGreatPaEvals3
import Derived.Test.YtkgllhkhdjodeaaGreatSpec
import Derived.Test.YtkgllhkhdjodeaaGreatSpecD8
import Derived.Test.YtkgllhkhdjodeaaGreatSpecDD
set_option linter.unusedSimpArgs false
set_option linter.unusedVariables false
namespace Go.Proofs.YtkgllhkhdjodeaaGreat
open Go Go.Eng Go.Proofs Dg
structure SetG where
  i : Nat
  out : List DV
  sa : Option Addr
  sc : Nat
  Fb : List Nat
def SetC (names : List (List UInt8)) (na : Option Addr) (nc : Nat) (n : Nat) : Prop := ∀ (t : Tree) (wb : World) (G : List Nat) (a : Option Addr) (c : Nat) (w : World), (Fm.rowT t).length ≤ n → okT names t → rdT wb t G (tv t a c) → Ext wb w → RdS w names na →
  Calls Tryz.prog 46 [tv t a c, .slice na names.length nc].toArray w (DPost (evT names t) w)
set_option maxRecDepth 100000 in
theorem Set_step (names : List (List UInt8)) (na : Option Addr) (nc : Nat) (hnl24 : names.length ≤ 24) (n : Nat) (hn : n ≤ 1099511627776) (hrec : SetC names na nc n) : SetC names na nc (n + 1) := by
  intro t wb G a c w hsz hok hr hE hnr
  refine enter Tryz.func46 rfl Tryz.ntmps46 rfl (St.init _) ?_
  refine WC.seq ?_
  refine WC.region ?_
  refine WL.step ?_
  refine WL.boxN rfl rfl (fun b2 => ?_)
  refine WL.step ?_
  refine WL.alloc F.zero35 rfl (fun b4 => ?_)
  refine WL.nil ?_
  refine WQ.then_normal ?_
  refine WC.seq ?_
  refine WC.region ?_
  refine WL.step ?_
  refine WL.assign rfl rfl ?_
  refine WL.nil ?_
  refine WQ.then_normal ?_
  refine WC.seq ?_
  refine WC.seq ?_
  refine WC.region ?_
  refine WL.step ?_
  refine WL.fieldAddr0 F.fld24_2 rfl rfl ?_
  refine WL.step ?_
  refine WL.loadP F.one22 rfl rfl (by repeat (first | exact List.Mem.head _ | apply List.Mem.tail)) rfl ?_
  refine WL.step ?_
  refine WL.lenSl F.und22 rfl rfl ?_
  refine WL.step ?_
  refine WL.move rfl rfl ?_
  refine WL.nil ?_
  refine WQ.then_normal ?_
  refine WC.block ?_
  refine WC.chunks (C' := [pt b2 [Value.int .u8 t.op, .string (str t.name), .slice a t.kids.length c] 24, pt b4 [.slice none 0 0, .int .i64 0] 35, rowc (.slice none 0 0) 0 35 2 (dcs []), dsC [] []]) (fun w hS => ((St.pick (St.pick (St.pick (St.pick (St.dsNil (hS.rowNil 35 2)) (c := dsC [] []) (by repeat (first | exact Rem.here | apply Rem.there))) (c := rowc (.slice none 0 0) 0 35 2 []) (by repeat (first | exact Rem.here | apply Rem.there))) (c := pt b4 [.slice none 0 0, .int .i64 0] 35) (by repeat (first | exact Rem.here | apply Rem.there))) (c := pt b2 [Value.int .u8 t.op, .string (str t.name), .slice a t.kids.length c] 24) (by repeat (first | exact Rem.here | apply Rem.there)))).sublist (List.Sublist.cons_cons _ (List.Sublist.cons_cons _ (List.Sublist.cons_cons _ (List.Sublist.cons_cons _ (List.nil_sublist _)))))) ?_
  refine WC.loop (α := SetG) (fun g => g.i ≤ t.kids.length ∧ ∀ cf, g.out.map (fun x => x.1.ev cf) = evL names (t.kids.take g.i) cf) (fun g => [(1, .slice na names.length nc), (2, pp b2), (4, pp b4), (5, .slice g.sa g.out.length g.sc), (14, .slice a t.kids.length c), (15, .int .i64 (t.kids.length : Int)), (16, .int .i64 (g.i : Int))]) (fun g => [pt b2 [Value.int .u8 t.op, .string (str t.name), .slice a t.kids.length c] 24, pt b4 [.slice none 0 0, .int .i64 0] 35, rowc (.slice g.sa g.out.length g.sc) g.out.length 35 2 (dcs g.out), dsC g.Fb g.out]) (fun g => t.kids.length - g.i) (⟨0, [], none, 0, []⟩) ?_ ?_ ?_ ?_
  · exact ⟨Nat.zero_le _, fun cf => by simp [evL]⟩
  · exact ⟨rfl, rfl, rfl, rfl, rfl, rfl, rfl, trivial⟩
  · rfl
  rintro ⟨i, out, sa, sc, Fb⟩ ⟨hi, hbs⟩
  dsimp only at hi hbs
  show WC _ _ _ _ _ _ _ [(1, .slice na names.length nc), (2, pp b2), (4, pp b4), (5, .slice sa out.length sc), (14, .slice a t.kids.length c), (15, .int .i64 (t.kids.length : Int)), (16, .int .i64 (i : Int))] [pt b2 [Value.int .u8 t.op, .string (str t.name), .slice a t.kids.length c] 24, pt b4 [.slice none 0 0, .int .i64 0] 35, rowc (.slice sa out.length sc) out.length 35 2 (dcs out), dsC Fb out]
  have hol : out.length = i := by (have := congrArg List.length (hbs (fun _ => false)); rw [evL_eq] at this; simp at this; omega)
  refine WC.seq ?_
  refine WC.region ?_
  refine WL.step ?_
  refine WL.ltI rfl rfl rfl ?_
  refine WL.nil ?_
  refine WQ.then_normal ?_
  refine WC.seq ?_
  refine WC.cond rfl (fun h17 => ?_) (fun h17 => ?_)
  · skip
    have hlt : i < t.kids.length := by simpa using h17
    obtain ⟨k, hk⟩ : ∃ k, t.kids[i]? = some k := ⟨_, List.getElem?_eq_getElem hlt⟩
    obtain ⟨b, off, F1, a1, c1, rfl, hb, hF1, hrk, hck⟩ := rdT_at hr hk
    have hks := Fm.rowT_kid hk
    have hkl := Fm.kids_le t
    refine WC.skip ?_
    refine WQ.then_normal ?_
    refine WC.seq ?_
    refine WC.block ?_
    refine WC.seq ?_
    refine WC.region ?_
    refine WL.step ?_
    refine WL.indexAddr F.sl22 rfl rfl rfl hlt ?_
    refine WL.step ?_
    refine WL.loadN F.agg24 rfl rfl (vs := [Value.int .u8 k.op, .string (str k.name), .slice a1 k.kids.length c1]) rfl (fun w hS j v hv => (hE.st hS).cell (hck j v hv)) ?_
    refine WL.step ?_
    refine WL.alloc F.zero24 rfl (fun b7 => ?_)
    refine WL.step ?_
    refine WL.storeN F.agg24 rfl rfl rfl (by simp [Value.oneCell']) (by repeat (first | exact Upd.here | apply Upd.there)) (by repeat constructor) ?_
    refine WL.nil ?_
    refine WQ.then_normal ?_
    refine WC.region ?_
    refine WL.step ?_
    refine WL.move rfl rfl ?_
    refine WL.step ?_
    refine WL.loadW F.agg24 rfl rfl (by repeat (first | exact List.Mem.head _ | apply List.Mem.tail)) rfl ?_
    refine WL.step ?_
    refine WL.move rfl rfl ?_
    refine WL.step ?_
    refine WL.call0 (β := DRes (evT names k)) (res := fun z => .returned z.v) (cs := fun z => [z.ch]) (ψ := fun _ => True) F.fun46 (fun d h => by cases h; rfl) rfl (fun w hS => (hrec k wb F1 a1 c1 w (by omega) (okT_kid hok hk) hrk (hE.st hS) (hnr.next hS)).mono (fun e w2 ⟨x, h1, h2⟩ => ⟨x, trivial, h1, h2⟩)) (fun z23 _ => ?_)
    refine WL.step ?_
    refine WL.buildSlice F.sl48 F.ez48 rfl rfl rfl rfl (by repeat (first | exact Built.nil | apply Built.one rfl rfl (by repeat constructor) | apply Built.agg rfl rfl (by repeat constructor))) rfl (fun b24 => ?_)
    refine WL.step ?_
    refine WL.appendE (news := dvl (z23.1.1, z23.1.2.1, z23.1.2.2)) F.el48 rfl rfl rfl (by repeat (first | exact Rem.here | apply Rem.there)) (fun w hS jj u hu => by rw [Nat.zero_add]; exact hS.cell (cs := dvl (z23.1.1, z23.1.2.1, z23.1.2.2)) (by repeat (first | exact List.Mem.head _ | apply List.Mem.tail)) hu) rfl (by simp [Value.oneCell']) (Nat.le_trans (m := 1099511627777) (by omega) (by decide)) (by omega) (fun a2 c2 => ?_)
    refine WL.step ?_
    refine WL.assign rfl rfl ?_
    refine WL.nil ?_
    refine WQ.block_normal ?_
    refine WQ.then_normal ?_
    refine WC.region ?_
    refine WL.step ?_
    refine WL.add rfl rfl rfl ⟨by omega, by omega⟩ ?_
    refine WL.step ?_
    refine WL.move rfl rfl ?_
    refine WL.nil ?_
    refine WQ.chunksE (C' := fun F9 => [pt b2 [Value.int .u8 t.op, .string (str t.name), .slice (some ⟨b, off, none⟩) t.kids.length c] 24, pt b4 [.slice none 0 0, .int .i64 0] 35, rowc (.slice a2 (out.length + 1) c2) (out.length + 1) 35 2 (dcs out ++ dvl (z23.1.1, z23.1.2.1, z23.1.2.2)), dsC F9 (out ++ [(z23.1.1, z23.1.2.1, z23.1.2.2)])]) (fun w hS => ?_) (fun F9 => ?_)
    · obtain ⟨F9, hF9⟩ := St.dsSnoc z23.2.1 ((St.pick (St.pick hS (c := z23.ch) (by repeat (first | exact Rem.here | apply Rem.there))) (c := dsC Fb out) (by repeat (first | exact Rem.here | apply Rem.there))))
      exact ⟨F9, ((St.pick (St.pick (St.pick (St.pick hF9 (c := dsC F9 (out ++ [(z23.1.1, z23.1.2.1, z23.1.2.2)])) (by repeat (first | exact Rem.here | apply Rem.there))) (c := rowc (.slice a2 (out.length + 1) c2) (out.length + 1) 35 2 (dcs out ++ dvl (z23.1.1, z23.1.2.1, z23.1.2.2))) (by repeat (first | exact Rem.here | apply Rem.there))) (c := pt b4 [.slice none 0 0, .int .i64 0] 35) (by repeat (first | exact Rem.here | apply Rem.there))) (c := pt b2 [Value.int .u8 t.op, .string (str t.name), .slice (some ⟨b, off, none⟩) t.kids.length c] 24) (by repeat (first | exact Rem.here | apply Rem.there)))).sublist (List.Sublist.cons_cons _ (List.Sublist.cons_cons _ (List.Sublist.cons_cons _ (List.Sublist.cons_cons _ (List.nil_sublist _)))))⟩
    refine WQ.back ⟨i + 1, out ++ [(z23.1.1, z23.1.2.1, z23.1.2.2)], a2, c2, F9⟩ ⟨by show i + 1 ≤ t.kids.length; omega, fun cf => ?_⟩ (by show t.kids.length - (i + 1) < t.kids.length - i; omega) ?_ ?_
    · show (out ++ [(z23.1.1, z23.1.2.1, z23.1.2.2)]).map (fun x => x.1.ev cf) = evL names (t.kids.take (i + 1)) cf
      rw [List.map_append, hbs, List.take_add_one, hk, evL_eq, evL_eq, List.map_append]
      simp [z23.2.2]
    · have e : (out ++ [(z23.1.1, z23.1.2.1, z23.1.2.2)]).length = out.length + 1 := by simp
      simp only [e]
      exact ⟨rfl, rfl, rfl, rfl, rfl, rfl, rfl, trivial⟩
    · have e : (out ++ [(z23.1.1, z23.1.2.1, z23.1.2.2)]).length = out.length + 1 := by simp
      simp only [e, dcs_append]
      rfl
  · skip
    have hie : i = t.kids.length := by simp at h17; omega
    subst hie
    rw [List.take_length] at hbs
    have hrt := (okT_self hok).1
    obtain ⟨hk4, hk89, hk10, hk567, hop1⟩ := right_kids hrt
    have hkl := Fm.kids_le t
    refine WC.exit ?_
    refine WQ.then_exit ?_
    refine WQ.then_exit ?_
    refine WQ.block_exit ?_
    refine WQ.then_normal ?_
    refine WC.seq ?_
    refine WC.seq ?_
    refine WC.region ?_
    refine WL.step ?_
    refine WL.fieldAddr0 F.fld24_0 rfl rfl ?_
    refine WL.step ?_
    refine WL.loadP F.one5 rfl rfl (by repeat (first | exact List.Mem.head _ | apply List.Mem.tail)) rfl ?_
    refine WL.nil ?_
    refine WQ.then_normal ?_
    refine WC.block ?_
    refine WC.seq ?_
    refine WC.region ?_
    refine WL.step ?_
    refine WL.eqI rfl rfl rfl ?_
    refine WL.step ?_
    refine WL.assign rfl rfl ?_
    refine WL.nil ?_
    refine WQ.then_normal ?_
    refine WC.cond rfl (fun h29 => ?_) (fun h29 => ?_)
    · skip
      have hop : t.op = 2 := by simpa using h29
      refine WC.seq ?_
      refine WC.region ?_
      refine WL.step ?_
      refine WL.call0 (β := DRes (fun _ => true)) (res := fun z => .returned z.v) (cs := fun z => [z.ch]) (ψ := fun _ => True) F.fun74 (fun d h => by cases h; rfl) rfl (fun w hS => (True_c w).mono (fun e w2 ⟨x, h1, h2⟩ => ⟨x, trivial, h1, h2⟩)) (fun z31 _ => ?_)
      refine WL.step ?_
      refine WL.storeN F.agg35 rfl rfl rfl (by simp [Value.oneCell']) (by repeat (first | exact Upd.here | apply Upd.there)) (by repeat constructor) ?_
      refine WL.nil ?_
      refine WQ.then_normal ?_
      refine WC.ret ?_
      refine WQ.block_ret ?_
      refine WQ.then_ret ?_
      exact WQ.ret (rs := [.cell 4 35]) rfl (.cellN F.agg35 rfl (by repeat (first | exact List.Mem.head _ | apply List.Mem.tail)) rfl .nil) (fun w hS => ⟨⟨z31.1, z31.2.1, fun cf => by rw [z31.2.2, evT_eq, ← hbs]; unfold opV; simp [hop]⟩, rfl, ((St.pick hS (c := z31.ch) (by repeat (first | exact Rem.here | apply Rem.there)))).sublist (List.Sublist.cons_cons _ (List.nil_sublist _))⟩)
    · skip
      have hn2 : ¬ t.op = 2 := by simpa using h29
      refine WC.seq ?_
      refine WC.region ?_
      refine WL.step ?_
      refine WL.eqI rfl rfl rfl ?_
      refine WL.step ?_
      refine WL.assign rfl rfl ?_
      refine WL.nil ?_
      refine WQ.then_normal ?_
      refine WC.cond rfl (fun h32 => ?_) (fun h32 => ?_)
      · skip
        have hop : t.op = 3 := by simpa using h32
        obtain ⟨m, hm, hml, _⟩ := idxS_lt ((okT_self hok).2 hop)
        refine WC.seq ?_
        refine WC.region ?_
        refine WL.step ?_
        refine WL.move rfl rfl ?_
        refine WL.step ?_
        refine WL.fieldAddr0 F.fld24_1 rfl rfl ?_
        refine WL.step ?_
        refine WL.loadP F.one9 rfl rfl (by repeat (first | exact List.Mem.head _ | apply List.Mem.tail)) rfl ?_
        refine WL.step ?_
        refine WL.callV F.fun98 rfl rfl (fun w hS => sidx_c names t.name na nc (by omega) w (hnr.next hS)) ?_
        rw [hm]
        refine WL.step ?_
        refine WL.call0 (β := DRes (fun c => c m)) (res := fun z => .returned (.tuple #[z.v, .int .i64 0])) (cs := fun z => [z.ch]) (ψ := fun _ => True) F.fun99 (fun d h => by cases h; rfl) rfl (fun w hS => (Var_in m (by omega) w).mono (fun e w2 ⟨x, h1, h2⟩ => ⟨x, trivial, h1, h2⟩)) (fun z39 _ => ?_)
        refine WL.step ?_
        refine WL.move rfl rfl ?_
        refine WL.step ?_
        refine WL.extract rfl rfl rfl ?_
        refine WL.step ?_
        refine WL.extract rfl rfl rfl ?_
        refine WL.step ?_
        refine WL.alloc F.zero35 rfl (fun b8 => ?_)
        refine WL.step ?_
        refine WL.storeN F.agg35 rfl rfl rfl (by simp [Value.oneCell']) (by repeat (first | exact Upd.here | apply Upd.there)) (by repeat constructor) ?_
        refine WL.step ?_
        refine WL.assign rfl rfl ?_
        refine WL.nil ?_
        refine WQ.then_normal ?_
        refine WC.seq ?_
        refine WC.region ?_
        refine WL.step ?_
        refine WL.loadW F.agg35 rfl rfl (by repeat (first | exact List.Mem.head _ | apply List.Mem.tail)) rfl ?_
        refine WL.step ?_
        refine WL.storeN F.agg35 rfl rfl rfl (by simp [Value.oneCell']) (by repeat (first | exact Upd.here | apply Upd.there)) (by repeat constructor) ?_
        refine WL.nil ?_
        refine WQ.then_normal ?_
        refine WC.ret ?_
        refine WQ.block_ret ?_
        refine WQ.then_ret ?_
        exact WQ.ret (rs := [.cell 4 35]) rfl (.cellN F.agg35 rfl (by repeat (first | exact List.Mem.head _ | apply List.Mem.tail)) rfl .nil) (fun w hS => ⟨⟨z39.1, z39.2.1, fun cf => by rw [z39.2.2, evT_eq]; unfold opV; rw [if_neg (by omega), if_pos hop, hm]; rfl⟩, rfl, ((St.pick hS (c := z39.ch) (by repeat (first | exact Rem.here | apply Rem.there)))).sublist (List.Sublist.cons_cons _ (List.nil_sublist _))⟩)
      · skip
        have hn3 : ¬ t.op = 3 := by simpa using h32
        refine WC.seq ?_
        refine WC.region ?_
        refine WL.step ?_
        refine WL.eqI rfl rfl rfl ?_
        refine WL.step ?_
        refine WL.assign rfl rfl ?_
        refine WL.nil ?_
        refine WQ.then_normal ?_
        refine WC.cond rfl (fun h43 => ?_) (fun h43 => ?_)
        · skip
          have hop : t.op = 4 := by simpa using h43
          have := hk4 hop
          have hol0 : 0 < out.length := by omega
          obtain ⟨x0, hx0⟩ : ∃ x, out[0]? = some x := ⟨_, List.getElem?_eq_getElem hol0⟩
          have hxm0 : x0 ∈ out := List.mem_of_getElem? hx0
          refine WC.know (φ := ∃ g, sa = some ⟨g, 0, none⟩ ∧ out.length = out.length ∧ out.length ≤ sc) (fun w hS => rowc_addr (hS.ok (rowc (.slice sa out.length sc) out.length 35 2 (dcs out)) (by repeat (first | exact List.Mem.head _ | apply List.Mem.tail))) (by omega)) (fun ⟨g8, hg8, _, _⟩ => ?_)
          subst hg8
          refine WC.seq ?_
          refine WC.region ?_
          refine WL.step ?_
          refine WL.move rfl rfl ?_
          refine WL.step ?_
          refine WL.indexAddr (i := 0) F.sl48 rfl rfl rfl hol0 ?_
          refine WL.step ?_
          refine WL.loadN F.agg35 rfl rfl (vs := dvl x0) rfl (fun w hS j v hv => by (have h9 := rowc_cells (hS.ok (rowc (.slice (some ⟨g8, 0, none⟩) out.length sc) out.length 35 2 (dcs out)) (by repeat (first | exact List.Mem.head _ | apply List.Mem.tail))) (dcs_at hx0 j v hv)); simpa using h9) ?_
          refine WL.step ?_
          refine WL.call0 (β := DRes (fun cf => !x0.1.ev cf)) (res := fun z => .returned z.v) (cs := fun z => [z.ch]) (ψ := fun _ => True) F.fun100 (fun d h => by cases h; rfl) rfl (fun w hS => (Not_c x0.1 x0.2.1 x0.2.2 w (dsC_rd (hS.ok (dsC Fb out) (by repeat (first | exact List.Mem.head _ | apply List.Mem.tail))) hxm0)).mono (fun e w2 ⟨x, h1, h2⟩ => ⟨x, trivial, h1, h2⟩)) (fun z47 _ => ?_)
          refine WL.step ?_
          refine WL.storeN F.agg35 rfl rfl rfl (by simp [Value.oneCell']) (by repeat (first | exact Upd.here | apply Upd.there)) (by repeat constructor) ?_
          refine WL.nil ?_
          refine WQ.then_normal ?_
          refine WC.ret ?_
          refine WQ.block_ret ?_
          refine WQ.then_ret ?_
          exact WQ.ret (rs := [.cell 4 35]) rfl (.cellN F.agg35 rfl (by repeat (first | exact List.Mem.head _ | apply List.Mem.tail)) rfl .nil) (fun w hS => ⟨⟨z47.1, z47.2.1, fun cf => by rw [z47.2.2, evT_eq, ← hbs]; unfold opV; simp [hop, hx0]⟩, rfl, ((St.pick hS (c := z47.ch) (by repeat (first | exact Rem.here | apply Rem.there)))).sublist (List.Sublist.cons_cons _ (List.nil_sublist _))⟩)
        · skip
          have hn4 : ¬ t.op = 4 := by simpa using h43
          refine WC.seq ?_
          refine WC.region ?_
          refine WL.step ?_
          refine WL.eqI rfl rfl rfl ?_
          refine WL.step ?_
          refine WL.assign rfl rfl ?_
          refine WL.nil ?_
          refine WQ.then_normal ?_
          refine WC.cond rfl (fun h49 => ?_) (fun h49 => ?_)
          · skip
            have hop : t.op = 5 := by simpa using h49
            refine WC.seq ?_
            refine WC.region ?_
            refine WL.step ?_
            refine WL.move rfl rfl ?_
            refine WL.step ?_
            refine WL.call0 (β := DRes (fun cf => out.all (fun x => x.1.ev cf))) (res := fun z => .returned z.v) (cs := fun z => [z.ch]) (ψ := fun _ => True) F.fun101 (fun d h => by cases h; rfl) rfl (fun w hS => (AndAll_c out sa sc (by omega) w (RdDL.of_row rfl (hS.ok (rowc (.slice sa out.length sc) out.length 35 2 (dcs out)) (by repeat (first | exact List.Mem.head _ | apply List.Mem.tail))) (hS.ok (dsC Fb out) (by repeat (first | exact List.Mem.head _ | apply List.Mem.tail))))).mono (fun e w2 ⟨x, h1, h2⟩ => ⟨x, trivial, h1, h2⟩)) (fun z52 _ => ?_)
            refine WL.step ?_
            refine WL.storeN F.agg35 rfl rfl rfl (by simp [Value.oneCell']) (by repeat (first | exact Upd.here | apply Upd.there)) (by repeat constructor) ?_
            refine WL.nil ?_
            refine WQ.then_normal ?_
            refine WC.ret ?_
            refine WQ.block_ret ?_
            refine WQ.then_ret ?_
            exact WQ.ret (rs := [.cell 4 35]) rfl (.cellN F.agg35 rfl (by repeat (first | exact List.Mem.head _ | apply List.Mem.tail)) rfl .nil) (fun w hS => ⟨⟨z52.1, z52.2.1, fun cf => by rw [z52.2.2, evT_eq, ← hbs]; unfold opV; simp [hop, List.all_map] <;> rfl⟩, rfl, ((St.pick hS (c := z52.ch) (by repeat (first | exact Rem.here | apply Rem.there)))).sublist (List.Sublist.cons_cons _ (List.nil_sublist _))⟩)
          · skip
            have hn5 : ¬ t.op = 5 := by simpa using h49
            refine WC.seq ?_
            refine WC.region ?_
            refine WL.step ?_
            refine WL.eqI rfl rfl rfl ?_
            refine WL.step ?_
            refine WL.assign rfl rfl ?_
            refine WL.nil ?_
            refine WQ.then_normal ?_
            refine WC.cond rfl (fun h53 => ?_) (fun h53 => ?_)
            · skip
              have hop : t.op = 6 := by simpa using h53
              refine WC.seq ?_
              refine WC.region ?_
              refine WL.step ?_
              refine WL.move rfl rfl ?_
              refine WL.step ?_
              refine WL.call0 (β := DRes (fun cf => out.any (fun x => x.1.ev cf))) (res := fun z => .returned z.v) (cs := fun z => [z.ch]) (ψ := fun _ => True) F.fun102 (fun d h => by cases h; rfl) rfl (fun w hS => (OrAll_c out sa sc (by omega) w (RdDL.of_row rfl (hS.ok (rowc (.slice sa out.length sc) out.length 35 2 (dcs out)) (by repeat (first | exact List.Mem.head _ | apply List.Mem.tail))) (hS.ok (dsC Fb out) (by repeat (first | exact List.Mem.head _ | apply List.Mem.tail))))).mono (fun e w2 ⟨x, h1, h2⟩ => ⟨x, trivial, h1, h2⟩)) (fun z56 _ => ?_)
              refine WL.step ?_
              refine WL.storeN F.agg35 rfl rfl rfl (by simp [Value.oneCell']) (by repeat (first | exact Upd.here | apply Upd.there)) (by repeat constructor) ?_
              refine WL.nil ?_
              refine WQ.then_normal ?_
              refine WC.ret ?_
              refine WQ.block_ret ?_
              refine WQ.then_ret ?_
              exact WQ.ret (rs := [.cell 4 35]) rfl (.cellN F.agg35 rfl (by repeat (first | exact List.Mem.head _ | apply List.Mem.tail)) rfl .nil) (fun w hS => ⟨⟨z56.1, z56.2.1, fun cf => by rw [z56.2.2, evT_eq, ← hbs]; unfold opV; simp [hop, List.any_map] <;> rfl⟩, rfl, ((St.pick hS (c := z56.ch) (by repeat (first | exact Rem.here | apply Rem.there)))).sublist (List.Sublist.cons_cons _ (List.nil_sublist _))⟩)
            · skip
              have hn6 : ¬ t.op = 6 := by simpa using h53
              refine WC.seq ?_
              refine WC.region ?_
              refine WL.step ?_
              refine WL.eqI rfl rfl rfl ?_
              refine WL.step ?_
              refine WL.assign rfl rfl ?_
              refine WL.nil ?_
              refine WQ.then_normal ?_
              refine WC.cond rfl (fun h57 => ?_) (fun h57 => ?_)
              · skip
                have hop : t.op = 7 := by simpa using h57
                refine WC.seq ?_
                refine WC.region ?_
                refine WL.step ?_
                refine WL.call0 (β := DRes (fun _ => false)) (res := fun z => .returned z.v) (cs := fun z => [z.ch]) (ψ := fun _ => True) F.fun103 (fun d h => by cases h; rfl) rfl (fun w hS => (False_c w).mono (fun e w2 ⟨x, h1, h2⟩ => ⟨x, trivial, h1, h2⟩)) (fun z59 _ => ?_)
                refine WL.step ?_
                refine WL.alloc F.zero35 rfl (fun b10 => ?_)
                refine WL.step ?_
                refine WL.storeN F.agg35 rfl rfl rfl (by simp [Value.oneCell']) (by repeat (first | exact Upd.here | apply Upd.there)) (by repeat constructor) ?_
                refine WL.nil ?_
                refine WQ.then_normal ?_
                refine WC.seq ?_
                refine WC.seq ?_
                refine WC.region ?_
                refine WL.step ?_
                refine WL.move rfl rfl ?_
                refine WL.step ?_
                refine WL.lenSl F.und48 rfl rfl ?_
                refine WL.step ?_
                refine WL.move rfl rfl ?_
                refine WL.nil ?_
                refine WQ.then_normal ?_
                refine WC.block ?_
                refine WC.chunks (C' := [pt b10 [.slice z59.1.2.1 (canon z59.1.1).1.length z59.1.2.2, .int .i64 ((canon z59.1.1).2 : Int)] 35, z59.ch, pt b4 [.slice none 0 0, .int .i64 0] 35, rowc (.slice sa out.length sc) out.length 35 2 (dcs out), dsC Fb out]) (fun w hS => ((St.pick (St.pick (St.pick (St.pick (St.pick hS (c := dsC Fb out) (by repeat (first | exact Rem.here | apply Rem.there))) (c := rowc (.slice sa out.length sc) out.length 35 2 (dcs out)) (by repeat (first | exact Rem.here | apply Rem.there))) (c := pt b4 [.slice none 0 0, .int .i64 0] 35) (by repeat (first | exact Rem.here | apply Rem.there))) (c := z59.ch) (by repeat (first | exact Rem.here | apply Rem.there))) (c := pt b10 [.slice z59.1.2.1 (canon z59.1.1).1.length z59.1.2.2, .int .i64 ((canon z59.1.1).2 : Int)] 35) (by repeat (first | exact Rem.here | apply Rem.there)))).sublist (List.Sublist.cons_cons _ (List.Sublist.cons_cons _ (List.Sublist.cons_cons _ (List.Sublist.cons_cons _ (List.Sublist.cons_cons _ (List.nil_sublist _))))))) ?_
                refine WC.loop (α := ManyG) (fun g => g.i ≤ out.length ∧ g.t.ok 0 ∧ ∀ cf, g.t.ev cf = ((out.map (fun x => x.1.ev cf)).take g.i).foldl (fun x y => x != y) false) (fun g => [(4, pp b4), (10, pp b10), (60, .slice sa out.length sc), (61, .int .i64 (out.length : Int)), (62, .int .i64 (g.i : Int))]) (fun g => [pt b10 [.slice g.ad (canon g.t).1.length g.ac, .int .i64 ((canon g.t).2 : Int)] 35, dC g.ad g.ac g.t, pt b4 [.slice none 0 0, .int .i64 0] 35, rowc (.slice sa out.length sc) out.length 35 2 (dcs out), dsC Fb out]) (fun g => out.length - g.i) (⟨0, z59.1.1, z59.1.2.1, z59.1.2.2⟩) ?_ ?_ ?_ ?_
                · exact ⟨Nat.zero_le _, z59.2.1, fun cf => by rw [z59.2.2]; rfl⟩
                · exact ⟨rfl, rfl, rfl, rfl, rfl, trivial⟩
                · rfl
                rintro ⟨i, t1, ad, ac⟩ ⟨hi, hok1, hev⟩
                dsimp only at hi hok1 hev
                show WC _ _ _ _ _ _ _ [(4, pp b4), (10, pp b10), (60, .slice sa out.length sc), (61, .int .i64 (out.length : Int)), (62, .int .i64 (i : Int))] [pt b10 [.slice ad (canon t1).1.length ac, .int .i64 ((canon t1).2 : Int)] 35, dC ad ac t1, pt b4 [.slice none 0 0, .int .i64 0] 35, rowc (.slice sa out.length sc) out.length 35 2 (dcs out), dsC Fb out]
                refine WC.seq ?_
                refine WC.region ?_
                refine WL.step ?_
                refine WL.ltI rfl rfl rfl ?_
                refine WL.nil ?_
                refine WQ.then_normal ?_
                refine WC.seq ?_
                refine WC.cond rfl (fun h63 => ?_) (fun h63 => ?_)
                · skip
                  have hlt : i < out.length := by simpa using h63
                  obtain ⟨x, hx⟩ : ∃ x, out[i]? = some x := ⟨_, List.getElem?_eq_getElem hlt⟩
                  have hxm : x ∈ out := List.mem_of_getElem? hx
                  refine WC.know (φ := ∃ g, sa = some ⟨g, 0, none⟩ ∧ out.length = out.length ∧ out.length ≤ sc) (fun w hS => rowc_addr (hS.ok (rowc (.slice sa out.length sc) out.length 35 2 (dcs out)) (by repeat (first | exact List.Mem.head _ | apply List.Mem.tail))) (by omega)) (fun ⟨g8, hg8, _, _⟩ => ?_)
                  subst hg8
                  refine WC.skip ?_
                  refine WQ.then_normal ?_
                  refine WC.seq ?_
                  refine WC.block ?_
                  refine WC.seq ?_
                  refine WC.region ?_
                  refine WL.step ?_
                  refine WL.indexAddr F.sl48 rfl rfl rfl hlt ?_
                  refine WL.step ?_
                  refine WL.loadN F.agg35 rfl rfl (vs := dvl x) rfl (fun w hS j v hv => by rw [Nat.zero_add]; exact rowc_cells (hS.ok (rowc (.slice (some ⟨g8, 0, none⟩) out.length sc) out.length 35 2 (dcs out)) (by repeat (first | exact List.Mem.head _ | apply List.Mem.tail))) (dcs_at hx j v hv)) ?_
                  refine WL.step ?_
                  refine WL.alloc F.zero35 rfl (fun b12 => ?_)
                  refine WL.step ?_
                  refine WL.storeN F.agg35 rfl rfl rfl (by simp [Value.oneCell']) (by repeat (first | exact Upd.here | apply Upd.there)) (by repeat constructor) ?_
                  refine WL.nil ?_
                  refine WQ.then_normal ?_
                  refine WC.region ?_
                  refine WL.step ?_
                  refine WL.loadW F.agg35 rfl rfl (by repeat (first | exact List.Mem.head _ | apply List.Mem.tail)) rfl ?_
                  refine WL.step ?_
                  refine WL.loadW F.agg35 rfl rfl (by repeat (first | exact List.Mem.head _ | apply List.Mem.tail)) rfl ?_
                  refine WL.step ?_
                  refine WL.call0 (β := DRes (fun cf => t1.ev cf != x.1.ev cf)) (res := fun z => .returned z.v) (cs := fun z => [z.ch]) (ψ := fun _ => True) F.fun104 (fun d h => by cases h; rfl) rfl (fun w hS => (Xor_c t1 x.1 ad x.2.1 ac x.2.2 w (RdD.of_row hok1 (hS.ok (dC ad ac t1) (by repeat (first | exact List.Mem.head _ | apply List.Mem.tail)))) (dsC_rd (hS.ok (dsC Fb out) (by repeat (first | exact List.Mem.head _ | apply List.Mem.tail))) hxm)).mono (fun e w2 ⟨x, h1, h2⟩ => ⟨x, trivial, h1, h2⟩)) (fun z68 _ => ?_)
                  refine WL.step ?_
                  refine WL.storeN F.agg35 rfl rfl rfl (by simp [Value.oneCell']) (by repeat (first | exact Upd.here | apply Upd.there)) (by repeat constructor) ?_
                  refine WL.nil ?_
                  refine WQ.block_normal ?_
                  refine WQ.then_normal ?_
                  refine WC.region ?_
                  refine WL.step ?_
                  refine WL.add rfl rfl rfl ⟨by omega, by omega⟩ ?_
                  refine WL.step ?_
                  refine WL.move rfl rfl ?_
                  refine WL.nil ?_
                  refine WQ.chunks (C' := [pt b10 [.slice z68.1.2.1 (canon z68.1.1).1.length z68.1.2.2, .int .i64 ((canon z68.1.1).2 : Int)] 35, z68.ch, pt b4 [.slice none 0 0, .int .i64 0] 35, rowc (.slice (some ⟨g8, 0, none⟩) out.length sc) out.length 35 2 (dcs out), dsC Fb out]) (fun w hS => ((St.pick (St.pick (St.pick (St.pick (St.pick hS (c := dsC Fb out) (by repeat (first | exact Rem.here | apply Rem.there))) (c := rowc (.slice (some ⟨g8, 0, none⟩) out.length sc) out.length 35 2 (dcs out)) (by repeat (first | exact Rem.here | apply Rem.there))) (c := pt b4 [.slice none 0 0, .int .i64 0] 35) (by repeat (first | exact Rem.here | apply Rem.there))) (c := z68.ch) (by repeat (first | exact Rem.here | apply Rem.there))) (c := pt b10 [.slice z68.1.2.1 (canon z68.1.1).1.length z68.1.2.2, .int .i64 ((canon z68.1.1).2 : Int)] 35) (by repeat (first | exact Rem.here | apply Rem.there)))).sublist (List.Sublist.cons_cons _ (List.Sublist.cons_cons _ (List.Sublist.cons_cons _ (List.Sublist.cons_cons _ (List.Sublist.cons_cons _ (List.nil_sublist _))))))) ?_
                  refine WQ.back (⟨i + 1, z68.1.1, z68.1.2.1, z68.1.2.2⟩) ?_ ?_ ?_ ?_
                  · exact ⟨by show i + 1 ≤ out.length; omega, z68.2.1, fun cf => by (show z68.1.1.ev cf = _; rw [z68.2.2]; dsimp only; rw [hev, List.take_add_one, List.getElem?_map, hx]; simp)⟩
                  · (show out.length - (i + 1) < out.length - i; omega)
                  · exact ⟨rfl, rfl, rfl, rfl, rfl, trivial⟩
                  · rfl
                · skip
                  have hie : i = out.length := by simp at h63; omega
                  subst hie
                  have hml : ∀ cf : Cf, (out.map (fun x => x.1.ev cf)).length = out.length := fun cf => by simp
                  have hev2 : ∀ cf, t1.ev cf = (out.map (fun x => x.1.ev cf)).foldl (fun x y => x != y) false := fun cf => by (rw [hev, ← hml cf, List.take_length])
                  refine WC.exit ?_
                  refine WQ.then_exit ?_
                  refine WQ.then_exit ?_
                  refine WQ.block_exit ?_
                  refine WQ.then_normal ?_
                  refine WC.seq ?_
                  refine WC.region ?_
                  refine WL.step ?_
                  refine WL.loadW F.agg35 rfl rfl (by repeat (first | exact List.Mem.head _ | apply List.Mem.tail)) rfl ?_
                  refine WL.step ?_
                  refine WL.storeN F.agg35 rfl rfl rfl (by simp [Value.oneCell']) (by repeat (first | exact Upd.here | apply Upd.there)) (by repeat constructor) ?_
                  refine WL.nil ?_
                  refine WQ.then_normal ?_
                  refine WC.ret ?_
                  refine WQ.block_ret ?_
                  refine WQ.then_ret ?_
                  exact WQ.ret (rs := [.cell 4 35]) rfl (.cellN F.agg35 rfl (by repeat (first | exact List.Mem.head _ | apply List.Mem.tail)) rfl .nil) (fun w hS => ⟨⟨(t1, ad, ac), hok1, fun cf => by (show t1.ev cf = _; rw [hev2, evT_eq, ← hbs]; unfold opV; simp [hop])⟩, rfl, ((St.pick hS (c := dC ad ac t1) (by repeat (first | exact Rem.here | apply Rem.there)))).sublist (List.Sublist.cons_cons _ (List.nil_sublist _))⟩)
              · skip
                have hn7 : ¬ t.op = 7 := by simpa using h57
                refine WC.seq ?_
                refine WC.region ?_
                refine WL.step ?_
                refine WL.eqI rfl rfl rfl ?_
                refine WL.step ?_
                refine WL.assign rfl rfl ?_
                refine WL.nil ?_
                refine WQ.then_normal ?_
                refine WC.cond rfl (fun h71 => ?_) (fun h71 => ?_)
                · skip
                  have hop : t.op = 8 := by simpa using h71
                  have := hk89 (.inl hop)
                  have hol0 : 0 < out.length := by omega
                  obtain ⟨x0, hx0⟩ : ∃ x, out[0]? = some x := ⟨_, List.getElem?_eq_getElem hol0⟩
                  have hxm0 : x0 ∈ out := List.mem_of_getElem? hx0
                  have hol1 : 1 < out.length := by omega
                  obtain ⟨x1, hx1⟩ : ∃ x, out[1]? = some x := ⟨_, List.getElem?_eq_getElem hol1⟩
                  have hxm1 : x1 ∈ out := List.mem_of_getElem? hx1
                  refine WC.know (φ := ∃ g, sa = some ⟨g, 0, none⟩ ∧ out.length = out.length ∧ out.length ≤ sc) (fun w hS => rowc_addr (hS.ok (rowc (.slice sa out.length sc) out.length 35 2 (dcs out)) (by repeat (first | exact List.Mem.head _ | apply List.Mem.tail))) (by omega)) (fun ⟨g8, hg8, _, _⟩ => ?_)
                  subst hg8
                  refine WC.seq ?_
                  refine WC.drawsL (by kernel_rfl) (FactsOk.cons (ds := [3, 7, 8]) (LoadOk.by (Y := (fun w => ∀ j v, (dvl x0)[j]? = some v → w.cell? ⟨g8, 0 + 0 * 2 + j, none⟩ = some v)) (fun w hS => fun j v hv => by (have h9 := rowc_cells (hS.ok (rowc (.slice (some ⟨g8, 0, none⟩) out.length sc) out.length 35 2 (dcs out)) (by repeat (first | exact List.Mem.head _ | apply List.Mem.tail))) (dcs_at hx0 j v hv)); simpa using h9)) (FactsOk.cons (ds := [7, 8]) (LoadOk.by (Y := (fun w => ∀ j v, (dvl x1)[j]? = some v → w.cell? ⟨g8, 0 + 1 * 2 + j, none⟩ = some v)) (fun w hS => fun j v hv => by (have h9 := rowc_cells (hS.ok (rowc (.slice (some ⟨g8, 0, none⟩) out.length sc) out.length 35 2 (dcs out)) (by repeat (first | exact List.Mem.head _ | apply List.Mem.tail))) (dcs_at hx1 j v hv)); simpa using h9)) (FactsOk.nil))) ?_
                  refine WD.take (i := 0) rfl rfl rfl rfl (by kernel_rfl) (by kernel_rfl) (by kernel_rfl) (fun _ _ _ h => h) (by kernel_rfl) need_none (Yl.move rfl) ?_
                  refine WD.take (i := 1) rfl rfl rfl rfl (by kernel_rfl) (by kernel_rfl) (by kernel_rfl) (fun _ _ _ h => h) (by kernel_rfl) need_none (Yl.indexAddr (i := 0) F.sl48 rfl rfl hol0) ?_
                  refine WD.take (i := 2) rfl rfl rfl rfl (by kernel_rfl) (by kernel_rfl) (by kernel_rfl) (fun _ _ _ h => h) (by kernel_rfl) (need_at 0 9 rfl (by kernel_rfl)) (Yl.loadN F.agg35 rfl rfl) ?_
                  refine WD.take (i := 4) rfl rfl rfl rfl (by kernel_rfl) (by kernel_rfl) (by kernel_rfl) (fun _ _ _ h => h) (by kernel_rfl) need_none (Yl.move rfl) ?_
                  refine WD.take (i := 5) rfl rfl rfl rfl (by kernel_rfl) (by kernel_rfl) (by kernel_rfl) (fun _ _ _ h => h) (by kernel_rfl) need_none (Yl.indexAddr (i := 1) F.sl48 rfl rfl hol1) ?_
                  refine WD.take (i := 6) rfl rfl rfl rfl (by kernel_rfl) (by kernel_rfl) (by kernel_rfl) (fun _ _ _ h => h) (by kernel_rfl) (need_at 1 9 rfl (by kernel_rfl)) (Yl.loadN F.agg35 rfl rfl) ?_
                  refine WD.one (i := 3) (by kernel_rfl) rfl ?_
                  refine WL.call0 (β := DRes (fun cf => !x0.1.ev cf)) (res := fun z => .returned z.v) (cs := fun z => [z.ch]) (ψ := fun _ => True) F.fun100 (fun d h => by cases h; rfl) rfl (fun w hS => (Not_c x0.1 x0.2.1 x0.2.2 w (dsC_rd (hS.ok (dsC Fb out) (by repeat (first | exact List.Mem.head _ | apply List.Mem.tail))) hxm0)).mono (fun e w2 ⟨x, h1, h2⟩ => ⟨x, trivial, h1, h2⟩)) (fun z76 _ => ?_)
                  refine WD.on (closed_of (by kernel_rfl)) (fun w hS => Sx.gone rfl (Sx.keep (fun j v hv => by (have h9 := rowc_cells (hS.ok (rowc (.slice (some ⟨g8, 0, none⟩) out.length sc) out.length 35 2 (dcs out)) (by repeat (first | exact List.Mem.head _ | apply List.Mem.tail))) (dcs_at hx1 j v hv)); simpa using h9) (Sx.none))) ?_
                  refine WD.one (i := 7) (by kernel_rfl) rfl ?_
                  refine WL.call0 (β := DRes (fun cf => z76.1.1.ev cf || x1.1.ev cf)) (res := fun z => .returned z.v) (cs := fun z => [z.ch]) (ψ := fun _ => True) F.fun105 (fun d h => by cases h; rfl) rfl (fun w hS => (Or_c z76.1.1 x1.1 z76.1.2.1 x1.2.1 z76.1.2.2 x1.2.2 w (z76.rd hS (by repeat (first | exact List.Mem.head _ | apply List.Mem.tail))) (dsC_rd (hS.ok (dsC Fb out) (by repeat (first | exact List.Mem.head _ | apply List.Mem.tail))) hxm1)).mono (fun e w2 ⟨x, h1, h2⟩ => ⟨x, trivial, h1, h2⟩)) (fun z80 _ => ?_)
                  refine WD.on (closed_of (by kernel_rfl)) (fun w hS => Sx.gone rfl (Sx.gone rfl (Sx.none))) ?_
                  refine WD.one (i := 8) (by kernel_rfl) rfl ?_
                  refine WL.storeN F.agg35 rfl rfl rfl (by simp [Value.oneCell']) (by repeat (first | exact Upd.here | apply Upd.there)) (by repeat constructor) ?_
                  refine WD.on (closed_of (by kernel_rfl)) (fun w hS => Sx.gone rfl (Sx.gone rfl (Sx.none))) ?_
                  refine WD.done (by kernel_rfl) ?_
                  refine WQ.then_normal ?_
                  refine WC.ret ?_
                  refine WQ.block_ret ?_
                  refine WQ.then_ret ?_
                  exact WQ.ret (rs := [.cell 4 35]) rfl (.cellN F.agg35 rfl (by repeat (first | exact List.Mem.head _ | apply List.Mem.tail)) rfl .nil) (fun w hS => ⟨⟨z80.1, z80.2.1, fun cf => by rw [z80.2.2]; dsimp only; rw [z76.2.2, evT_eq, ← hbs]; unfold opV; simp [hop, hx0, hx1]⟩, rfl, ((St.pick hS (c := z80.ch) (by repeat (first | exact Rem.here | apply Rem.there)))).sublist (List.Sublist.cons_cons _ (List.nil_sublist _))⟩)
                · skip
                  have hn8 : ¬ t.op = 8 := by simpa using h71
                  refine WC.seq ?_
                  refine WC.region ?_
                  refine WL.step ?_
                  refine WL.eqI rfl rfl rfl ?_
                  refine WL.step ?_
                  refine WL.assign rfl rfl ?_
                  refine WL.nil ?_
                  refine WQ.then_normal ?_
                  refine WC.cond rfl (fun h81 => ?_) (fun h81 => ?_)
                  · skip
                    have hop : t.op = 9 := by simpa using h81
                    have := hk89 (.inr hop)
                    have hol0 : 0 < out.length := by omega
                    obtain ⟨x0, hx0⟩ : ∃ x, out[0]? = some x := ⟨_, List.getElem?_eq_getElem hol0⟩
                    have hxm0 : x0 ∈ out := List.mem_of_getElem? hx0
                    have hol1 : 1 < out.length := by omega
                    obtain ⟨x1, hx1⟩ : ∃ x, out[1]? = some x := ⟨_, List.getElem?_eq_getElem hol1⟩
                    have hxm1 : x1 ∈ out := List.mem_of_getElem? hx1
                    refine WC.know (φ := ∃ g, sa = some ⟨g, 0, none⟩ ∧ out.length = out.length ∧ out.length ≤ sc) (fun w hS => rowc_addr (hS.ok (rowc (.slice sa out.length sc) out.length 35 2 (dcs out)) (by repeat (first | exact List.Mem.head _ | apply List.Mem.tail))) (by omega)) (fun ⟨g8, hg8, _, _⟩ => ?_)
                    subst hg8
                    refine WC.seq ?_
                    refine WC.drawsL (by kernel_rfl) (FactsOk.cons (ds := [6, 7, 8]) (LoadOk.by (Y := (fun w => ∀ j v, (dvl x0)[j]? = some v → w.cell? ⟨g8, 0 + 0 * 2 + j, none⟩ = some v)) (fun w hS => fun j v hv => by (have h9 := rowc_cells (hS.ok (rowc (.slice (some ⟨g8, 0, none⟩) out.length sc) out.length 35 2 (dcs out)) (by repeat (first | exact List.Mem.head _ | apply List.Mem.tail))) (dcs_at hx0 j v hv)); simpa using h9)) (FactsOk.cons (ds := [6, 7, 8]) (LoadOk.by (Y := (fun w => ∀ j v, (dvl x1)[j]? = some v → w.cell? ⟨g8, 0 + 1 * 2 + j, none⟩ = some v)) (fun w hS => fun j v hv => by (have h9 := rowc_cells (hS.ok (rowc (.slice (some ⟨g8, 0, none⟩) out.length sc) out.length 35 2 (dcs out)) (by repeat (first | exact List.Mem.head _ | apply List.Mem.tail))) (dcs_at hx1 j v hv)); simpa using h9)) (FactsOk.nil))) ?_
                    refine WD.take (i := 0) rfl rfl rfl rfl (by kernel_rfl) (by kernel_rfl) (by kernel_rfl) (fun _ _ _ h => h) (by kernel_rfl) need_none (Yl.move rfl) ?_
                    refine WD.take (i := 1) rfl rfl rfl rfl (by kernel_rfl) (by kernel_rfl) (by kernel_rfl) (fun _ _ _ h => h) (by kernel_rfl) need_none (Yl.indexAddr (i := 0) F.sl48 rfl rfl hol0) ?_
                    refine WD.take (i := 2) rfl rfl rfl rfl (by kernel_rfl) (by kernel_rfl) (by kernel_rfl) (fun _ _ _ h => h) (by kernel_rfl) (need_at 0 9 rfl (by kernel_rfl)) (Yl.loadN F.agg35 rfl rfl) ?_
                    refine WD.take (i := 3) rfl rfl rfl rfl (by kernel_rfl) (by kernel_rfl) (by kernel_rfl) (fun _ _ _ h => h) (by kernel_rfl) need_none (Yl.move rfl) ?_
                    refine WD.take (i := 4) rfl rfl rfl rfl (by kernel_rfl) (by kernel_rfl) (by kernel_rfl) (fun _ _ _ h => h) (by kernel_rfl) need_none (Yl.indexAddr (i := 1) F.sl48 rfl rfl hol1) ?_
                    refine WD.take (i := 5) rfl rfl rfl rfl (by kernel_rfl) (by kernel_rfl) (by kernel_rfl) (fun _ _ _ h => h) (by kernel_rfl) (need_at 1 9 rfl (by kernel_rfl)) (Yl.loadN F.agg35 rfl rfl) ?_
                    refine WD.one (i := 6) (by kernel_rfl) rfl ?_
                    refine WL.call0 (β := DRes (fun cf => x0.1.ev cf != x1.1.ev cf)) (res := fun z => .returned z.v) (cs := fun z => [z.ch]) (ψ := fun _ => True) F.fun104 (fun d h => by cases h; rfl) rfl (fun w hS => (Xor_c x0.1 x1.1 x0.2.1 x1.2.1 x0.2.2 x1.2.2 w (dsC_rd (hS.ok (dsC Fb out) (by repeat (first | exact List.Mem.head _ | apply List.Mem.tail))) hxm0) (dsC_rd (hS.ok (dsC Fb out) (by repeat (first | exact List.Mem.head _ | apply List.Mem.tail))) hxm1)).mono (fun e w2 ⟨x, h1, h2⟩ => ⟨x, trivial, h1, h2⟩)) (fun z89 _ => ?_)
                    refine WD.on (closed_of (by kernel_rfl)) (fun w hS => Sx.gone rfl (Sx.gone rfl (Sx.none))) ?_
                    refine WD.one (i := 7) (by kernel_rfl) rfl ?_
                    refine WL.call0 (β := DRes (fun cf => !z89.1.1.ev cf)) (res := fun z => .returned z.v) (cs := fun z => [z.ch]) (ψ := fun _ => True) F.fun100 (fun d h => by cases h; rfl) rfl (fun w hS => (Not_c z89.1.1 z89.1.2.1 z89.1.2.2 w (z89.rd hS (by repeat (first | exact List.Mem.head _ | apply List.Mem.tail)))).mono (fun e w2 ⟨x, h1, h2⟩ => ⟨x, trivial, h1, h2⟩)) (fun z90 _ => ?_)
                    refine WD.on (closed_of (by kernel_rfl)) (fun w hS => Sx.gone rfl (Sx.gone rfl (Sx.none))) ?_
                    refine WD.one (i := 8) (by kernel_rfl) rfl ?_
                    refine WL.storeN F.agg35 rfl rfl rfl (by simp [Value.oneCell']) (by repeat (first | exact Upd.here | apply Upd.there)) (by repeat constructor) ?_
                    refine WD.on (closed_of (by kernel_rfl)) (fun w hS => Sx.gone rfl (Sx.gone rfl (Sx.none))) ?_
                    refine WD.done (by kernel_rfl) ?_
                    refine WQ.then_normal ?_
                    refine WC.ret ?_
                    refine WQ.block_ret ?_
                    refine WQ.then_ret ?_
                    exact WQ.ret (rs := [.cell 4 35]) rfl (.cellN F.agg35 rfl (by repeat (first | exact List.Mem.head _ | apply List.Mem.tail)) rfl .nil) (fun w hS => ⟨⟨z90.1, z90.2.1, fun cf => by rw [z90.2.2]; dsimp only; rw [z89.2.2, evT_eq, ← hbs]; unfold opV; simp [hop, hx0, hx1]⟩, rfl, ((St.pick hS (c := z90.ch) (by repeat (first | exact Rem.here | apply Rem.there)))).sublist (List.Sublist.cons_cons _ (List.nil_sublist _))⟩)
                  · skip
                    have hn9 : ¬ t.op = 9 := by simpa using h81
                    refine WC.seq ?_
                    refine WC.region ?_
                    refine WL.step ?_
                    refine WL.eqI rfl rfl rfl ?_
                    refine WL.step ?_
                    refine WL.assign rfl rfl ?_
                    refine WL.nil ?_
                    refine WQ.then_normal ?_
                    refine WC.cond rfl (fun h91 => ?_) (fun h91 => ?_)
                    · skip
                      have hop : t.op = 10 := by simpa using h91
                      have := hk10 hop
                      have hol0 : 0 < out.length := by omega
                      obtain ⟨x0, hx0⟩ : ∃ x, out[0]? = some x := ⟨_, List.getElem?_eq_getElem hol0⟩
                      have hxm0 : x0 ∈ out := List.mem_of_getElem? hx0
                      have hol1 : 1 < out.length := by omega
                      obtain ⟨x1, hx1⟩ : ∃ x, out[1]? = some x := ⟨_, List.getElem?_eq_getElem hol1⟩
                      have hxm1 : x1 ∈ out := List.mem_of_getElem? hx1
                      have hol2 : 2 < out.length := by omega
                      obtain ⟨x2, hx2⟩ : ∃ x, out[2]? = some x := ⟨_, List.getElem?_eq_getElem hol2⟩
                      have hxm2 : x2 ∈ out := List.mem_of_getElem? hx2
                      refine WC.know (φ := ∃ g, sa = some ⟨g, 0, none⟩ ∧ out.length = out.length ∧ out.length ≤ sc) (fun w hS => rowc_addr (hS.ok (rowc (.slice sa out.length sc) out.length 35 2 (dcs out)) (by repeat (first | exact List.Mem.head _ | apply List.Mem.tail))) (by omega)) (fun ⟨g8, hg8, _, _⟩ => ?_)
                      subst hg8
                      refine WC.seq ?_
                      refine WC.drawsL (by kernel_rfl) (FactsOk.cons (ds := [9, 10]) (LoadOk.by (Y := (fun w => ∀ j v, (dvl x0)[j]? = some v → w.cell? ⟨g8, 0 + 0 * 2 + j, none⟩ = some v)) (fun w hS => fun j v hv => by (have h9 := rowc_cells (hS.ok (rowc (.slice (some ⟨g8, 0, none⟩) out.length sc) out.length 35 2 (dcs out)) (by repeat (first | exact List.Mem.head _ | apply List.Mem.tail))) (dcs_at hx0 j v hv)); simpa using h9)) (FactsOk.cons (ds := [9, 10]) (LoadOk.by (Y := (fun w => ∀ j v, (dvl x1)[j]? = some v → w.cell? ⟨g8, 0 + 1 * 2 + j, none⟩ = some v)) (fun w hS => fun j v hv => by (have h9 := rowc_cells (hS.ok (rowc (.slice (some ⟨g8, 0, none⟩) out.length sc) out.length 35 2 (dcs out)) (by repeat (first | exact List.Mem.head _ | apply List.Mem.tail))) (dcs_at hx1 j v hv)); simpa using h9)) (FactsOk.cons (ds := [9, 10]) (LoadOk.by (Y := (fun w => ∀ j v, (dvl x2)[j]? = some v → w.cell? ⟨g8, 0 + 2 * 2 + j, none⟩ = some v)) (fun w hS => fun j v hv => by (have h9 := rowc_cells (hS.ok (rowc (.slice (some ⟨g8, 0, none⟩) out.length sc) out.length 35 2 (dcs out)) (by repeat (first | exact List.Mem.head _ | apply List.Mem.tail))) (dcs_at hx2 j v hv)); simpa using h9)) (FactsOk.nil)))) ?_
                      refine WD.take (i := 0) rfl rfl rfl rfl (by kernel_rfl) (by kernel_rfl) (by kernel_rfl) (fun _ _ _ h => h) (by kernel_rfl) need_none (Yl.move rfl) ?_
                      refine WD.take (i := 1) rfl rfl rfl rfl (by kernel_rfl) (by kernel_rfl) (by kernel_rfl) (fun _ _ _ h => h) (by kernel_rfl) need_none (Yl.indexAddr (i := 0) F.sl48 rfl rfl hol0) ?_
                      refine WD.take (i := 2) rfl rfl rfl rfl (by kernel_rfl) (by kernel_rfl) (by kernel_rfl) (fun _ _ _ h => h) (by kernel_rfl) (need_at 0 11 rfl (by kernel_rfl)) (Yl.loadN F.agg35 rfl rfl) ?_
                      refine WD.take (i := 3) rfl rfl rfl rfl (by kernel_rfl) (by kernel_rfl) (by kernel_rfl) (fun _ _ _ h => h) (by kernel_rfl) need_none (Yl.move rfl) ?_
                      refine WD.take (i := 4) rfl rfl rfl rfl (by kernel_rfl) (by kernel_rfl) (by kernel_rfl) (fun _ _ _ h => h) (by kernel_rfl) need_none (Yl.indexAddr (i := 1) F.sl48 rfl rfl hol1) ?_
                      refine WD.take (i := 5) rfl rfl rfl rfl (by kernel_rfl) (by kernel_rfl) (by kernel_rfl) (fun _ _ _ h => h) (by kernel_rfl) (need_at 1 11 rfl (by kernel_rfl)) (Yl.loadN F.agg35 rfl rfl) ?_
                      refine WD.take (i := 6) rfl rfl rfl rfl (by kernel_rfl) (by kernel_rfl) (by kernel_rfl) (fun _ _ _ h => h) (by kernel_rfl) need_none (Yl.move rfl) ?_
                      refine WD.take (i := 7) rfl rfl rfl rfl (by kernel_rfl) (by kernel_rfl) (by kernel_rfl) (fun _ _ _ h => h) (by kernel_rfl) need_none (Yl.indexAddr (i := 2) F.sl48 rfl rfl hol2) ?_
                      refine WD.take (i := 8) rfl rfl rfl rfl (by kernel_rfl) (by kernel_rfl) (by kernel_rfl) (fun _ _ _ h => h) (by kernel_rfl) (need_at 2 11 rfl (by kernel_rfl)) (Yl.loadN F.agg35 rfl rfl) ?_
                      refine WD.one (i := 9) (by kernel_rfl) rfl ?_
                      refine WL.call0 (β := DRes (fun cf => bif x0.1.ev cf then x1.1.ev cf else x2.1.ev cf)) (res := fun z => .returned z.v) (cs := fun z => [z.ch]) (ψ := fun _ => True) F.fun106 (fun d h => by cases h; rfl) rfl (fun w hS => (Ite_c x0.1 x1.1 x2.1 x0.2.1 x1.2.1 x2.2.1 x0.2.2 x1.2.2 x2.2.2 w (dsC_rd (hS.ok (dsC Fb out) (by repeat (first | exact List.Mem.head _ | apply List.Mem.tail))) hxm0) (dsC_rd (hS.ok (dsC Fb out) (by repeat (first | exact List.Mem.head _ | apply List.Mem.tail))) hxm1) (dsC_rd (hS.ok (dsC Fb out) (by repeat (first | exact List.Mem.head _ | apply List.Mem.tail))) hxm2)).mono (fun e w2 ⟨x, h1, h2⟩ => ⟨x, trivial, h1, h2⟩)) (fun z102 _ => ?_)
                      refine WD.on (closed_of (by kernel_rfl)) (fun w hS => Sx.gone rfl (Sx.gone rfl (Sx.gone rfl (Sx.none)))) ?_
                      refine WD.one (i := 10) (by kernel_rfl) rfl ?_
                      refine WL.storeN F.agg35 rfl rfl rfl (by simp [Value.oneCell']) (by repeat (first | exact Upd.here | apply Upd.there)) (by repeat constructor) ?_
                      refine WD.on (closed_of (by kernel_rfl)) (fun w hS => Sx.gone rfl (Sx.gone rfl (Sx.gone rfl (Sx.none)))) ?_
                      refine WD.done (by kernel_rfl) ?_
                      refine WQ.then_normal ?_
                      refine WC.ret ?_
                      refine WQ.block_ret ?_
                      refine WQ.then_ret ?_
                      exact WQ.ret (rs := [.cell 4 35]) rfl (.cellN F.agg35 rfl (by repeat (first | exact List.Mem.head _ | apply List.Mem.tail)) rfl .nil) (fun w hS => ⟨⟨z102.1, z102.2.1, fun cf => by rw [z102.2.2, evT_eq, ← hbs]; unfold opV; simp [hop, hx0, hx1, hx2]⟩, rfl, ((St.pick hS (c := z102.ch) (by repeat (first | exact Rem.here | apply Rem.there)))).sublist (List.Sublist.cons_cons _ (List.nil_sublist _))⟩)
                    · skip
                      have hn10 : ¬ t.op = 10 := by simpa using h91
                      refine WC.skip ?_
                      refine WQ.block_normal ?_
                      refine WQ.then_normal ?_
                      refine WC.seq ?_
                      refine WC.region ?_
                      refine WL.step ?_
                      refine WL.call0 (β := DRes (fun _ => false)) (res := fun z => .returned z.v) (cs := fun z => [z.ch]) (ψ := fun _ => True) F.fun103 (fun d h => by cases h; rfl) rfl (fun w hS => (False_c w).mono (fun e w2 ⟨x, h1, h2⟩ => ⟨x, trivial, h1, h2⟩)) (fun z103 _ => ?_)
                      refine WL.step ?_
                      refine WL.storeN F.agg35 rfl rfl rfl (by simp [Value.oneCell']) (by repeat (first | exact Upd.here | apply Upd.there)) (by repeat constructor) ?_
                      refine WL.nil ?_
                      refine WQ.then_normal ?_
                      refine WC.ret ?_
                      exact WQ.ret (rs := [.cell 4 35]) rfl (.cellN F.agg35 rfl (by repeat (first | exact List.Mem.head _ | apply List.Mem.tail)) rfl .nil) (fun w hS => ⟨⟨z103.1, z103.2.1, fun cf => by rw [z103.2.2, evT_eq]; unfold opV; rw [if_neg hn2, if_neg hn3, if_neg hn4, if_neg hn5, if_neg hn6, if_neg hn7, if_neg hn8, if_neg hn9, if_neg hn10]⟩, rfl, ((St.pick hS (c := z103.ch) (by repeat (first | exact Rem.here | apply Rem.there)))).sublist (List.Sublist.cons_cons _ (List.nil_sublist _))⟩)

theorem Set_c (names : List (List UInt8)) (na : Option Addr) (nc : Nat) (hnl24 : names.length ≤ 24) : ∀ n, n ≤ 1099511627776 → SetC names na nc n
  | 0, _ => fun t wb G a c w hsz _ _ _ _ => by rw [Fm.rowT_eq] at hsz; simp at hsz
  | n + 1, h => Set_step names na nc hnl24 n (by omega) (Set_c names na nc hnl24 n (by omega))

end Go.Proofs.YtkgllhkhdjodeaaGreat

/-! Counting what is true. -/
namespace Dg
def cntB (bs : List Bool) : Nat := bs.count true
theorem cntB_snoc (bs : List Bool) (b : Bool) : cntB (bs ++ [b]) = cntB bs + (if b then 1 else 0) := by
 unfold cntB; rw [List.count_append]; cases b <;> simp
theorem cntB_le (bs : List Bool) : cntB bs ≤ bs.length := List.count_le_length
theorem cnt_all : ∀ bs : List Bool, (cntB bs = bs.length) ↔ bs.all id = true
 | [] => by simp [cntB]
 | b :: bs => by
  have ih := cnt_all bs
  have hl := cntB_le bs
  unfold cntB at ih hl ⊢
  cases b with
  | true => simpa using ih
  | false => simp; omega
theorem cnt_any : ∀ bs : List Bool, (0 < cntB bs) ↔ bs.any id = true
 | [] => by simp [cntB]
 | b :: bs => by
  have ih := cnt_any bs
  unfold cntB at ih ⊢
  cases b with
  | true => simp
  | false => simp
theorem foldl_xor (bs : List Bool) : ∀ a : Bool, bs.foldl (fun x y => x != y) a = (a != bs.foldl (fun x y => x != y) false) := by
 induction bs with
 | nil => intro a; simp
 | cons b bs ih => intro a; simp only [List.foldl_cons]; rw [ih (a != b), ih (false != b)]; cases a <;> cases b <;> simp
theorem cnt_par : ∀ bs : List Bool, (cntB bs % 2 = 1) ↔ bs.foldl (fun x y => x != y) false = true
 | [] => by simp [cntB]
 | b :: bs => by
  have ih := cnt_par bs
  simp only [List.foldl_cons]
  rw [foldl_xor]
  unfold cntB at ih ⊢
  cases b with
  | true =>
   simp only [List.count_cons_self]
   cases h : bs.foldl (fun x y => x != y) false with
   | true => rw [h] at ih; simp at ih ⊢; omega
   | false => rw [h] at ih; simp at ih ⊢; omega
  | false => simpa using ih
theorem len1 {bs : List Bool} (h : bs.length = 1) : ∃ a, bs = [a] := by
 match bs, h with
 | [a], _ => exact ⟨a, rfl⟩
theorem len2 {bs : List Bool} (h : bs.length = 2) : ∃ a b, bs = [a, b] := by
 match bs, h with
 | [a, b], _ => exact ⟨a, b, rfl⟩
theorem rem_bit (M m : Nat) : (((M >>> m % 2 : Nat) : Int) == 1) = M.testBit m := by
 rw [Nat.testBit_eq_decide_div_mod_eq, ← Nat.shiftRight_eq_div_pow]
 by_cases h : M >>> m % 2 = 1
 ·rw [decide_eq_true h, beq_iff_eq]; omega
 ·rw [decide_eq_false h, beq_eq_false_iff_ne]; omega
end Dg

namespace Go.Proofs.YtkgllhkhdjodeaaGreat
open Go Go.Eng Go.Proofs Dg
theorem run_rem2I {n : Nat} (t : TypeId) (x y : Operand) (w : World) : (do eqGuard .rem t x y (.int .i64 (n : Int)) (.int .i64 2); binOp .rem t (.int .i64 (n : Int)) (.int .i64 2) : Sem Value).run Tryz.prog w = .ok (.int .i64 ((n % 2 : Nat) : Int)) w := by
 have h1 : (n : Int).tmod 2 = ((n % 2 : Nat) : Int) := by
  rw [Int.tmod_eq_emod_of_nonneg (Int.natCast_nonneg _)]; simp
 simp [eqGuard, binOp, Op.intDiv, h1]
abbrev bls (bs : List Bool) : List Value := bs.map Value.bool
theorem bls_at {bs : List Bool} {i : Nat} {b : Bool} (h : bs[i]? = some b) : (bls bs)[i]? = some (.bool b) := by
 rw [List.getElem?_map, h]; rfl
theorem retB {b b' : Bool} (h : b = b') : Ending.returned (tup [Value.bool b]) = .returned (.bool b') := by subst h; rfl
structure TruG where
 i : Nat
 bs : List Bool
 sa : Option Addr
 sc : Nat
def TrueC (names : List (List UInt8)) (na : Option Addr) (nc M : Nat) (n : Nat) : Prop := ∀ (t : Tree) (wb : World) (G : List Nat) (a : Option Addr) (c : Nat) (w : World), (Fm.rowT t).length ≤ n → okT names t → rdT wb t G (tv t a c) → Ext wb w → RdS w names na →
 Pure Tryz.prog 15 [tv t a c, .slice na names.length nc, .int .u32 (M : Int)] w (.bool (evT names t (cfg M)))
theorem conv61 {n : Nat} (hn : n < 9223372036854775808) (w : World) : (convert 3 61 (.int .i64 (n : Int))).run Tryz.prog w = .ok (.int .u64 (n : Int)) w := conv39 hn w

set_option maxRecDepth 100000 in
theorem True_step (names : List (List UInt8)) (na : Option Addr) (nc M : Nat) (hnl24 : names.length ≤ 24) (n : Nat) (hn : n ≤ 1099511627776) (hrec : TrueC names na nc M n) : TrueC names na nc M (n + 1) := by
 intro t wb G a c w hsz hok hr hE hnr
 refine enter Tryz.func15 rfl Tryz.ntmps15 rfl (St.init _) ?_
 refine jN 3 ?_
 refine WL.boxN rfl rfl (fun b3 => ?_)
 refine jN 24 ?_
 refine WC.chunks (C' := [pt b3 [Value.int .u8 t.op, .string (str t.name), .slice a t.kids.length c] 24, rowc (.slice none 0 0) 0 4 1 []]) (fun w hS => (jK (hS.rowNil 4 1))) ?_
 refine WC.loop (α := TruG) (fun g => g.i ≤ t.kids.length ∧ g.bs = evL names (t.kids.take g.i) (cfg M)) (fun g => [(1, .slice na names.length nc), (2, .int .u32 (M : Int)), (3, pp b3), (7, .int .i64 (cntB g.bs : Int)), (8, .slice g.sa g.bs.length g.sc), (9, .int .i64 (g.i : Int))]) (fun g => [pt b3 [Value.int .u8 t.op, .string (str t.name), .slice a t.kids.length c] 24, rowc (.slice g.sa g.bs.length g.sc) g.bs.length 4 1 (bls g.bs)]) (fun g => t.kids.length - g.i) (⟨0, [], none, 0⟩) ?_ ?_ ?_ ?_
 ·exact ⟨Nat.zero_le _, by simp [evL]⟩
 ·exact ⟨rfl, rfl, rfl, rfl, rfl, rfl, trivial⟩
 ·rfl
 rintro ⟨i, bs, sa, sc⟩ ⟨hi, hbs⟩
 dsimp only at hi hbs
 show WC _ _ _ _ _ _ _ [(1, .slice na names.length nc), (2, .int .u32 (M : Int)), (3, pp b3), (7, .int .i64 (cntB bs : Int)), (8, .slice sa bs.length sc), (9, .int .i64 (i : Int))] [pt b3 [Value.int .u8 t.op, .string (str t.name), .slice a t.kids.length c] 24, rowc (.slice sa bs.length sc) bs.length 4 1 (bls bs)]
 have hol : bs.length = i := by (rw [hbs, evL_eq]; simp; omega)
 have hcl := cntB_le bs
 refine jN 15 ?_
 refine WC.cond rfl (fun h15 => ?_) (fun h15 => ?_)
 ·have hlt : i < t.kids.length := by simpa using h15
  obtain ⟨k, hk⟩ : ∃ k, t.kids[i]? = some k := ⟨_, List.getElem?_eq_getElem hlt⟩
  obtain ⟨b, off, F1, a1, c1, rfl, hb, hF1, hrk, hck⟩ := rdT_at hr hk
  have hks := Fm.rowT_kid hk
  have hkl := Fm.kids_le t
  obtain ⟨v, hv⟩ : ∃ v, v = evT names k (cfg M) := ⟨_, rfl⟩
  have hb2 : bs ++ [v] = evL names (t.kids.take (i + 1)) (cfg M) := by (rw [hbs, hv, List.take_add_one, hk, evL_eq, evL_eq, List.map_append]; rfl)
  refine jN 15 ?_
  refine WL.indexAddr F.sl22 rfl rfl rfl hlt ?_
  refine jN 1 ?_
  refine WL.loadN F.agg24 rfl rfl (vs := [Value.int .u8 k.op, .string (str k.name), .slice a1 k.kids.length c1]) rfl (fun w hS j v hv => (hE.st hS).cell (hck j v hv)) ?_
  refine jN 5 ?_
  refine WL.callV (v := .bool v) F.fun15 rfl rfl (fun w hS => by rw [hv]; exact hrec k wb F1 a1 c1 w (by omega) (okT_kid hok hk) hrk (hE.st hS) (hnr.next hS)) ?_
  refine jN 1 ?_
  refine WL.buildSlice F.sl42 F.ez42 rfl rfl rfl rfl jB rfl (fun b27 => ?_)
  refine jN 1 ?_
  refine WL.appendE (news := [.bool v]) F.el42 rfl rfl rfl jR (fun w hS jj u hu => by rw [Nat.zero_add]; exact hS.cell (cs := [.bool v]) jM hu) (by simp [bls]) jO (Nat.le_trans (m := 1099511627777) (by omega) (by decide)) (by omega) (fun a2 c2 => ?_)
  refine jN 6 ?_
  refine WA.know (φ := ∃ g, a2 = some ⟨g, 0, none⟩ ∧ bs.length + 1 = bs.length + 1 ∧ bs.length + 1 ≤ c2) (fun w hS => rowc_addr (hS.ok (rowc (.slice a2 (bs.length + 1) c2) (bs.length + 1) 4 1 (bls bs ++ [.bool v])) jM) (by omega)) (fun ⟨g8, hg8, _, _⟩ => ?_)
  subst hg8
  refine jN 5 ?_
  refine WL.indexAddr (i := i) F.sl42 rfl rfl rfl (by omega) ?_
  refine jN 1 ?_
  refine WL.load1 F.one4 rfl rfl (v := .bool v) (fun w hS => by rw [Nat.zero_add, Nat.mul_one]; exact rowc_cell (hS.ok (rowc (.slice (some ⟨g8, 0, none⟩) (bs.length + 1) c2) (bs.length + 1) 4 1 (bls bs ++ [.bool v])) jM) (by (rw [List.getElem?_append_right (by simp [bls]; omega)]; simp [bls, hol]))) ?_
  refine jN 2 ?_
  refine WC.cond rfl (fun h32 => ?_) (fun h32 => ?_)
  ·refine jN 18 ?_
   refine WQ.chunks (C' := [pt b3 [Value.int .u8 t.op, .string (str t.name), .slice (some ⟨b, off, none⟩) t.kids.length c] 24, rowc (.slice (some ⟨g8, 0, none⟩) (bs.length + 1) c2) (bs.length + 1) 4 1 (bls bs ++ [.bool v])]) (fun w hS => (jK hS)) ?_
   refine WQ.back ⟨i + 1, bs ++ [v], some ⟨g8, 0, none⟩, c2⟩ ⟨by show i + 1 ≤ t.kids.length; omega, hb2⟩ (by show t.kids.length - (i + 1) < t.kids.length - i; omega) ?_ ?_
   ·have hv9 : cntB (bs ++ [v]) = cntB bs + 1 := by (rw [cntB_snoc, show v = true by simpa using h32]; rfl)
    simp only [hv9, List.length_append, List.length_singleton]
    exact ⟨rfl, rfl, rfl, rfl, rfl, rfl, trivial⟩
   ·simp only [List.length_append, List.length_singleton, bls, List.map_append, List.map_cons, List.map_nil]
  ·refine jN 11 ?_
   refine WQ.chunks (C' := [pt b3 [Value.int .u8 t.op, .string (str t.name), .slice (some ⟨b, off, none⟩) t.kids.length c] 24, rowc (.slice (some ⟨g8, 0, none⟩) (bs.length + 1) c2) (bs.length + 1) 4 1 (bls bs ++ [.bool v])]) (fun w hS => (jK hS)) ?_
   refine WQ.back ⟨i + 1, bs ++ [v], some ⟨g8, 0, none⟩, c2⟩ ⟨by show i + 1 ≤ t.kids.length; omega, hb2⟩ (by show t.kids.length - (i + 1) < t.kids.length - i; omega) ?_ ?_
   ·have hv9 : cntB (bs ++ [v]) = cntB bs := by (rw [cntB_snoc, show v = false by simpa using h32]; rfl)
    simp only [hv9, List.length_append, List.length_singleton]
    exact ⟨rfl, rfl, rfl, rfl, rfl, rfl, trivial⟩
   ·simp only [List.length_append, List.length_singleton, bls, List.map_append, List.map_cons, List.map_nil]
 ·have hie : i = t.kids.length := by simp at h15; omega
  subst hie
  rw [List.take_length] at hbs
  have hrt := (okT_self hok).1
  obtain ⟨hk4, hk89, hk10, hk567, hop1⟩ := right_kids hrt
  have hkl := Fm.kids_le t
  refine jN 23 ?_
  refine WC.cond rfl (fun h37 => ?_) (fun h37 => ?_)
  ·have hop : t.op = 2 := by simpa using h37
   refine jN 9 ?_
   refine WQ.ret (rs := [.tmp 6]) rfl (.tmp rfl .nil) (fun w hS => ⟨?_, hS.sublist (List.nil_sublist _)⟩)
   rw [evT_eq, ← hbs]
   refine retB ?_
   unfold opV
   rw [if_pos hop]
  ·have hn2 : ¬ t.op = 2 := by simpa using h37
   refine jN 8 ?_
   refine WC.cond rfl (fun h39 => ?_) (fun h39 => ?_)
   ·have hop : t.op = 3 := by simpa using h39
    obtain ⟨m, hm, hml, _⟩ := idxS_lt ((okT_self hok).2 hop)
    refine jN 9 ?_
    refine WL.callV F.fun47 rfl rfl (fun w hS => ridx_c names t.name na nc (by omega) w (hnr.next hS)) ?_
    rw [hm]
    refine jN 12 ?_
    refine WA.splitB (i := 47) rfl (fun g47 => ?_) (fun g47 => ?_)
    ·refine jN 8 ?_
     refine WL.convert rfl rfl (v := .int .u64 (m : Int)) (fun w hS => conv61 (by omega) w) ?_
     refine jN 2 ?_
     refine WL.bin (v := .int .u32 ((M >>> m : Nat) : Int)) rfl rfl rfl (fun w => run_shrU (by omega) _ _ _ w) ?_
     refine jN 2 ?_
     refine WL.bin (v := .int .u32 ((M >>> m % 2 : Nat) : Int)) rfl rfl rfl (fun w => run_rem2 _ _ _ w) ?_
     refine jN 12 ?_
     refine WQ.ret (rs := [.tmp 6]) rfl (.tmp rfl .nil) (fun w hS => ⟨?_, hS.sublist (List.nil_sublist _)⟩)
     rw [evT_eq]
     unfold opV
     rw [if_neg (by omega), if_pos hop, hm]
     show Ending.returned (.bool (((M >>> m % 2 : Nat) : Int) == 1)) = _
     rw [rem_bit]
     rfl
    ·exfalso; simp at g47
   ·have hn3 : ¬ t.op = 3 := by simpa using h39
    refine jN 8 ?_
    refine WC.cond rfl (fun h55 => ?_) (fun h55 => ?_)
    ·have hop : t.op = 4 := by simpa using h55
     have := hk4 hop
     obtain ⟨v0, rfl⟩ := len1 (show bs.length = 1 by omega)
     refine jN 13 ?_
     refine WQ.ret (rs := [.tmp 6]) rfl (.tmp rfl .nil) (fun w hS => ⟨?_, hS.sublist (List.nil_sublist _)⟩)
     rw [evT_eq, ← hbs]
     refine retB ?_
     have e : opV names t.op t.name [v0] (cfg M) = !v0 := by (rw [hop]; rfl)
     rw [e]
     cases v0 <;> rfl
    ·have hn4 : ¬ t.op = 4 := by simpa using h55
     refine jN 8 ?_
     refine WC.cond rfl (fun h59 => ?_) (fun h59 => ?_)
     ·have hop : t.op = 5 := by simpa using h59
      refine jN 17 ?_
      refine WQ.ret (rs := [.tmp 6]) rfl (.tmp rfl .nil) (fun w hS => ⟨?_, hS.sublist (List.nil_sublist _)⟩)
      rw [evT_eq, ← hbs]
      refine retB ?_
      have e : opV names t.op t.name bs (cfg M) = bs.all id := by (rw [hop]; rfl)
      rw [e]
      rw [Bool.eq_iff_iff, ← cnt_all]
      simp; omega
     ·have hn5 : ¬ t.op = 5 := by simpa using h59
      refine jN 8 ?_
      refine WC.cond rfl (fun h65 => ?_) (fun h65 => ?_)
      ·have hop : t.op = 6 := by simpa using h65
       refine jN 13 ?_
       refine WQ.ret (rs := [.tmp 6]) rfl (.tmp rfl .nil) (fun w hS => ⟨?_, hS.sublist (List.nil_sublist _)⟩)
       rw [evT_eq, ← hbs]
       refine retB ?_
       have e : opV names t.op t.name bs (cfg M) = bs.any id := by (rw [hop]; rfl)
       rw [e]
       rw [Bool.eq_iff_iff, ← cnt_any]
       simp
      ·have hn6 : ¬ t.op = 6 := by simpa using h65
       refine jN 8 ?_
       refine WC.cond rfl (fun h69 => ?_) (fun h69 => ?_)
       ·have hop : t.op = 7 := by simpa using h69
        refine jN 5 ?_
        refine WL.bin (v := .int .i64 ((cntB bs % 2 : Nat) : Int)) rfl rfl rfl (fun w => run_rem2I _ _ _ w) ?_
        refine jN 9 ?_
        refine WQ.ret (rs := [.tmp 6]) rfl (.tmp rfl .nil) (fun w hS => ⟨?_, hS.sublist (List.nil_sublist _)⟩)
        rw [evT_eq, ← hbs]
        refine retB ?_
        have e : opV names t.op t.name bs (cfg M) = bs.foldl (fun x y => x != y) false := by (rw [hop]; rfl)
        rw [e]
        rw [Bool.eq_iff_iff, ← cnt_par]
        simp; omega
       ·have hn7 : ¬ t.op = 7 := by simpa using h69
        refine jN 8 ?_
        refine WC.cond rfl (fun h74 => ?_) (fun h74 => ?_)
        ·have hop : t.op = 8 := by simpa using h74
         have := hk89 (.inl hop)
         have hbl0 : 0 < bs.length := by omega
         obtain ⟨v0, hb0⟩ : ∃ x, bs[0]? = some x := ⟨_, List.getElem?_eq_getElem hbl0⟩
         have hbl1 : 1 < bs.length := by omega
         obtain ⟨v1, hb1⟩ : ∃ x, bs[1]? = some x := ⟨_, List.getElem?_eq_getElem hbl1⟩
         refine WC.know (φ := ∃ g, sa = some ⟨g, 0, none⟩ ∧ bs.length = bs.length ∧ bs.length ≤ sc) (fun w hS => rowc_addr (hS.ok (rowc (.slice sa bs.length sc) bs.length 4 1 (bls bs)) jM) (by omega)) (fun ⟨g8, hg8, _, _⟩ => ?_)
         subst hg8
         refine jN 5 ?_
         refine WL.indexAddr (i := 0) F.sl42 rfl rfl rfl (by omega) ?_
         refine jN 1 ?_
         refine WL.load1 F.one4 rfl rfl (v := .bool v0) (fun w hS => (by have h9 := rowc_cell (hS.ok (rowc (.slice (some ⟨g8, 0, none⟩) bs.length sc) bs.length 4 1 (bls bs)) jM) (bls_at (i := 0) hb0); simpa using h9)) ?_
         refine jN 4 ?_
         refine WA.splitB (i := 80) rfl (fun g80 => ?_) (fun g80 => ?_)
         ·refine jN 15 ?_
          refine WQ.ret (rs := [.tmp 6]) rfl (.tmp rfl .nil) (fun w hS => ⟨?_, hS.sublist (List.nil_sublist _)⟩)
          rw [evT_eq, ← hbs]
          refine retB ?_
          have e : opV names t.op t.name bs (cfg M) = (!(bs.getD 0 false) || bs.getD 1 false) := by (rw [hop]; rfl)
          rw [e]
          rw [List.getD_eq_getElem?_getD, List.getD_eq_getElem?_getD, hb0, hb1]
          simp_all
         ·refine jN 5 ?_
          refine WL.indexAddr (i := 1) F.sl42 rfl rfl rfl (by omega) ?_
          refine jN 2 ?_
          refine WL.load1 F.one4 rfl rfl (v := .bool v1) (fun w hS => (by have h9 := rowc_cell (hS.ok (rowc (.slice (some ⟨g8, 0, none⟩) bs.length sc) bs.length 4 1 (bls bs)) jM) (bls_at (i := 1) hb1); simpa using h9)) ?_
          refine jN 9 ?_
          refine WQ.ret (rs := [.tmp 6]) rfl (.tmp rfl .nil) (fun w hS => ⟨?_, hS.sublist (List.nil_sublist _)⟩)
          rw [evT_eq, ← hbs]
          refine retB ?_
          have e : opV names t.op t.name bs (cfg M) = (!(bs.getD 0 false) || bs.getD 1 false) := by (rw [hop]; rfl)
          rw [e]
          rw [List.getD_eq_getElem?_getD, List.getD_eq_getElem?_getD, hb0, hb1]
          simp_all
        ·have hn8 : ¬ t.op = 8 := by simpa using h74
         refine jN 8 ?_
         refine WC.cond rfl (fun h85 => ?_) (fun h85 => ?_)
         ·have hop : t.op = 9 := by simpa using h85
          have := hk89 (.inr hop)
          obtain ⟨v0, v1, rfl⟩ := len2 (show bs.length = 2 by omega)
          refine jN 13 ?_
          refine WQ.ret (rs := [.tmp 6]) rfl (.tmp rfl .nil) (fun w hS => ⟨?_, hS.sublist (List.nil_sublist _)⟩)
          rw [evT_eq, ← hbs]
          refine retB ?_
          have e : opV names t.op t.name [v0, v1] (cfg M) = !(v0 != v1) := by (rw [hop]; rfl)
          rw [e]
          cases v0 <;> cases v1 <;> rfl
         ·have hn9 : ¬ t.op = 9 := by simpa using h85
          refine jN 8 ?_
          refine WC.cond rfl (fun h89 => ?_) (fun h89 => ?_)
          ·have hop : t.op = 10 := by simpa using h89
           have := hk10 hop
           have hbl0 : 0 < bs.length := by omega
           obtain ⟨v0, hb0⟩ : ∃ x, bs[0]? = some x := ⟨_, List.getElem?_eq_getElem hbl0⟩
           have hbl1 : 1 < bs.length := by omega
           obtain ⟨v1, hb1⟩ : ∃ x, bs[1]? = some x := ⟨_, List.getElem?_eq_getElem hbl1⟩
           have hbl2 : 2 < bs.length := by omega
           obtain ⟨v2, hb2⟩ : ∃ x, bs[2]? = some x := ⟨_, List.getElem?_eq_getElem hbl2⟩
           refine WC.know (φ := ∃ g, sa = some ⟨g, 0, none⟩ ∧ bs.length = bs.length ∧ bs.length ≤ sc) (fun w hS => rowc_addr (hS.ok (rowc (.slice sa bs.length sc) bs.length 4 1 (bls bs)) jM) (by omega)) (fun ⟨g8, hg8, _, _⟩ => ?_)
           subst hg8
           refine jN 5 ?_
           refine WL.indexAddr (i := 0) F.sl42 rfl rfl rfl (by omega) ?_
           refine jN 1 ?_
           refine WL.load1 F.one4 rfl rfl (v := .bool v0) (fun w hS => (by have h9 := rowc_cell (hS.ok (rowc (.slice (some ⟨g8, 0, none⟩) bs.length sc) bs.length 4 1 (bls bs)) jM) (bls_at (i := 0) hb0); simpa using h9)) ?_
           refine jN 2 ?_
           refine WA.splitB (i := 94) rfl (fun g94 => ?_) (fun g94 => ?_)
           ·refine jN 5 ?_
            refine WL.indexAddr (i := 1) F.sl42 rfl rfl rfl (by omega) ?_
            refine jN 2 ?_
            refine WL.load1 F.one4 rfl rfl (v := .bool v1) (fun w hS => (by have h9 := rowc_cell (hS.ok (rowc (.slice (some ⟨g8, 0, none⟩) bs.length sc) bs.length 4 1 (bls bs)) jM) (bls_at (i := 1) hb1); simpa using h9)) ?_
            refine jN 4 ?_
            refine WA.splitB (i := 99) rfl (fun g99 => ?_) (fun g99 => ?_)
            ·refine jN 27 ?_
             refine WQ.ret (rs := [.tmp 6]) rfl (.tmp rfl .nil) (fun w hS => ⟨?_, hS.sublist (List.nil_sublist _)⟩)
             rw [evT_eq, ← hbs]
             refine retB ?_
             have e : opV names t.op t.name bs (cfg M) = bif bs.getD 0 false then bs.getD 1 false else bs.getD 2 false := by (rw [hop]; rfl)
             rw [e]
             rw [List.getD_eq_getElem?_getD, List.getD_eq_getElem?_getD, List.getD_eq_getElem?_getD, hb0, hb1, hb2]
             simp_all
            ·refine jN 5 ?_
             refine WL.indexAddr (i := 0) F.sl42 rfl rfl rfl (by omega) ?_
             refine jN 2 ?_
             refine WL.load1 F.one4 rfl rfl (v := .bool v0) (fun w hS => (by have h9 := rowc_cell (hS.ok (rowc (.slice (some ⟨g8, 0, none⟩) bs.length sc) bs.length 4 1 (bls bs)) jM) (bls_at (i := 0) hb0); simpa using h9)) ?_
             refine jN 6 ?_
             refine WA.splitB (i := 104) rfl (fun g104 => ?_) (fun g104 => ?_)
             ·refine jN 5 ?_
              refine WL.indexAddr (i := 2) F.sl42 rfl rfl rfl (by omega) ?_
              refine jN 2 ?_
              refine WL.load1 F.one4 rfl rfl (v := .bool v2) (fun w hS => (by have h9 := rowc_cell (hS.ok (rowc (.slice (some ⟨g8, 0, none⟩) bs.length sc) bs.length 4 1 (bls bs)) jM) (bls_at (i := 2) hb2); simpa using h9)) ?_
              refine jN 12 ?_
              refine WQ.ret (rs := [.tmp 6]) rfl (.tmp rfl .nil) (fun w hS => ⟨?_, hS.sublist (List.nil_sublist _)⟩)
              rw [evT_eq, ← hbs]
              refine retB ?_
              have e : opV names t.op t.name bs (cfg M) = bif bs.getD 0 false then bs.getD 1 false else bs.getD 2 false := by (rw [hop]; rfl)
              rw [e]
              rw [List.getD_eq_getElem?_getD, List.getD_eq_getElem?_getD, List.getD_eq_getElem?_getD, hb0, hb1, hb2]
              simp_all
             ·refine jN 18 ?_
              refine WQ.ret (rs := [.tmp 6]) rfl (.tmp rfl .nil) (fun w hS => ⟨?_, hS.sublist (List.nil_sublist _)⟩)
              rw [evT_eq, ← hbs]
              refine retB ?_
              have e : opV names t.op t.name bs (cfg M) = bif bs.getD 0 false then bs.getD 1 false else bs.getD 2 false := by (rw [hop]; rfl)
              rw [e]
              rw [List.getD_eq_getElem?_getD, List.getD_eq_getElem?_getD, List.getD_eq_getElem?_getD, hb0, hb1, hb2]
              simp_all
           ·refine jN 15 ?_
            refine WL.indexAddr (i := 0) F.sl42 rfl rfl rfl (by omega) ?_
            refine jN 2 ?_
            refine WL.load1 F.one4 rfl rfl (v := .bool v0) (fun w hS => (by have h9 := rowc_cell (hS.ok (rowc (.slice (some ⟨g8, 0, none⟩) bs.length sc) bs.length 4 1 (bls bs)) jM) (bls_at (i := 0) hb0); simpa using h9)) ?_
            refine jN 6 ?_
            refine WA.splitB (i := 104) rfl (fun g104 => ?_) (fun g104 => ?_)
            ·refine jN 5 ?_
             refine WL.indexAddr (i := 2) F.sl42 rfl rfl rfl (by omega) ?_
             refine jN 2 ?_
             refine WL.load1 F.one4 rfl rfl (v := .bool v2) (fun w hS => (by have h9 := rowc_cell (hS.ok (rowc (.slice (some ⟨g8, 0, none⟩) bs.length sc) bs.length 4 1 (bls bs)) jM) (bls_at (i := 2) hb2); simpa using h9)) ?_
             refine jN 12 ?_
             refine WQ.ret (rs := [.tmp 6]) rfl (.tmp rfl .nil) (fun w hS => ⟨?_, hS.sublist (List.nil_sublist _)⟩)
             rw [evT_eq, ← hbs]
             refine retB ?_
             have e : opV names t.op t.name bs (cfg M) = bif bs.getD 0 false then bs.getD 1 false else bs.getD 2 false := by (rw [hop]; rfl)
             rw [e]
             rw [List.getD_eq_getElem?_getD, List.getD_eq_getElem?_getD, List.getD_eq_getElem?_getD, hb0, hb1, hb2]
             simp_all
            ·refine jN 18 ?_
             refine WQ.ret (rs := [.tmp 6]) rfl (.tmp rfl .nil) (fun w hS => ⟨?_, hS.sublist (List.nil_sublist _)⟩)
             rw [evT_eq, ← hbs]
             refine retB ?_
             have e : opV names t.op t.name bs (cfg M) = bif bs.getD 0 false then bs.getD 1 false else bs.getD 2 false := by (rw [hop]; rfl)
             rw [e]
             rw [List.getD_eq_getElem?_getD, List.getD_eq_getElem?_getD, List.getD_eq_getElem?_getD, hb0, hb1, hb2]
             simp_all
          ·have hn10 : ¬ t.op = 10 := by simpa using h89
           refine jN 10 ?_
           refine WQ.ret (rs := [.tmp 6]) rfl (.tmp rfl .nil) (fun w hS => ⟨?_, hS.sublist (List.nil_sublist _)⟩)
           rw [evT_eq]; refine retB ?_; unfold opV; rw [if_neg hn2, if_neg hn3, if_neg hn4, if_neg hn5, if_neg hn6, if_neg hn7, if_neg hn8, if_neg hn9, if_neg hn10]

theorem rTrue_c (names : List (List UInt8)) (na : Option Addr) (nc M : Nat) (hnl24 : names.length ≤ 24) : ∀ n, n ≤ 1099511627776 → TrueC names na nc M n
 | 0, _ => fun t wb G a c w hsz _ _ _ _ => by rw [Fm.rowT_eq] at hsz; simp at hsz
 | n + 1, h => True_step names na nc M hnl24 n (by omega) (rTrue_c names na nc M hnl24 n (by omega))

end Go.Proofs.YtkgllhkhdjodeaaGreat

namespace Go.Proofs.YtkgllhkhdjodeaaGreat
open Go Go.Eng Go.Proofs
end Go.Proofs.YtkgllhkhdjodeaaGreat

namespace Go.Proofs.YtkgllhkhdjodeaaGreat
open Go Go.Eng Go.Proofs
end Go.Proofs.YtkgllhkhdjodeaaGreat

namespace Go.Proofs.YtkgllhkhdjodeaaGreat
open Go Go.Eng Go.Proofs
def usedStep (acc : List (List UInt8)) (t : Tree) : List (List UInt8) := if t.op == 3 && !acc.contains t.name then acc ++ [t.name] else acc
def usedF (ts : List Tree) : List (List UInt8) := ts.foldl usedStep []
theorem usedStep_len (acc : List (List UInt8)) (t : Tree) : (usedStep acc t).length ≤ acc.length + 1 := by
 unfold usedStep; split
 ·simp
 ·omega
theorem used_len : ∀ (ts : List Tree) (acc : List (List UInt8)), (ts.foldl usedStep acc).length ≤ acc.length + ts.length
 | [], acc => Nat.le_refl _
 | t :: ts, acc => by
  have h1 := used_len ts (usedStep acc t)
  have h2 := usedStep_len acc t
  simp only [List.foldl_cons, List.length_cons]
  omega
theorem used_take {ts : List Tree} {i : Nat} {k : Tree} {acc : List (List UInt8)} (hk : ts[i]? = some k) : (ts.take (i + 1)).foldl usedStep acc = usedStep ((ts.take i).foldl usedStep acc) k := by
 rw [List.take_add_one, hk, List.foldl_append]; rfl

structure US where
 i : Nat
 out : List (List UInt8)
 ad2 : Option Addr
 ac2 : Nat

theorem Used_c (t : Tree) (wb : World) (G : List Nat) (a : Option Addr) (c : Nat) (w : World) (hsz : (Fm.rowT t).length ≤ 1099511627776) (hr : rdT wb t G (tv t a c)) (hE : Ext wb w) :
  Calls Tryz.prog 38 [tv t a c].toArray w fun e w' => ∃ x : Option Addr × Nat, e = .returned (.slice x.1 (usedF (Fm.rowT t)).length x.2) ∧ St w [] [rowc (.slice x.1 (usedF (Fm.rowT t)).length x.2) (usedF (Fm.rowT t)).length 9 1 (strs (usedF (Fm.rowT t)))] w' := by
 refine enter Tryz.func38 rfl Tryz.ntmps38 rfl (St.init _) ?_
 refine jN 3 ?_
 refine WL.boxN rfl rfl (fun b1 => ?_)
 refine jN 9 ?_
 refine jC (β := { y : Option Addr × Nat × List Value // NodesOk wb (Fm.rowT t) y.2.2 }) (res := fun x => .slice x.1.1 (Fm.rowT t).length x.1.2.1) (cs := fun x => [rowc (.slice x.1.1 (Fm.rowT t).length x.1.2.1) (Fm.rowT t).length 24 3 (flat x.1.2.2)]) F.fun70 rfl (fun w hS _ => Row_c _ hsz t wb G a c w (Nat.le_refl _) hr (hE.st hS)) (fun y6 => ?_)
 obtain ⟨⟨ad, cap, vs⟩, hok⟩ := y6
 refine WA.know (φ := ∃ g, ad = some ⟨g, 0, none⟩ ∧ (Fm.rowT t).length = (Fm.rowT t).length ∧ (Fm.rowT t).length ≤ cap) (fun w hS => rowc_addr (hS.ok (rowc (.slice ad (Fm.rowT t).length cap) (Fm.rowT t).length 24 3 (flat vs)) jM) (by rw [Fm.rowT_eq]; simp)) (fun ⟨g, hg, _, _⟩ => ?_)
 subst hg
 refine jN 18 ?_
 refine WC.chunks (fun w hS => (hS.rowNil 9 1)) ?_
 refine WC.loop (α := US) (fun g => g.i ≤ (Fm.rowT t).length ∧ g.out = ((Fm.rowT t).take g.i).foldl usedStep []) (fun s => [(1, pp b1), (3, .slice (some ⟨g, 0, none⟩) (Fm.rowT t).length cap), (4, .slice s.ad2 s.out.length s.ac2), (5, .int .i64 (s.i : Int))]) (fun s => [rowc (.slice s.ad2 s.out.length s.ac2) s.out.length 9 1 (strs s.out), rowc (.slice (some ⟨g, 0, none⟩) (Fm.rowT t).length cap) (Fm.rowT t).length 24 3 (flat vs), pt b1 [Value.int .u8 t.op, .string (str t.name), .slice a t.kids.length c] 24]) (fun s => (Fm.rowT t).length - s.i) (⟨0, [], none, 0⟩) ?_ ?_ ?_ ?_
 ·exact ⟨Nat.zero_le _, rfl⟩
 ·exact ⟨rfl, rfl, rfl, rfl, trivial⟩
 ·rfl
 rintro ⟨i, out, ad2, ac2⟩ ⟨hi, hout⟩
 dsimp only at hi hout
 show WC _ _ _ _ _ _ _ [(1, pp b1), (3, .slice (some ⟨g, 0, none⟩) (Fm.rowT t).length cap), (4, .slice ad2 out.length ac2), (5, .int .i64 (i : Int))] [rowc (.slice ad2 out.length ac2) out.length 9 1 (strs out), rowc (.slice (some ⟨g, 0, none⟩) (Fm.rowT t).length cap) (Fm.rowT t).length 24 3 (flat vs), pt b1 [Value.int .u8 t.op, .string (str t.name), .slice a t.kids.length c] 24]
 have hol : out.length ≤ i := by rw [hout]; exact Nat.le_trans (used_len _ _) (by simp; omega)
 refine jN 13 ?_
 refine WC.cond rfl (fun h11 => ?_) (fun h11 => ?_)
 ·have hlt : i < (Fm.rowT t).length := by simpa using h11
  obtain ⟨k, hk⟩ : ∃ k, (Fm.rowT t)[i]? = some k := ⟨_, List.getElem?_eq_getElem hlt⟩
  obtain ⟨F1, a1, c1, hv1, hrk⟩ := hok.at hk
  refine jN 5 ?_
  refine WC.cutF [(29, .bool (k.op == 3 && !out.contains k.name)), (1, pp b1), (3, .slice (some ⟨g, 0, none⟩) (Fm.rowT t).length cap), (4, .slice ad2 out.length ac2), (5, .int .i64 (i : Int))] (fun Q' hQ => ?_) ?_
  ·refine jN 6 ?_
   refine WL.indexAddr F.sl22 rfl rfl rfl hlt ?_
   refine jN 1 ?_
   refine WL.fieldAddr F.fld24_0 rfl rfl ?_
   refine jN 1 ?_
   refine WL.load1 F.one5 rfl rfl (v := .int .u8 k.op) (fun w hS => by rw [Nat.zero_add]; exact rowc_cells (hS.ok (rowc (.slice (some ⟨g, 0, none⟩) (Fm.rowT t).length cap) (Fm.rowT t).length 24 3 (flat vs)) jM) (hok.flat_at hv1 0 _ rfl)) ?_
   refine jN 4 ?_
   refine WA.splitB (i := 20) rfl (fun g20 => ?_) (fun g20 => ?_)
   ·refine jN 11 ?_
    refine WL.indexAddr F.sl22 rfl rfl rfl hlt ?_
    refine jN 2 ?_
    refine WL.fieldAddr F.fld24_1 rfl rfl ?_
    refine jN 2 ?_
    refine WL.load1 F.one9 rfl rfl (v := .string (str k.name)) (fun w hS => by rw [Nat.zero_add]; exact rowc_cells (hS.ok (rowc (.slice (some ⟨g, 0, none⟩) (Fm.rowT t).length cap) (Fm.rowT t).length 24 3 (flat vs)) jM) (hok.flat_at hv1 1 _ rfl)) ?_
    refine jN 2 ?_
    refine jC (β := { r : Int // decide (r < 0) = !out.contains k.name }) (res := fun r => .int .i64 r.1) (cs := fun _ => []) F.fun47 rfl (fun w hS _ => Index_c out k.name ad2 ac2 (by omega) w (RdS.of_row rfl (hS.ok (rowc (.slice ad2 out.length ac2) out.length 9 1 (strs out)) jM))) (fun x27 => ?_)
    refine jN 6 ?_
    refine WQ.byCut hQ (subF_bool ?_ ⟨rfl, rfl, rfl, rfl, trivial⟩ rfl)
    first | (rw [g20, Bool.true_and]; exact x27.2.symm) | (rw [g20, Bool.false_and])
   ·refine jN 19 ?_
    refine WQ.byCut hQ (subF_bool ?_ ⟨rfl, rfl, rfl, rfl, trivial⟩ rfl)
    first | (rw [g20, Bool.true_and]; exact x27.2.symm) | (rw [g20, Bool.false_and])
  refine jN 1 ?_
  refine WC.cond rfl (fun h29 => ?_) (fun h29 => ?_)
  ·refine jN 8 ?_
   refine WL.indexAddr F.sl22 rfl rfl rfl hlt ?_
   refine jN 1 ?_
   refine WL.fieldAddr F.fld24_1 rfl rfl ?_
   refine jN 1 ?_
   refine WL.load1 F.one9 rfl rfl (v := .string (str k.name)) (fun w hS => by rw [Nat.zero_add]; exact rowc_cells (hS.ok (rowc (.slice (some ⟨g, 0, none⟩) (Fm.rowT t).length cap) (Fm.rowT t).length 24 3 (flat vs)) jM) (hok.flat_at hv1 1 _ rfl)) ?_
   refine jN 1 ?_
   refine WL.buildSlice F.sl25 F.ez25 rfl rfl rfl rfl jB rfl (fun b36 => ?_)
   refine jN 1 ?_
   refine WL.appendE (news := [.string (str k.name)]) F.el25 rfl rfl rfl jR (fun w hS jj u hu => by rw [Nat.zero_add]; exact hS.cell (cs := [.string (str k.name)]) jM hu) rfl jO (Nat.le_trans (m := 1099511627777) (by omega) (by decide)) (by omega) (fun ad4 ac4 => ?_)
   refine jN 13 ?_
   refine WQ.say 4 (.slice ad4 (out ++ [k.name]).length ac4) (by rw [List.length_append]; rfl) ?_
   refine WQ.chunks (C' := [rowc (.slice ad4 (out ++ [k.name]).length ac4) (out ++ [k.name]).length 9 1 (strs (out ++ [k.name])), rowc (.slice (some ⟨g, 0, none⟩) (Fm.rowT t).length cap) (Fm.rowT t).length 24 3 (flat vs), pt b1 [Value.int .u8 t.op, .string (str t.name), .slice a t.kids.length c] 24]) (fun w hS => ?_) ?_
   ·have hol2 : (out ++ [k.name]).length = out.length + 1 := by simp
    rw [hol2, strs, List.map_append]
    exact (jK hS)
   refine WQ.back (⟨i + 1, out ++ [k.name], ad4, ac4⟩) ?_ ?_ ?_ ?_
   ·exact ⟨by show i + 1 ≤ _; omega, by show _ = ((Fm.rowT t).take (i + 1)).foldl usedStep []; rw [used_take hk, ← hout]; unfold usedStep; rw [h29]; rfl⟩
   ·(show (Fm.rowT t).length - (i + 1) < (Fm.rowT t).length - i; omega)
   ·exact ⟨rfl, rfl, rfl, rfl, trivial⟩
   ·rfl
  ·refine jN 11 ?_
   refine WQ.back (⟨i + 1, out, ad2, ac2⟩) ?_ ?_ ?_ ?_
   ·exact ⟨by show i + 1 ≤ _; omega, by show _ = ((Fm.rowT t).take (i + 1)).foldl usedStep []; rw [used_take hk, ← hout]; unfold usedStep; rw [h29]; rfl⟩
   ·(show (Fm.rowT t).length - (i + 1) < (Fm.rowT t).length - i; omega)
   ·exact ⟨rfl, rfl, rfl, rfl, trivial⟩
   ·rfl
 ·have hie : i = (Fm.rowT t).length := by simp at h11; omega
  subst hie
  rw [List.take_length] at hout
  refine jN 14 ?_
  exact WQ.ret (rs := [.tmp 2]) rfl (.tmp rfl .nil) (fun w hS => ⟨(ad2, ac2), by rw [show usedF (Fm.rowT t) = out from hout.symm]; rfl, by rw [show usedF (Fm.rowT t) = out from hout.symm]; exact (jK hS)⟩)

end Go.Proofs.YtkgllhkhdjodeaaGreat

/-! Whether a formula and names may be. -/
namespace Go.Proofs.YtkgllhkhdjodeaaGreat
open Go Go.Eng Go.Proofs Dg
def knownB (t : Tree) (names : List (List UInt8)) : Bool := (usedF (Fm.rowT t)).all (fun s => names.contains s)
def mayD (t : Tree) (names : List (List UInt8)) : Int := if Fm.validB t = false then 2 else if namesE names ≠ 0 then namesE names else if knownB t names then 0 else 6
theorem used_keep : ∀ (ts : List Tree) (acc : List (List UInt8)) (s : List UInt8), s ∈ acc → s ∈ ts.foldl usedStep acc
 | [], _, _, h => h
 | t :: ts, acc, s, h => used_keep ts _ s (by
  unfold usedStep; split
  ·exact List.mem_append_left _ h
  ·exact h)
theorem used_has : ∀ (ts : List Tree) (acc : List (List UInt8)) (k : Tree), k ∈ ts → k.op = 3 → k.name ∈ ts.foldl usedStep acc
 | t :: ts, acc, k, h, h3 => by
  rcases List.mem_cons.1 h with rfl | h
  ·refine used_keep ts _ _ ?_
   unfold usedStep
   cases hc : acc.contains k.name with
   | true =>
    rw [if_neg (by simp)]
    rw [List.contains_iff_exists_mem_beq] at hc
    obtain ⟨y, hy, he⟩ := hc
    have : k.name = y := by simpa using he
    rw [this]; exact hy
   | false =>
    rw [if_pos (by simp [h3])]
    exact List.mem_append_right _ (List.mem_singleton.2 rfl)
  ·exact used_has ts _ k h h3
theorem validB_all {t : Tree} (h : Fm.validB t = true) : (Fm.rowT t).all Fm.rightB = true ∧ (Fm.rowT t).length ≤ 1000 := by
 rw [← Fm.refValid_eq] at h
 unfold Fm.refValid at h
 simp only [Bool.and_eq_true, decide_eq_true_eq] at h
 obtain ⟨⟨h1, h2⟩, _⟩ := h
 refine ⟨List.all_eq_true.2 fun k hk => ?_, h2⟩
 rw [← Fm.oneB_right]
 exact List.all_eq_true.1 h1 k hk
theorem okT_of {t : Tree} {names : List (List UInt8)} (h : Fm.validB t = true) (hk : knownB t names = true) : okT names t := fun k hm =>
 ⟨List.all_eq_true.1 (validB_all h).1 k hm, fun h3 => List.all_eq_true.1 hk _ (used_has _ _ _ hm h3)⟩
theorem names24 {names : List (List UInt8)} (h : namesE names = 0) : names.length ≤ 24 := by
 unfold namesE at h
 split at h
 ·cases h
 ·omega
theorem mayD_zero {t : Tree} {names : List (List UInt8)} : mayD t names = 0 ↔ Fm.validB t = true ∧ namesE names = 0 ∧ knownB t names = true := by
 unfold mayD
 cases Fm.validB t with
 | false => simp
 | true =>
  by_cases h : namesE names = 0
  ·rw [h]; cases knownB t names <;> simp
  ·simp [h]
theorem known_take {t : Tree} {names : List (List UInt8)} {i : Nat} {s : List UInt8} (h : (usedF (Fm.rowT t))[i]? = some s) (hp : ((usedF (Fm.rowT t)).take i).all (fun s => names.contains s) = true) : ((usedF (Fm.rowT t)).take (i + 1)).all (fun s => names.contains s) = names.contains s := by
 rw [List.take_add_one, h, List.all_append, hp]; simp
theorem known_not {t : Tree} {names : List (List UInt8)} {i : Nat} {s : List UInt8} (h : (usedF (Fm.rowT t))[i]? = some s) (hn : names.contains s = false) : knownB t names = false := by
 cases hk : knownB t names with
 | false => rfl
 | true =>
  have := List.all_eq_true.1 hk s (List.mem_of_getElem? h)
  rw [hn] at this; cases this
end Go.Proofs.YtkgllhkhdjodeaaGreat

namespace Go.Proofs.YtkgllhkhdjodeaaGreat
open Go Go.Eng Go.Proofs
theorem und119 : Tryz.prog.underlying 161 = some (.map 9 4) := by kernel_rfl
theorem und9k : Tryz.prog.underlying 9 = some .string := by kernel_rfl
theorem zero4 (w : World) : (zeroValue 4).run Tryz.prog w = .ok (.bool false) w := by kernel_rfl
def NC (bx bn bm : Nat) (ks : List (List UInt8)) (ad : Option Addr) (ac : Nat) : List Chunk := [pt bx [.map (some bm)] 161, pt bn [.slice ad ks.length ac] 25, mpc bm ks, rowc (.slice ad ks.length ac) ks.length 9 1 (strs ks)]
def NO (bx bn bm n : Nat) (ad : Option Addr) (ac : Nat) : List Nat := bx :: bn :: bm :: ob (.slice ad n ac)
theorem NC_O1 {bx bn bm : Nat} {ks : List (List UInt8)} {ad : Option Addr} {ac : Nat} : ∀ c ∈ NC bx bn bm ks ad ac, ∀ k, c.fp k → k ∈ NO bx bn bm ks.length ad ac := by
 intro c hc k hk
 simp only [NC, List.mem_cons, List.not_mem_nil, or_false] at hc
 rcases hc with rfl | rfl | rfl | rfl
 ·have : k = bx := hk
  simp [NO, this]
 ·have : k = bn := hk
  simp [NO, this]
 ·have : k = bm := hk
  simp [NO, this]
 ·have : (Value.slice ad ks.length ac).ownBlock = some k := hk
  simp [NO, ob, this]
theorem NC_O2 {bx bn bm : Nat} {ks : List (List UInt8)} {ad : Option Addr} {ac : Nat} : ∀ k ∈ NO bx bn bm ks.length ad ac, ∃ c ∈ NC bx bn bm ks ad ac, c.fp k := by
 intro k hk
 simp only [NO, List.mem_cons] at hk
 rcases hk with rfl | rfl | rfl | hk
 ·exact ⟨pt k [.map (some bm)] 161, by simp [NC], rfl⟩
 ·exact ⟨pt k [.slice ad ks.length ac] 25, by simp [NC], rfl⟩
 ·exact ⟨mpc k ks, by simp [NC], rfl⟩
 ·refine ⟨rowc (.slice ad ks.length ac) ks.length 9 1 (strs ks), by simp [NC], ?_⟩
  show (Value.slice ad ks.length ac).ownBlock = some k
  unfold ob at hk
  split at hk
  ·rename_i b hb
   simp at hk; rw [hb, hk]
  ·simp at hk
theorem NC_sep {bx bn bm : Nat} {ks : List (List UInt8)} {ad : Option Addr} {ac z : Nat} {w0 w : World} {O : List Nat} {C : List Chunk} (hS : St w0 O (NC bx bn bm ks ad ac ++ C) w) (h1 : z < w0.heap.size) (h2 : z ∉ O) : z ∉ NO bx bn bm ks.length ad ac := fun hz => by
 obtain ⟨c, hc, hf⟩ := NC_O2 z hz
 exact h2 ((hS.bnd c (List.mem_append_left _ hc) z hf).2 h1)

theorem NamesF_c (t : Tree) (a : Option Addr) (c : Nat) (bx bn bm : Nat) (ks : List (List UInt8)) (ad : Option Addr) (ac : Nat) (w : World) (O : List Nat) (hks : ks.length ≤ 1099511627776) (hS0 : St w O (NC bx bn bm ks ad ac) w) :
  Calls Tryz.prog 97 [tv t a c, pp bx, pp bn].toArray w fun e w' => ∃ x : Option Addr × Nat, e = .returned (.tuple #[]) ∧ St w O (NC bx bn bm (usedStep ks t) x.1 x.2) w' := by
 refine enter Tryz.func97 rfl Tryz.ntmps97 rfl (C := [pt bx [.map (some bm)] 161, pt bn [.slice ad ks.length ac] 25, mpc bm ks, rowc (.slice ad ks.length ac) ks.length 9 1 (strs ks)]) hS0 ?_
 refine jN 3 ?_
 refine WL.boxN rfl rfl (fun b3 => ?_)
 refine jN 3 ?_
 refine WC.cutF [(13, .bool (t.op == 3 && !ks.contains t.name)), (1, pp bx), (2, pp bn), (3, pp b3)] (fun Q' hQ => ?_) ?_
 ·refine jN 9 ?_
  refine WA.splitB (i := 7) rfl (fun g7 => ?_) (fun g7 => ?_)
  ·refine jN 11 ?_
   refine WL.lookupM und119 und9k und4b zero4 rfl rfl rfl jM ?_
   refine jN 6 ?_
   refine WQ.byCut hQ (subF_bool ?_ ⟨rfl, rfl, rfl, trivial⟩ rfl)
   first | (rw [g7, Bool.true_and]) | (rw [g7, Bool.false_and])
  ·refine jN 13 ?_
   refine WQ.byCut hQ (subF_bool ?_ ⟨rfl, rfl, rfl, trivial⟩ rfl)
   first | (rw [g7, Bool.true_and]) | (rw [g7, Bool.false_and])
 refine jN 1 ?_
 refine WC.cond rfl (fun h13 => ?_) (fun h13 => ?_)
 ·have hno : ks.contains t.name = false := by (simp at h13; simpa using h13.2)
  refine jN 9 ?_
  refine WL.mapPut und119 und9k rfl rfl rfl hno jU ?_
  refine jN 10 ?_
  refine WL.buildSlice F.sl25 F.ez25 rfl rfl rfl rfl jB rfl (fun b20 => ?_)
  refine jN 1 ?_
  refine WL.appendE (news := [.string (str t.name)]) F.el25 rfl rfl rfl jR (fun w hS jj u hu => by rw [Nat.zero_add]; exact hS.cell (cs := [.string (str t.name)]) jM hu) rfl jO (Nat.le_trans (m := 1099511627777) (by omega) (by decide)) (by omega) (fun ad4 ac4 => ?_)
  refine jN 3 ?_
  refine WQ.fin (rs := []) rfl .nil (fun w hS => ?_)
  have hst : usedStep ks t = ks ++ [t.name] := by unfold usedStep; rw [if_pos h13]
  have hol : (ks ++ [t.name]).length = ks.length + 1 := by simp
  refine ⟨(ad4, ac4), rfl, ?_⟩
  rw [hst]
  unfold NC
  rw [hol, strs, List.map_append]
  exact (jK hS)
 ·refine jN 1 ?_
  refine WQ.fin (rs := []) rfl .nil (fun w hS => ?_)
  have hst : usedStep ks t = ks := by unfold usedStep; rw [if_neg (by rw [h13]; decide)]
  refine ⟨(ad, ac), rfl, ?_⟩
  rw [hst]
  exact (jK hS)

end Go.Proofs.YtkgllhkhdjodeaaGreat

namespace Go.Proofs.YtkgllhkhdjodeaaGreat
open Go Go.Eng Go.Proofs
def WalkN (n : Nat) : Prop := ∀ (t : Tree) (G : List Nat) (a : Option Addr) (c : Nat) (bx bn bm : Nat) (ks : List (List UInt8)) (ad : Option Addr) (ac : Nat) (w : World) (O : List Nat), (Fm.rowT t).length ≤ n → ks.length + (Fm.rowT t).length ≤ 1099511627776 → rdT w t G (tv t a c) → (∀ k ∈ G, k ∉ O) → St w O (NC bx bn bm ks ad ac) w →
 Calls Tryz.prog 96 [tv t a c, Value.func (.func 97) [].toArray [pp bx, pp bn].toArray].toArray w fun e w' => ∃ x : Option Addr × Nat, e = .returned (.tuple #[]) ∧ St w O (NC bx bn bm ((Fm.rowT t).foldl usedStep ks) x.1 x.2) w'
structure WN where
 i : Nat
 ks : List (List UInt8)
 ad : Option Addr
 ac : Nat

theorem WalkN_step (n : Nat) (hn : n ≤ 1099511627776) (hrec : WalkN n) : WalkN (n + 1) := by
 intro t G a c bx bn bm ks ad ac w O hsz hkl hr hGO hS0
 refine enter Tryz.func96 rfl Tryz.ntmps96 rfl (C := [pt bx [.map (some bm)] 161, pt bn [.slice ad ks.length ac] 25, mpc bm ks, rowc (.slice ad ks.length ac) ks.length 9 1 (strs ks)]) hS0 ?_
 refine jN 3 ?_
 refine WL.boxN rfl rfl (fun b2 => ?_)
 refine jN 9 ?_
 refine WA.chunks (C' := [pt bx [.map (some bm)] 161, pt bn [.slice ad ks.length ac] 25, mpc bm ks, rowc (.slice ad ks.length ac) ks.length 9 1 (strs ks), pt b2 [Value.int .u8 t.op, .string (str t.name), .slice a t.kids.length c] 24]) (fun w hS => (jK hS)) ?_
 refine WL.callFC (β := Option Addr × Nat) (res := fun _ => .tuple #[]) (cs := fun x => [pt bx [.map (some bm)] 161, pt bn [.slice x.1 (usedStep ks t).length x.2] 25, mpc bm (usedStep ks t), rowc (.slice x.1 (usedStep ks t).length x.2) (usedStep ks t).length 9 1 (strs (usedStep ks t))]) (Cs := [pt bx [.map (some bm)] 161, pt bn [.slice ad ks.length ac] 25, mpc bm ks, rowc (.slice ad ks.length ac) ks.length 9 1 (strs ks)]) (C1 := [pt b2 [Value.int .u8 t.op, .string (str t.name), .slice a t.kids.length c] 24]) (O' := NO bx bn bm ks.length ad ac) (us := []) (cap := [pp bx, pp bn]) F.fun97 (fun d h => by cases h; rfl) rfl rfl (List.Perm.refl _) NC_O1 NC_O2 (fun w hS hS2 => NamesF_c t a c bx bn bm ks ad ac w _ (by omega) hS2) (fun x8 => ?_)
 obtain ⟨ad1, ac1⟩ := x8
 have hu1 := usedStep_len ks t
 have hrl : (Fm.rowT t).length = (Fm.rowL t.kids).length + 1 := by rw [Fm.rowT_eq t]; rfl
 refine jN 15 ?_
 refine WC.loop (α := WN) (fun g => g.i ≤ t.kids.length ∧ g.ks = (Fm.rowL (t.kids.take g.i)).foldl usedStep (usedStep ks t)) (fun g => [(1, Value.func (.func 97) [].toArray [pp bx, pp bn].toArray), (2, pp b2), (10, .slice a t.kids.length c), (11, .int .i64 (t.kids.length : Int)), (12, .int .i64 (g.i : Int))]) (fun g => [pt bx [.map (some bm)] 161, pt bn [.slice g.ad g.ks.length g.ac] 25, mpc bm g.ks, rowc (.slice g.ad g.ks.length g.ac) g.ks.length 9 1 (strs g.ks), pt b2 [Value.int .u8 t.op, .string (str t.name), .slice a t.kids.length c] 24]) (fun g => t.kids.length - g.i) (⟨0, usedStep ks t, ad1, ac1⟩) ?_ ?_ ?_ ?_
 ·exact ⟨Nat.zero_le _, rfl⟩
 ·exact ⟨rfl, rfl, rfl, rfl, rfl, trivial⟩
 ·rfl
 rintro ⟨i, kt, ad2, ac2⟩ ⟨hi, hkt⟩
 dsimp only at hi hkt
 show WC _ _ _ _ _ _ _ [(1, Value.func (.func 97) [].toArray [pp bx, pp bn].toArray), (2, pp b2), (10, .slice a t.kids.length c), (11, .int .i64 (t.kids.length : Int)), (12, .int .i64 (i : Int))] [pt bx [.map (some bm)] 161, pt bn [.slice ad2 kt.length ac2] 25, mpc bm kt, rowc (.slice ad2 kt.length ac2) kt.length 9 1 (strs kt), pt b2 [Value.int .u8 t.op, .string (str t.name), .slice a t.kids.length c] 24]
 have hul := used_len (Fm.rowL (t.kids.take i)) (usedStep ks t)
 rw [← hkt] at hul
 have htl := Fm.rowL_take_le t.kids i
 refine jN 7 ?_
 refine WC.cond rfl (fun h13 => ?_) (fun h13 => ?_)
 ·have hlt : i < t.kids.length := by simpa using h13
  obtain ⟨k, hk⟩ : ∃ k, t.kids[i]? = some k := ⟨_, List.getElem?_eq_getElem hlt⟩
  obtain ⟨b, off, F1, a1, c1, rfl, hb, hF1, hrk, hck⟩ := rdT_at hr hk
  have hks := Fm.rowT_kid hk
  have hkl := Fm.kids_le t
  have hbO := hGO b hb
  have htl2 := Fm.rowL_take_le t.kids (i + 1)
  rw [Fm.rowL_take hk, List.length_append] at htl2
  refine jN 7 ?_
  refine WL.indexAddr F.sl22 rfl rfl rfl hlt ?_
  refine jN 1 ?_
  refine WL.loadN F.agg24 rfl rfl (vs := [Value.int .u8 k.op, .string (str k.name), .slice a1 k.kids.length c1]) rfl (fun w hS j v hv => hS.oldc (hck j v hv) hbO) ?_
  refine jN 1 ?_
  refine WL.alloc F.zero24 rfl (fun b5 => ?_)
  refine jN 10 ?_
  refine WA.chunks (C' := [pt bx [.map (some bm)] 161, pt bn [.slice ad2 kt.length ac2] 25, mpc bm kt, rowc (.slice ad2 kt.length ac2) kt.length 9 1 (strs kt), pt b5 [Value.int .u8 k.op, .string (str k.name), .slice a1 k.kids.length c1] 24, pt b2 [Value.int .u8 t.op, .string (str t.name), .slice (some ⟨b, off, none⟩) t.kids.length c] 24]) (fun w hS => (jK hS)) ?_
  refine WL.callC (β := Option Addr × Nat) (res := fun _ => .tuple #[]) (cs := fun x => [pt bx [.map (some bm)] 161, pt bn [.slice x.1 ((Fm.rowT k).foldl usedStep kt).length x.2] 25, mpc bm ((Fm.rowT k).foldl usedStep kt), rowc (.slice x.1 ((Fm.rowT k).foldl usedStep kt).length x.2) ((Fm.rowT k).foldl usedStep kt).length 9 1 (strs ((Fm.rowT k).foldl usedStep kt))]) (Cs := [pt bx [.map (some bm)] 161, pt bn [.slice ad2 kt.length ac2] 25, mpc bm kt, rowc (.slice ad2 kt.length ac2) kt.length 9 1 (strs kt)]) (C1 := [pt b5 [Value.int .u8 k.op, .string (str k.name), .slice a1 k.kids.length c1] 24, pt b2 [Value.int .u8 t.op, .string (str t.name), .slice (some ⟨b, off, none⟩) t.kids.length c] 24]) (O' := NO bx bn bm kt.length ad2 ac2) F.fun96 (fun d h => by cases h; rfl) rfl (List.Perm.refl _) NC_O1 NC_O2 (fun w hS hS2 => hrec k F1 a1 c1 bx bn bm kt ad2 ac2 w _ (by omega) (by omega) (hS.oldT hrk (fun z hz => ⟨rdT_lt hrk z hz, hGO z (hF1 z hz)⟩)) (fun z hz => NC_sep hS (rdT_lt hrk z hz) (hGO z (hF1 z hz))) hS2) (fun x18 => ?_)
  refine jN 9 ?_
  obtain ⟨ad5, ac5⟩ := x18
  refine WQ.chunks (C' := [pt bx [.map (some bm)] 161, pt bn [.slice ad5 ((Fm.rowT k).foldl usedStep kt).length ac5] 25, mpc bm ((Fm.rowT k).foldl usedStep kt), rowc (.slice ad5 ((Fm.rowT k).foldl usedStep kt).length ac5) ((Fm.rowT k).foldl usedStep kt).length 9 1 (strs ((Fm.rowT k).foldl usedStep kt)), pt b2 [Value.int .u8 t.op, .string (str t.name), .slice (some ⟨b, off, none⟩) t.kids.length c] 24]) (fun w hS => (jK hS)) ?_
  refine WQ.back (⟨i + 1, (Fm.rowT k).foldl usedStep kt, ad5, ac5⟩) ?_ ?_ ?_ ?_
  ·exact ⟨by show i + 1 ≤ _; omega, by show _ = (Fm.rowL (t.kids.take (i + 1))).foldl usedStep _; rw [Fm.rowL_take hk, List.foldl_append, ← hkt]⟩
  ·(show t.kids.length - (i + 1) < t.kids.length - i; omega)
  ·exact ⟨rfl, rfl, rfl, rfl, rfl, trivial⟩
  ·rfl
 ·have hie : i = t.kids.length := by simp at h13; omega
  subst hie
  rw [List.take_length] at hkt
  refine jN 4 ?_
  refine WQ.fin (rs := []) rfl .nil (fun w hS => ?_)
  refine ⟨(ad2, ac2), rfl, ?_⟩
  rw [Fm.rowT_eq t, List.foldl_cons, ← hkt]
  exact (jK hS)

theorem WalkN_c : ∀ n, n ≤ 1099511627776 → WalkN n
 | 0, _ => fun t G a c bx bn bm ks ad ac w O hsz => by rw [Fm.rowT_eq] at hsz; simp at hsz
 | n + 1, h => WalkN_step n (by omega) (WalkN_c n (by omega))

theorem Names_c (t : Tree) (G : List Nat) (a : Option Addr) (c : Nat) (w : World) (hsz : (Fm.rowT t).length ≤ 1099511627776) (hr : rdT w t G (tv t a c)) :
  Calls Tryz.prog 44 [tv t a c].toArray w fun e w' => ∃ x : Option Addr × Nat, e = .returned (.slice x.1 (usedF (Fm.rowT t)).length x.2) ∧ St w [] [rowc (.slice x.1 (usedF (Fm.rowT t)).length x.2) (usedF (Fm.rowT t)).length 9 1 (strs (usedF (Fm.rowT t)))] w' := by
 refine enter Tryz.func44 rfl Tryz.ntmps44 rfl (St.init _) ?_
 refine jN 3 ?_
 refine WL.boxN rfl rfl (fun b1 => ?_)
 refine jN 7 ?_
 refine WL.alloc F.zero25 rfl (fun b3 => ?_)
 refine jN 5 ?_
 refine WL.makeMap rfl (fun b5 => ?_)
 refine jN 1 ?_
 refine WL.alloc F.zero161 rfl (fun b4 => ?_)
 refine jN 10 ?_
 refine WA.chunks (fun w hS => (hS.rowNil 9 1)) ?_
 refine jN 1 ?_
 refine WA.chunks (C' := [pt b4 [.map (some b5)] 161, pt b3 [.slice none ([] : List (List UInt8)).length 0] 25, mpc b5 ([] : List (List UInt8)), rowc (.slice none ([] : List (List UInt8)).length 0) ([] : List (List UInt8)).length 9 1 (strs ([] : List (List UInt8))), pt b1 [Value.int .u8 t.op, .string (str t.name), .slice a t.kids.length c] 24]) (fun w hS => (jK hS)) ?_
 refine WL.callC (β := Option Addr × Nat) (res := fun _ => .tuple #[]) (cs := fun x => [pt b4 [.map (some b5)] 161, pt b3 [.slice x.1 ((Fm.rowT t).foldl usedStep []).length x.2] 25, mpc b5 ((Fm.rowT t).foldl usedStep []), rowc (.slice x.1 ((Fm.rowT t).foldl usedStep []).length x.2) ((Fm.rowT t).foldl usedStep []).length 9 1 (strs ((Fm.rowT t).foldl usedStep []))]) (Cs := [pt b4 [.map (some b5)] 161, pt b3 [.slice none ([] : List (List UInt8)).length 0] 25, mpc b5 ([] : List (List UInt8)), rowc (.slice none ([] : List (List UInt8)).length 0) ([] : List (List UInt8)).length 9 1 (strs ([] : List (List UInt8)))]) (C1 := [pt b1 [Value.int .u8 t.op, .string (str t.name), .slice a t.kids.length c] 24]) (O' := NO b4 b3 b5 ([] : List (List UInt8)).length none 0) F.fun96 (fun d h => by cases h; rfl) rfl (List.Perm.refl _) NC_O1 NC_O2 (fun w hS hS2 => WalkN_c _ hsz t G a c b4 b3 b5 [] none 0 w _ (Nat.le_refl _) (by simpa using hsz) (hS.oldT hr (fun z hz => ⟨rdT_lt hr z hz, by simp⟩)) (fun z hz => NC_sep hS (rdT_lt hr z hz) (by simp)) hS2) (fun x8 => ?_)
 obtain ⟨ad1, ac1⟩ := x8
 refine jN 11 ?_
 exact WQ.ret (rs := [.tmp 2]) rfl (.tmp rfl .nil) (fun w hS => ⟨(ad1, ac1), rfl, (jK hS)⟩)

end Go.Proofs.YtkgllhkhdjodeaaGreat

namespace Go.Proofs.YtkgllhkhdjodeaaGreat
open Go Go.Eng Go.Proofs Dg
theorem strs_at {l : List (List UInt8)} {i : Nat} {s : List UInt8} (h : l[i]? = some s) : (strs l)[i]? = some (.string (str s)) := by
  unfold strs; rw [List.getElem?_map, h]; rfl
theorem diag_bad {t : Tree} {names : List (List UInt8)} {v : Int} (h : mayD t names = v) (h0 : v ≠ 0) : ∃ z : DRes (fun cf => decide (mayD t names = 0) && evT names t cf), z.1 = (.lf false, none, 0) :=
  ⟨⟨(.lf false, none, 0), trivial, fun cf => by
    have e : decide (mayD t names = 0) = false := by rw [h]; exact decide_eq_false h0
    rw [e]; rfl⟩, rfl⟩
theorem used_le {t : Tree} : (usedF (Fm.rowT t)).length ≤ (Fm.rowT t).length := by
  have := used_len (Fm.rowT t) []
  simpa [usedF] using this

theorem rmay_c (t : Tree) (names : List (List UInt8)) (wb : World) (G : List Nat) (a : Option Addr) (c : Nat) (na : Option Addr) (nc : Nat) (hcap : names.length ≤ nc) (hll : names.length ≤ 1099511627776) (w : World) (hsz : (Fm.rowT t).length ≤ 1099511627776) (hr : rdT wb t G (tv t a c)) (hE : Ext wb w) (hnr : RdS w names na) :
    Pure Tryz.prog 13 [tv t a c, .slice na names.length nc] w (.int .i64 (mayD t names)) := by
  refine enter Tryz.func13 rfl Tryz.ntmps13 rfl (St.init _) ?_
  refine WC.seq ?_
  refine WC.region ?_
  refine WL.step ?_
  refine WL.boxN rfl rfl (fun b2 => ?_)
  refine WL.step ?_
  refine WL.assign rfl rfl ?_
  refine WL.nil ?_
  refine WQ.then_normal ?_
  refine WC.seq ?_
  refine WC.seq ?_
  refine WC.region ?_
  refine WL.step ?_
  refine WL.loadW F.agg24 rfl rfl (by repeat (first | exact List.Mem.head _ | apply List.Mem.tail)) rfl ?_
  refine WL.step ?_
  refine WL.callV (v := .bool (Fm.validB t)) F.fun28 rfl rfl (fun w hS => by rw [← Fm.refValid_eq]; exact rvalid_c t wb G a c w hsz hr (hE.st hS)) ?_
  refine WL.step ?_
  refine WL.not rfl rfl ?_
  refine WL.nil ?_
  refine WQ.then_normal ?_
  refine WC.cond rfl (fun h10 => ?_) (fun h10 => ?_)
  · skip
    have hv : Fm.validB t = false := by simpa using h10
    refine WC.seq ?_
    refine WC.region ?_
    refine WL.step ?_
    refine WL.assign rfl rfl ?_
    refine WL.nil ?_
    refine WQ.then_normal ?_
    refine WC.ret ?_
    refine WQ.then_ret ?_
    exact WQ.ret (rs := [.tmp 4]) rfl (.tmp rfl .nil) (fun w hS => ⟨by (rw [show mayD t names = 2 from by unfold mayD; rw [if_pos hv]]; rfl), hS.sublist (List.nil_sublist _)⟩)
  · skip
    have hv : Fm.validB t = true := by simpa using h10
    refine WC.skip ?_
    refine WQ.then_normal ?_
    refine WC.seq ?_
    refine WC.seq ?_
    refine WC.region ?_
    refine WL.step ?_
    refine WL.move rfl rfl ?_
    refine WL.step ?_
    refine WL.callV F.fun24 rfl rfl (fun w hS => rnames_c names na nc hcap hll w (hnr.next hS)) ?_
    refine WL.step ?_
    refine WL.assign rfl rfl ?_
    refine WL.nil ?_
    refine WQ.then_normal ?_
    refine WC.seq ?_
    refine WC.region ?_
    refine WL.step ?_
    refine WL.move rfl rfl ?_
    refine WL.step ?_
    refine WL.neI rfl rfl rfl ?_
    refine WL.nil ?_
    refine WQ.then_normal ?_
    refine WC.cond rfl (fun h14 => ?_) (fun h14 => ?_)
    · skip
      have hne : namesE names ≠ 0 := by simpa using h14
      refine WC.seq ?_
      refine WC.region ?_
      refine WL.step ?_
      refine WL.move rfl rfl ?_
      refine WL.step ?_
      refine WL.assign rfl rfl ?_
      refine WL.nil ?_
      refine WQ.then_normal ?_
      refine WC.ret ?_
      refine WQ.then_ret ?_
      exact WQ.ret (rs := [.tmp 4]) rfl (.tmp rfl .nil) (fun w hS => ⟨by (rw [show mayD t names = namesE names from by unfold mayD; rw [hv, if_neg (by simp), if_pos hne]]; rfl), hS.sublist (List.nil_sublist _)⟩)
    · skip
      have hne : namesE names = 0 := by simpa using h14
      have h24 := names24 hne
      refine WC.skip ?_
      refine WQ.then_normal ?_
      refine WC.seq ?_
      refine WC.region ?_
      refine WL.step ?_
      refine WL.loadW F.agg24 rfl rfl (by repeat (first | exact List.Mem.head _ | apply List.Mem.tail)) rfl ?_
      refine WL.step ?_
      refine WL.callC (β := Option Addr × Nat) (res := fun y => .slice y.1 (usedF (Fm.rowT t)).length y.2) (cs := fun y => [rowc (.slice y.1 (usedF (Fm.rowT t)).length y.2) (usedF (Fm.rowT t)).length 9 1 (strs (usedF (Fm.rowT t)))]) (Cs := []) (O' := []) F.fun38 (fun d h => by cases h; rfl) rfl (List.Perm.refl _) (by simp) (by simp) (fun w hS _ => Used_c t wb G a c w hsz hr (hE.st hS)) (fun ⟨ua, uc⟩ => ?_)
      refine WL.step ?_
      refine WL.assign rfl rfl ?_
      refine WL.nil ?_
      refine WQ.then_normal ?_
      refine WC.seq ?_
      refine WC.seq ?_
      refine WC.region ?_
      refine WL.step ?_
      refine WL.assign rfl rfl ?_
      refine WL.nil ?_
      refine WQ.then_normal ?_
      refine WC.block ?_
      refine WC.chunks (C' := [rowc (.slice ua (usedF (Fm.rowT t)).length uc) (usedF (Fm.rowT t)).length 9 1 (strs (usedF (Fm.rowT t)))]) (fun w hS => ((St.pick hS (c := rowc (.slice ua (usedF (Fm.rowT t)).length uc) (usedF (Fm.rowT t)).length 9 1 (strs (usedF (Fm.rowT t)))) (by repeat (first | exact Rem.here | apply Rem.there)))).sublist (List.Sublist.cons_cons _ (List.nil_sublist _))) ?_
      refine WC.loop (α := Nat) (fun i => i ≤ (usedF (Fm.rowT t)).length ∧ ((usedF (Fm.rowT t)).take i).all (fun s => names.contains s) = true) (fun i => [(1, .slice na names.length nc), (2, pp b2), (6, .slice ua (usedF (Fm.rowT t)).length uc), (7, .int .i64 (i : Int))]) (fun _ => [rowc (.slice ua (usedF (Fm.rowT t)).length uc) (usedF (Fm.rowT t)).length 9 1 (strs (usedF (Fm.rowT t)))]) (fun i => (usedF (Fm.rowT t)).length - i) (0) ?_ ?_ ?_ ?_
      · exact ⟨Nat.zero_le _, rfl⟩
      · exact ⟨rfl, rfl, rfl, rfl, trivial⟩
      · rfl
      rintro i ⟨hi, hall⟩
      show WC _ _ _ _ _ _ _ [(1, .slice na names.length nc), (2, pp b2), (6, .slice ua (usedF (Fm.rowT t)).length uc), (7, .int .i64 (i : Int))] [rowc (.slice ua (usedF (Fm.rowT t)).length uc) (usedF (Fm.rowT t)).length 9 1 (strs (usedF (Fm.rowT t)))]
      refine WC.seq ?_
      refine WC.seq ?_
      refine WC.region ?_
      refine WL.step ?_
      refine WL.move rfl rfl ?_
      refine WL.step ?_
      refine WL.move rfl rfl ?_
      refine WL.step ?_
      refine WL.lenSl F.und25 rfl rfl ?_
      refine WL.step ?_
      refine WL.ltI rfl rfl rfl ?_
      refine WL.nil ?_
      refine WQ.then_normal ?_
      refine WC.cond rfl (fun hh => ?_) (fun hh => ?_)
      · skip
        have hul := used_le (t := t)
        have hlt : i < (usedF (Fm.rowT t)).length := by simpa using hh
        obtain ⟨s, hx⟩ : ∃ s, (usedF (Fm.rowT t))[i]? = some s := ⟨_, List.getElem?_eq_getElem hlt⟩
        refine WC.know (φ := ∃ g, ua = some ⟨g, 0, none⟩ ∧ (usedF (Fm.rowT t)).length = (usedF (Fm.rowT t)).length ∧ (usedF (Fm.rowT t)).length ≤ uc) (fun w hS => rowc_addr (hS.ok (rowc (.slice ua (usedF (Fm.rowT t)).length uc) (usedF (Fm.rowT t)).length 9 1 (strs (usedF (Fm.rowT t)))) (by repeat (first | exact List.Mem.head _ | apply List.Mem.tail))) (by omega)) (fun ⟨g8, hg8, _, _⟩ => ?_)
        subst hg8
        refine WC.skip ?_
        refine WQ.then_normal ?_
        refine WC.seq ?_
        refine WC.block ?_
        refine WC.seq ?_
        refine WC.region ?_
        refine WL.step ?_
        refine WL.move rfl rfl ?_
        refine WL.step ?_
        refine WL.move rfl rfl ?_
        refine WL.step ?_
        refine WL.move rfl rfl ?_
        refine WL.step ?_
        refine WL.indexAddr F.sl25 rfl rfl rfl hlt ?_
        refine WL.step ?_
        refine WL.load1 F.one9 rfl rfl (v := .string (str s)) (fun w hS => by rw [Nat.zero_add, Nat.mul_one]; exact rowc_cell (hS.ok (rowc (.slice (some ⟨g8, 0, none⟩) (usedF (Fm.rowT t)).length uc) (usedF (Fm.rowT t)).length 9 1 (strs (usedF (Fm.rowT t)))) (by repeat (first | exact List.Mem.head _ | apply List.Mem.tail))) (strs_at hx)) ?_
        refine WL.step ?_
        refine WL.callV F.fun47 rfl rfl (fun w hS => ridx_c names s na nc hll w (hnr.next hS)) ?_
        refine WL.step ?_
        refine WL.ltI rfl rfl rfl ?_
        refine WL.nil ?_
        refine WQ.then_normal ?_
        refine WC.cond rfl (fun h30 => ?_) (fun h30 => ?_)
        · skip
          have hcs : names.contains s = false := by (rw [← idxS_neg]; simp at h30 ⊢; omega)
          have hkn := known_not hx hcs
          refine WC.seq ?_
          refine WC.region ?_
          refine WL.step ?_
          refine WL.assign rfl rfl ?_
          refine WL.nil ?_
          refine WQ.then_normal ?_
          refine WC.ret ?_
          refine WQ.block_ret ?_
          refine WQ.then_ret ?_
          refine WQ.then_ret ?_
          refine WQ.block_ret ?_
          refine WQ.then_ret ?_
          exact WQ.ret (rs := [.tmp 4]) rfl (.tmp rfl .nil) (fun w hS => ⟨by (rw [show mayD t names = 6 from by unfold mayD; rw [hv, if_neg (by simp), if_neg (by simpa using hne), hkn]; rfl]; rfl), hS.sublist (List.nil_sublist _)⟩)
        · skip
          have hcs : names.contains s = true := by (rw [← idxS_neg]; simp at h30 ⊢; omega)
          refine WC.skip ?_
          refine WQ.block_normal ?_
          refine WQ.then_normal ?_
          refine WC.region ?_
          refine WL.step ?_
          refine WL.move rfl rfl ?_
          refine WL.step ?_
          refine WL.add rfl rfl rfl ⟨by omega, by omega⟩ ?_
          refine WL.step ?_
          refine WL.assign rfl rfl ?_
          refine WL.nil ?_
          refine WQ.chunks (C' := [rowc (.slice (some ⟨g8, 0, none⟩) (usedF (Fm.rowT t)).length uc) (usedF (Fm.rowT t)).length 9 1 (strs (usedF (Fm.rowT t)))]) (fun w hS => ((St.pick hS (c := rowc (.slice (some ⟨g8, 0, none⟩) (usedF (Fm.rowT t)).length uc) (usedF (Fm.rowT t)).length 9 1 (strs (usedF (Fm.rowT t)))) (by repeat (first | exact Rem.here | apply Rem.there)))).sublist (List.Sublist.cons_cons _ (List.nil_sublist _))) ?_
          refine WQ.back (i + 1) ?_ ?_ ?_ ?_
          · exact ⟨by (show i + 1 ≤ (usedF (Fm.rowT t)).length); omega, by rw [known_take hx hall]; exact hcs⟩
          · (show (usedF (Fm.rowT t)).length - (i + 1) < (usedF (Fm.rowT t)).length - i; omega)
          · exact ⟨rfl, rfl, rfl, rfl, trivial⟩
          · rfl
      · skip
        have hie : i = (usedF (Fm.rowT t)).length := by simp at hh; omega
        subst hie
        rw [List.take_length] at hall
        have hk : knownB t names = true := hall
        refine WC.exit ?_
        refine WQ.then_exit ?_
        refine WQ.then_exit ?_
        refine WQ.block_exit ?_
        refine WQ.then_normal ?_
        refine WC.seq ?_
        refine WC.region ?_
        refine WL.step ?_
        refine WL.assign rfl rfl ?_
        refine WL.nil ?_
        refine WQ.then_normal ?_
        refine WC.ret ?_
        exact WQ.ret (rs := [.tmp 4]) rfl (.tmp rfl .nil) (fun w hS => ⟨by (rw [show mayD t names = 0 from mayD_zero.2 ⟨hv, hne, hk⟩]; rfl), hS.sublist (List.nil_sublist _)⟩)

theorem Diagram_c (t : Tree) (names : List (List UInt8)) (G : List Nat) (a : Option Addr) (c : Nat) (na : Option Addr) (nc : Nat) (hcap : names.length ≤ nc) (hll : names.length ≤ 1099511627776) (w : World) (hr : rdT w t G (tv t a c)) (hnr : RdS w names na) :
    Calls Tryz.prog 12 [tv t a c, .slice na names.length nc].toArray w fun e w' => ∃ z : DRes (fun cf => decide (mayD t names = 0) && evT names t cf), e = .returned (.tuple #[z.v, .int .i64 (mayD t names)]) ∧ St w [] [z.ch] w' := by
  refine enter Tryz.func12 rfl Tryz.ntmps12 rfl (St.init _) ?_
  refine WC.seq ?_
  refine WC.region ?_
  refine WL.step ?_
  refine WL.boxN rfl rfl (fun b2 => ?_)
  refine WL.step ?_
  refine WL.alloc F.zero35 rfl (fun b4 => ?_)
  refine WL.step ?_
  refine WL.assign rfl rfl ?_
  refine WL.nil ?_
  refine WQ.then_normal ?_
  refine WC.seq ?_
  refine WC.seq ?_
  refine WC.region ?_
  refine WL.step ?_
  refine WL.loadW F.agg24 rfl rfl (by repeat (first | exact List.Mem.head _ | apply List.Mem.tail)) rfl ?_
  refine WL.step ?_
  refine WL.callV F.fun42 rfl rfl (fun w hS => Valid_c t G a c w ((Ext.refl _ |>.st hS).tree hr)) ?_
  refine WL.step ?_
  refine WL.not rfl rfl ?_
  refine WL.nil ?_
  refine WQ.then_normal ?_
  refine WC.cond rfl (fun h10 => ?_) (fun h10 => ?_)
  · skip
    have hv : Fm.validB t = false := by simpa using h10
    refine WC.seq ?_
    refine WC.region ?_
    refine WL.step ?_
    refine WL.build F.stT35 rfl (by repeat (first | exact Built.nil | apply Built.one rfl rfl (by repeat constructor) | apply Built.agg rfl rfl (by repeat constructor))) rfl ?_
    refine WL.step ?_
    refine WL.storeN F.agg35 rfl rfl rfl (by simp [Value.oneCell']) (by repeat (first | exact Upd.here | apply Upd.there)) (by repeat constructor) ?_
    refine WL.step ?_
    refine WL.assign rfl rfl ?_
    refine WL.nil ?_
    refine WQ.then_normal ?_
    refine WC.ret ?_
    refine WQ.then_ret ?_
    have hmd : mayD t names = 2 := by unfold mayD; rw [if_pos hv]
    obtain ⟨z9, hz9⟩ := diag_bad hmd (by first | decide | exact hne)
    refine WQ.ret (rs := [.cell 4 35, .tmp 5]) rfl (.cellN F.agg35 rfl (by repeat (first | exact List.Mem.head _ | apply List.Mem.tail)) rfl (.tmp rfl .nil)) (fun w hS => ⟨z9, ?_, ?_⟩)
    · show _ = Ending.returned (.tuple #[z9.v, .int .i64 (mayD t names)])
      have e1 : z9.v = dval (.lf false) none 0 := by (unfold DRes.v; rw [hz9])
      rw [e1, hmd]; rfl
    · show St _ _ [z9.ch] w
      unfold DRes.ch; rw [hz9]; exact (hS.sublist (List.nil_sublist _)).rowNil _ _
  · skip
    have hv : Fm.validB t = true := by simpa using h10
    have hsz := (validB_all hv).2
    refine WC.skip ?_
    refine WQ.then_normal ?_
    refine WC.seq ?_
    refine WC.seq ?_
    refine WC.region ?_
    refine WL.step ?_
    refine WL.move rfl rfl ?_
    refine WL.step ?_
    refine WL.callV F.fun43 rfl rfl (fun w hS => check_c names na nc hcap hll w (hnr.next hS)) ?_
    refine WL.step ?_
    refine WL.assign rfl rfl ?_
    refine WL.nil ?_
    refine WQ.then_normal ?_
    refine WC.seq ?_
    refine WC.region ?_
    refine WL.step ?_
    refine WL.move rfl rfl ?_
    refine WL.step ?_
    refine WL.neI rfl rfl rfl ?_
    refine WL.nil ?_
    refine WQ.then_normal ?_
    refine WC.cond rfl (fun h14 => ?_) (fun h14 => ?_)
    · skip
      have hne : namesE names ≠ 0 := by simpa using h14
      refine WC.seq ?_
      refine WC.region ?_
      refine WL.step ?_
      refine WL.build F.stT35 rfl (by repeat (first | exact Built.nil | apply Built.one rfl rfl (by repeat constructor) | apply Built.agg rfl rfl (by repeat constructor))) rfl ?_
      refine WL.step ?_
      refine WL.move rfl rfl ?_
      refine WL.step ?_
      refine WL.storeN F.agg35 rfl rfl rfl (by simp [Value.oneCell']) (by repeat (first | exact Upd.here | apply Upd.there)) (by repeat constructor) ?_
      refine WL.step ?_
      refine WL.assign rfl rfl ?_
      refine WL.nil ?_
      refine WQ.then_normal ?_
      refine WC.ret ?_
      refine WQ.then_ret ?_
      have hmd : mayD t names = namesE names := by unfold mayD; rw [hv, if_neg (by simp), if_pos hne]
      obtain ⟨z9, hz9⟩ := diag_bad hmd (by first | decide | exact hne)
      refine WQ.ret (rs := [.cell 4 35, .tmp 5]) rfl (.cellN F.agg35 rfl (by repeat (first | exact List.Mem.head _ | apply List.Mem.tail)) rfl (.tmp rfl .nil)) (fun w hS => ⟨z9, ?_, ?_⟩)
      · show _ = Ending.returned (.tuple #[z9.v, .int .i64 (mayD t names)])
        have e1 : z9.v = dval (.lf false) none 0 := by (unfold DRes.v; rw [hz9])
        rw [e1, hmd]; rfl
      · show St _ _ [z9.ch] w
        unfold DRes.ch; rw [hz9]; exact (hS.sublist (List.nil_sublist _)).rowNil _ _
    · skip
      have hne : namesE names = 0 := by simpa using h14
      have h24 := names24 hne
      refine WC.skip ?_
      refine WQ.then_normal ?_
      refine WC.seq ?_
      refine WC.seq ?_
      refine WC.region ?_
      refine WL.step ?_
      refine WL.loadW F.agg24 rfl rfl (by repeat (first | exact List.Mem.head _ | apply List.Mem.tail)) rfl ?_
      refine WL.step ?_
      refine WL.callC (β := Option Addr × Nat) (res := fun y => .slice y.1 (usedF (Fm.rowT t)).length y.2) (cs := fun y => [rowc (.slice y.1 (usedF (Fm.rowT t)).length y.2) (usedF (Fm.rowT t)).length 9 1 (strs (usedF (Fm.rowT t)))]) (Cs := []) (O' := []) F.fun44 (fun d h => by cases h; rfl) rfl (List.Perm.refl _) (by simp) (by simp) (fun w hS _ => Names_c t G a c w (by omega) ((Ext.refl _ |>.st hS).tree hr)) (fun ⟨ua, uc⟩ => ?_)
      refine WL.step ?_
      refine WL.lenSl F.und25 rfl rfl ?_
      refine WL.step ?_
      refine WL.move rfl rfl ?_
      refine WL.nil ?_
      refine WQ.then_normal ?_
      refine WC.block ?_
      refine WC.chunks (C' := [rowc (.slice ua (usedF (Fm.rowT t)).length uc) (usedF (Fm.rowT t)).length 9 1 (strs (usedF (Fm.rowT t))), pt b2 [Value.int .u8 t.op, .string (str t.name), .slice a t.kids.length c] 24, pt b4 [.slice none 0 0, .int .i64 0] 35]) (fun w hS => ((St.pick (St.pick (St.pick hS (c := pt b4 [.slice none 0 0, .int .i64 0] 35) (by repeat (first | exact Rem.here | apply Rem.there))) (c := pt b2 [Value.int .u8 t.op, .string (str t.name), .slice a t.kids.length c] 24) (by repeat (first | exact Rem.here | apply Rem.there))) (c := rowc (.slice ua (usedF (Fm.rowT t)).length uc) (usedF (Fm.rowT t)).length 9 1 (strs (usedF (Fm.rowT t)))) (by repeat (first | exact Rem.here | apply Rem.there)))).sublist (List.Sublist.cons_cons _ (List.Sublist.cons_cons _ (List.Sublist.cons_cons _ (List.nil_sublist _))))) ?_
      refine WC.loop (α := Nat) (fun i => i ≤ (usedF (Fm.rowT t)).length ∧ ((usedF (Fm.rowT t)).take i).all (fun s => names.contains s) = true) (fun i => [(1, .slice na names.length nc), (2, pp b2), (4, pp b4), (20, .slice ua (usedF (Fm.rowT t)).length uc), (21, .int .i64 ((usedF (Fm.rowT t)).length : Int)), (22, .int .i64 (i : Int))]) (fun _ => [rowc (.slice ua (usedF (Fm.rowT t)).length uc) (usedF (Fm.rowT t)).length 9 1 (strs (usedF (Fm.rowT t))), pt b2 [Value.int .u8 t.op, .string (str t.name), .slice a t.kids.length c] 24, pt b4 [.slice none 0 0, .int .i64 0] 35]) (fun i => (usedF (Fm.rowT t)).length - i) (0) ?_ ?_ ?_ ?_
      · exact ⟨Nat.zero_le _, rfl⟩
      · exact ⟨rfl, rfl, rfl, rfl, rfl, rfl, trivial⟩
      · rfl
      rintro i ⟨hi, hall⟩
      show WC _ _ _ _ _ _ _ [(1, .slice na names.length nc), (2, pp b2), (4, pp b4), (20, .slice ua (usedF (Fm.rowT t)).length uc), (21, .int .i64 ((usedF (Fm.rowT t)).length : Int)), (22, .int .i64 (i : Int))] [rowc (.slice ua (usedF (Fm.rowT t)).length uc) (usedF (Fm.rowT t)).length 9 1 (strs (usedF (Fm.rowT t))), pt b2 [Value.int .u8 t.op, .string (str t.name), .slice a t.kids.length c] 24, pt b4 [.slice none 0 0, .int .i64 0] 35]
      refine WC.seq ?_
      refine WC.region ?_
      refine WL.step ?_
      refine WL.ltI rfl rfl rfl ?_
      refine WL.nil ?_
      refine WQ.then_normal ?_
      refine WC.seq ?_
      refine WC.cond rfl (fun hh => ?_) (fun hh => ?_)
      · skip
        have hul := used_le (t := t)
        have hlt : i < (usedF (Fm.rowT t)).length := by simpa using hh
        obtain ⟨s, hx⟩ : ∃ s, (usedF (Fm.rowT t))[i]? = some s := ⟨_, List.getElem?_eq_getElem hlt⟩
        refine WC.know (φ := ∃ g, ua = some ⟨g, 0, none⟩ ∧ (usedF (Fm.rowT t)).length = (usedF (Fm.rowT t)).length ∧ (usedF (Fm.rowT t)).length ≤ uc) (fun w hS => rowc_addr (hS.ok (rowc (.slice ua (usedF (Fm.rowT t)).length uc) (usedF (Fm.rowT t)).length 9 1 (strs (usedF (Fm.rowT t)))) (by repeat (first | exact List.Mem.head _ | apply List.Mem.tail))) (by omega)) (fun ⟨g8, hg8, _, _⟩ => ?_)
        subst hg8
        refine WC.skip ?_
        refine WQ.then_normal ?_
        refine WC.seq ?_
        refine WC.block ?_
        refine WC.seq ?_
        refine WC.region ?_
        refine WL.step ?_
        refine WL.indexAddr F.sl25 rfl rfl rfl hlt ?_
        refine WL.step ?_
        refine WL.load1 F.one9 rfl rfl (v := .string (str s)) (fun w hS => by rw [Nat.zero_add, Nat.mul_one]; exact rowc_cell (hS.ok (rowc (.slice (some ⟨g8, 0, none⟩) (usedF (Fm.rowT t)).length uc) (usedF (Fm.rowT t)).length 9 1 (strs (usedF (Fm.rowT t)))) (by repeat (first | exact List.Mem.head _ | apply List.Mem.tail))) (strs_at hx)) ?_
        refine WL.step ?_
        refine WL.assign rfl rfl ?_
        refine WL.nil ?_
        refine WQ.then_normal ?_
        refine WC.seq ?_
        refine WC.region ?_
        refine WL.step ?_
        refine WL.move rfl rfl ?_
        refine WL.step ?_
        refine WL.move rfl rfl ?_
        refine WL.step ?_
        refine WL.callV F.fun45 rfl rfl (fun w hS => scontains_c names s na nc hll w (hnr.next hS)) ?_
        refine WL.step ?_
        refine WL.not rfl rfl ?_
        refine WL.nil ?_
        refine WQ.then_normal ?_
        refine WC.cond rfl (fun h30 => ?_) (fun h30 => ?_)
        · skip
          have hcs : names.contains s = false := by simpa using h30
          have hkn := known_not hx hcs
          refine WC.seq ?_
          refine WC.region ?_
          refine WL.step ?_
          refine WL.build F.stT35 rfl (by repeat (first | exact Built.nil | apply Built.one rfl rfl (by repeat constructor) | apply Built.agg rfl rfl (by repeat constructor))) rfl ?_
          refine WL.step ?_
          refine WL.storeN F.agg35 rfl rfl rfl (by simp [Value.oneCell']) (by repeat (first | exact Upd.here | apply Upd.there)) (by repeat constructor) ?_
          refine WL.step ?_
          refine WL.assign rfl rfl ?_
          refine WL.nil ?_
          refine WQ.then_normal ?_
          refine WC.ret ?_
          refine WQ.block_ret ?_
          refine WQ.then_ret ?_
          refine WQ.then_ret ?_
          refine WQ.block_ret ?_
          refine WQ.then_ret ?_
          have hmd : mayD t names = 6 := by unfold mayD; rw [hv, if_neg (by simp), if_neg (by simpa using hne), hkn]; rfl
          obtain ⟨z9, hz9⟩ := diag_bad hmd (by first | decide | exact hne)
          refine WQ.ret (rs := [.cell 4 35, .tmp 5]) rfl (.cellN F.agg35 rfl (by repeat (first | exact List.Mem.head _ | apply List.Mem.tail)) rfl (.tmp rfl .nil)) (fun w hS => ⟨z9, ?_, ?_⟩)
          · show _ = Ending.returned (.tuple #[z9.v, .int .i64 (mayD t names)])
            have e1 : z9.v = dval (.lf false) none 0 := by (unfold DRes.v; rw [hz9])
            rw [e1, hmd]; rfl
          · show St _ _ [z9.ch] w
            unfold DRes.ch; rw [hz9]; exact (hS.sublist (List.nil_sublist _)).rowNil _ _
        · skip
          have hcs : names.contains s = true := by simpa using h30
          refine WC.skip ?_
          refine WQ.block_normal ?_
          refine WQ.then_normal ?_
          refine WC.region ?_
          refine WL.step ?_
          refine WL.add rfl rfl rfl ⟨by omega, by omega⟩ ?_
          refine WL.step ?_
          refine WL.move rfl rfl ?_
          refine WL.nil ?_
          refine WQ.chunks (C' := [rowc (.slice (some ⟨g8, 0, none⟩) (usedF (Fm.rowT t)).length uc) (usedF (Fm.rowT t)).length 9 1 (strs (usedF (Fm.rowT t))), pt b2 [Value.int .u8 t.op, .string (str t.name), .slice a t.kids.length c] 24, pt b4 [.slice none 0 0, .int .i64 0] 35]) (fun w hS => ((St.pick (St.pick (St.pick hS (c := pt b4 [.slice none 0 0, .int .i64 0] 35) (by repeat (first | exact Rem.here | apply Rem.there))) (c := pt b2 [Value.int .u8 t.op, .string (str t.name), .slice a t.kids.length c] 24) (by repeat (first | exact Rem.here | apply Rem.there))) (c := rowc (.slice (some ⟨g8, 0, none⟩) (usedF (Fm.rowT t)).length uc) (usedF (Fm.rowT t)).length 9 1 (strs (usedF (Fm.rowT t)))) (by repeat (first | exact Rem.here | apply Rem.there)))).sublist (List.Sublist.cons_cons _ (List.Sublist.cons_cons _ (List.Sublist.cons_cons _ (List.nil_sublist _))))) ?_
          refine WQ.back (i + 1) ?_ ?_ ?_ ?_
          · exact ⟨by (show i + 1 ≤ (usedF (Fm.rowT t)).length); omega, by rw [known_take hx hall]; exact hcs⟩
          · (show (usedF (Fm.rowT t)).length - (i + 1) < (usedF (Fm.rowT t)).length - i; omega)
          · exact ⟨rfl, rfl, rfl, rfl, rfl, rfl, trivial⟩
          · rfl
      · skip
        have hie : i = (usedF (Fm.rowT t)).length := by simp at hh; omega
        subst hie
        rw [List.take_length] at hall
        have hk : knownB t names = true := hall
        have hz := mayD_zero.2 ⟨hv, hne, hk⟩
        refine WC.exit ?_
        refine WQ.then_exit ?_
        refine WQ.then_exit ?_
        refine WQ.block_exit ?_
        refine WQ.then_normal ?_
        refine WC.seq ?_
        refine WC.region ?_
        refine WL.step ?_
        refine WL.loadW F.agg24 rfl rfl (by repeat (first | exact List.Mem.head _ | apply List.Mem.tail)) rfl ?_
        refine WL.step ?_
        refine WL.move rfl rfl ?_
        refine WL.step ?_
        refine WL.call0 (β := DRes (evT names t)) (res := fun z => .returned z.v) (cs := fun z => [z.ch]) (ψ := fun _ => True) F.fun46 (fun d h => by cases h; rfl) rfl (fun w hS => (Set_c names na nc h24 1000 (by omega) t _ G a c w (by omega) (okT_of hv hk) hr (Ext.refl _ |>.st hS) (hnr.next hS)).mono (fun e w2 ⟨x, h1, h2⟩ => ⟨x, trivial, h1, h2⟩)) (fun z34 _ => ?_)
        refine WL.step ?_
        refine WL.storeN F.agg35 rfl rfl rfl (by simp [Value.oneCell']) (by repeat (first | exact Upd.here | apply Upd.there)) (by repeat constructor) ?_
        refine WL.step ?_
        refine WL.assign rfl rfl ?_
        refine WL.nil ?_
        refine WQ.then_normal ?_
        refine WC.ret ?_
        exact WQ.ret (rs := [.cell 4 35, .tmp 5]) rfl (.cellN F.agg35 rfl (by repeat (first | exact List.Mem.head _ | apply List.Mem.tail)) rfl (.tmp rfl .nil)) (fun w hS => ⟨⟨z34.1, z34.2.1, fun cf => by rw [z34.2.2, hz]; rfl⟩, by (show _ = Ending.returned (.tuple #[z34.v, .int .i64 (mayD t names)]); rw [hz]; rfl), ((St.pick hS (c := z34.ch) (by repeat (first | exact Rem.here | apply Rem.there)))).sublist (List.Sublist.cons_cons _ (List.nil_sublist _))⟩)

end Go.Proofs.YtkgllhkhdjodeaaGreat

namespace Go.Proofs.YtkgllhkhdjodeaaGreat
open Go Go.Eng Go.Proofs Dg
theorem Eval_c (t : Tree) (names : List (List UInt8)) (M : Nat) (hM : M < 4294967296) (G : List Nat) (a : Option Addr) (c : Nat) (na : Option Addr) (nc : Nat) (hcap : names.length ≤ nc) (hll : names.length ≤ 1099511627776) (w : World) (hr : rdT w t G (tv t a c)) (hnr : RdS w names na) :
    Pure Tryz.prog 10 [tv t a c, .slice na names.length nc, .int .u32 (M : Int)] w (.tuple #[.bool (decide (mayD t names = 0) && evT names t (cfg M)), .int .i64 (mayD t names)]) := by
  refine enter Tryz.func10 rfl Tryz.ntmps10 rfl (St.init _) ?_
  refine WC.seq ?_
  refine WC.region ?_
  refine WL.step ?_
  refine WL.boxN rfl rfl (fun b3 => ?_)
  refine WL.step ?_
  refine WL.assign rfl rfl ?_
  refine WL.step ?_
  refine WL.assign rfl rfl ?_
  refine WL.nil ?_
  refine WQ.then_normal ?_
  refine WC.seq ?_
  refine WC.region ?_
  refine WL.step ?_
  refine WL.loadW F.agg24 rfl rfl (by repeat (first | exact List.Mem.head _ | apply List.Mem.tail)) rfl ?_
  refine WL.step ?_
  refine WL.move rfl rfl ?_
  refine WL.step ?_
  refine WL.call0 (β := DRes (fun cf => decide (mayD t names = 0) && evT names t cf)) (res := fun z => .returned (.tuple #[z.v, .int .i64 (mayD t names)])) (cs := fun z => [z.ch]) (ψ := fun _ => True) F.fun12 (fun d h => by cases h; rfl) rfl (fun w hS => (Diagram_c t names G a c na nc hcap hll w ((Ext.refl _ |>.st hS).tree hr) (hnr.next hS)).mono (fun e w2 ⟨x, h1, h2⟩ => ⟨x, trivial, h1, h2⟩)) (fun z13 _ => ?_)
  refine WL.step ?_
  refine WL.move rfl rfl ?_
  refine WL.step ?_
  refine WL.extract rfl rfl rfl ?_
  refine WL.step ?_
  refine WL.extract rfl rfl rfl ?_
  refine WL.step ?_
  refine WL.alloc F.zero35 rfl (fun b8 => ?_)
  refine WL.step ?_
  refine WL.storeN F.agg35 rfl rfl rfl (by simp [Value.oneCell']) (by repeat (first | exact Upd.here | apply Upd.there)) (by repeat constructor) ?_
  refine WL.step ?_
  refine WL.assign rfl rfl ?_
  refine WL.nil ?_
  refine WQ.then_normal ?_
  refine WC.seq ?_
  refine WC.region ?_
  refine WL.step ?_
  refine WL.loadW F.agg35 rfl rfl (by repeat (first | exact List.Mem.head _ | apply List.Mem.tail)) rfl ?_
  refine WL.step ?_
  refine WL.move rfl rfl ?_
  refine WL.step ?_
  refine WL.callV F.fun36 rfl rfl (fun w hS => Has_c z13.1.1 z13.1.2.1 z13.1.2.2 M hM w (z13.rd hS (by repeat (first | exact List.Mem.head _ | apply List.Mem.tail)))) ?_
  refine WL.step ?_
  refine WL.move rfl rfl ?_
  refine WL.step ?_
  refine WL.assign rfl rfl ?_
  refine WL.step ?_
  refine WL.assign rfl rfl ?_
  refine WL.nil ?_
  refine WQ.then_normal ?_
  refine WC.ret ?_
  exact WQ.ret (rs := [.tmp 6, .tmp 7]) rfl (.tmp rfl (.tmp rfl .nil)) (fun w hS => ⟨by rw [z13.2.2]; rfl, hS.sublist (List.nil_sublist _)⟩)

def fewB (t : Tree) (names : List (List UInt8)) (n : Nat) : Bool := !(Fm.greatB t 100 || (decide ((30 : Int) < (names.length : Int)) || decide ((n : Int) < ((usedF (Fm.rowT t)).length : Int)))) && names.all (fun s => decide (s.length ≤ 100))

theorem few_c (t : Tree) (names : List (List UInt8)) (n : Nat) (wb : World) (G : List Nat) (a : Option Addr) (c : Nat) (na : Option Addr) (nc : Nat) (w : World) (hr : rdT wb t G (tv t a c)) (hE : Ext wb w) (hnr : RdS w names na) :
    Pure Tryz.prog 8 [tv t a c, .slice na names.length nc, .int .i64 (n : Int)] w (.bool (fewB t names n)) := by
  refine enter Tryz.func8 rfl Tryz.ntmps8 rfl (St.init _) ?_
  refine WC.seq ?_
  refine WC.region ?_
  refine WL.step ?_
  refine WL.boxN rfl rfl (fun b3 => ?_)
  refine WL.step ?_
  refine WL.assign rfl rfl ?_
  refine WL.nil ?_
  refine WQ.then_normal ?_
  refine WC.seq ?_
  refine WC.seq ?_
  refine WC.cutF [(21, .bool (Fm.greatB t 100 || (decide ((30 : Int) < (names.length : Int)) || decide ((n : Int) < ((usedF (Fm.rowT t)).length : Int))))), (1, .slice na names.length nc)] (fun Q' hQ => ?_) ?_
  · skip
    refine WC.region ?_
    refine WL.step ?_
    refine WL.loadW F.agg24 rfl rfl (by repeat (first | exact List.Mem.head _ | apply List.Mem.tail)) rfl ?_
    refine WL.step ?_
    refine WL.callV F.fun37 rfl rfl (fun w hS => great_c t 100 (by omega) wb G a c w hr (hE.st hS)) ?_
    refine WL.step ?_
    refine WL.move rfl rfl ?_
    refine WA.splitB (i := 10) rfl (fun g10 => ?_) (fun g10 => ?_)
    · skip
      refine WL.step (WL.guardF rfl rfl rfl rfl rfl rfl ?_)
      refine WL.step (WL.guardF rfl rfl rfl rfl rfl rfl ?_)
      refine WL.step (WL.guardF rfl rfl rfl rfl rfl rfl ?_)
      refine WL.step ?_
      refine WL.pickT rfl rfl rfl ?_
      refine WL.step ?_
      refine WL.move rfl rfl ?_
      refine WL.step (WL.guardF rfl rfl rfl rfl rfl rfl ?_)
      refine WL.step (WL.guardF rfl rfl rfl rfl rfl rfl ?_)
      refine WL.step (WL.guardF rfl rfl rfl rfl rfl rfl ?_)
      refine WL.step (WL.guardF rfl rfl rfl rfl rfl rfl ?_)
      refine WL.step (WL.guardF rfl rfl rfl rfl rfl rfl ?_)
      refine WL.step ?_
      refine WL.pickT rfl rfl rfl ?_
      refine WL.nil ?_
      refine WQ.chunks (C' := [pt b3 [Value.int .u8 t.op, .string (str t.name), .slice a t.kids.length c] 24]) (fun w hS => ((St.pick hS (c := pt b3 [Value.int .u8 t.op, .string (str t.name), .slice a t.kids.length c] 24) (by repeat (first | exact Rem.here | apply Rem.there)))).sublist (List.Sublist.cons_cons _ (List.nil_sublist _))) ?_
      refine WQ.byCut hQ (subF_bool ?_ ⟨rfl, trivial⟩ rfl)
      first | (simp [g10]; done) | (simp [g10, g15]; done)
    · skip
      refine WL.step (WL.guardT rfl rfl rfl ?_)
      refine WL.move rfl rfl ?_
      refine WL.step (WL.guardT rfl rfl rfl ?_)
      refine WL.lenSl F.und25 rfl rfl ?_
      refine WL.step (WL.guardT rfl rfl rfl ?_)
      refine WL.gtI rfl rfl rfl ?_
      refine WL.step ?_
      refine WL.pickF rfl rfl rfl ?_
      refine WL.step ?_
      refine WL.move rfl rfl ?_
      refine WA.splitB (i := 15) rfl (fun g15 => ?_) (fun g15 => ?_)
      · skip
        refine WL.step (WL.guardF rfl rfl rfl rfl rfl rfl ?_)
        refine WL.step (WL.guardF rfl rfl rfl rfl rfl rfl ?_)
        refine WL.step (WL.guardF rfl rfl rfl rfl rfl rfl ?_)
        refine WL.step (WL.guardF rfl rfl rfl rfl rfl rfl ?_)
        refine WL.step (WL.guardF rfl rfl rfl rfl rfl rfl ?_)
        refine WL.step ?_
        refine WL.pickT rfl rfl rfl ?_
        refine WL.nil ?_
        refine WQ.chunks (C' := [pt b3 [Value.int .u8 t.op, .string (str t.name), .slice a t.kids.length c] 24]) (fun w hS => ((St.pick hS (c := pt b3 [Value.int .u8 t.op, .string (str t.name), .slice a t.kids.length c] 24) (by repeat (first | exact Rem.here | apply Rem.there)))).sublist (List.Sublist.cons_cons _ (List.nil_sublist _))) ?_
        refine WQ.byCut hQ (subF_bool ?_ ⟨rfl, trivial⟩ rfl)
        first | (simp [g10]; done) | (simp [g10, g15]; done)
      · skip
        refine WL.step (WL.guardT rfl rfl rfl ?_)
        refine WL.loadW F.agg24 rfl rfl (by repeat (first | exact List.Mem.head _ | apply List.Mem.tail)) rfl ?_
        refine WL.step (WL.guardT rfl rfl rfl ?_)
        refine WL.callC (β := Option Addr × Nat) (res := fun y => .slice y.1 (usedF (Fm.rowT t)).length y.2) (cs := fun y => [rowc (.slice y.1 (usedF (Fm.rowT t)).length y.2) (usedF (Fm.rowT t)).length 9 1 (strs (usedF (Fm.rowT t)))]) (Cs := []) (O' := []) F.fun38 (fun d h => by cases h; rfl) rfl (List.Perm.refl _) (by simp) (by simp) (fun w hS _ => Used_c t wb G a c w (by have := (Fm.great_no g10).1; omega) hr (hE.st hS)) (fun ⟨ua, uc⟩ => ?_)
        refine WL.step (WL.guardT rfl rfl rfl ?_)
        refine WL.lenSl F.und25 rfl rfl ?_
        refine WL.step (WL.guardT rfl rfl rfl ?_)
        refine WL.move rfl rfl ?_
        refine WL.step (WL.guardT rfl rfl rfl ?_)
        refine WL.gtI rfl rfl rfl ?_
        refine WL.step ?_
        refine WL.pickF rfl rfl rfl ?_
        refine WL.nil ?_
        refine WQ.chunks (C' := [pt b3 [Value.int .u8 t.op, .string (str t.name), .slice a t.kids.length c] 24]) (fun w hS => ((St.pick hS (c := pt b3 [Value.int .u8 t.op, .string (str t.name), .slice a t.kids.length c] 24) (by repeat (first | exact Rem.here | apply Rem.there)))).sublist (List.Sublist.cons_cons _ (List.nil_sublist _))) ?_
        refine WQ.byCut hQ (subF_bool ?_ ⟨rfl, trivial⟩ rfl)
        first | (simp [g10]; done) | (simp [g10, g15]; done)
  refine WQ.then_normal ?_
  refine WC.cond rfl (fun h21 => ?_) (fun h21 => ?_)
  · skip
    refine WC.seq ?_
    refine WC.region ?_
    refine WL.step ?_
    refine WL.assign rfl rfl ?_
    refine WL.nil ?_
    refine WQ.then_normal ?_
    refine WC.ret ?_
    refine WQ.then_ret ?_
    exact WQ.ret (rs := [.tmp 6]) rfl (.tmp rfl .nil) (fun w hS => ⟨by (unfold fewB; rw [h21]; rfl), hS.sublist (List.nil_sublist _)⟩)
  · skip
    have hll : names.length ≤ 30 := by simp at h21; omega
    refine WC.skip ?_
    refine WQ.then_normal ?_
    refine WC.seq ?_
    refine WC.seq ?_
    refine WC.region ?_
    refine WL.step ?_
    refine WL.assign rfl rfl ?_
    refine WL.nil ?_
    refine WQ.then_normal ?_
    refine WC.block ?_
    refine WC.chunks (C' := []) (fun w hS => hS.sublist (List.nil_sublist _)) ?_
    refine WC.loop (α := Nat) (fun i => i ≤ names.length ∧ (names.take i).all (fun s => decide (s.length ≤ 100)) = true) (fun i => [(1, .slice na names.length nc), (7, .int .i64 (i : Int))]) (fun _ => []) (fun i => names.length - i) (0) ?_ ?_ ?_ ?_
    · exact ⟨Nat.zero_le _, rfl⟩
    · exact ⟨rfl, rfl, trivial⟩
    · rfl
    rintro i ⟨hi, hall⟩
    refine WC.seq ?_
    refine WC.seq ?_
    refine WC.region ?_
    refine WL.step ?_
    refine WL.move rfl rfl ?_
    refine WL.step ?_
    refine WL.move rfl rfl ?_
    refine WL.step ?_
    refine WL.lenSl F.und25 rfl rfl ?_
    refine WL.step ?_
    refine WL.ltI rfl rfl rfl ?_
    refine WL.nil ?_
    refine WQ.then_normal ?_
    refine WC.cond rfl (fun h25 => ?_) (fun h25 => ?_)
    · skip
      have hlt : i < names.length := by simpa using h25
      obtain ⟨s, hx⟩ : ∃ s, names[i]? = some s := ⟨_, List.getElem?_eq_getElem hlt⟩
      obtain ⟨b, off, rfl, hcell⟩ := hnr i s hx
      refine WC.skip ?_
      refine WQ.then_normal ?_
      refine WC.seq ?_
      refine WC.block ?_
      refine WC.seq ?_
      refine WC.region ?_
      refine WL.step ?_
      refine WL.move rfl rfl ?_
      refine WL.step ?_
      refine WL.move rfl rfl ?_
      refine WL.step ?_
      refine WL.indexAddr F.sl25 rfl rfl rfl hlt ?_
      refine WL.step ?_
      refine WL.load1 F.one9 rfl rfl (v := .string (str s)) (fun w hS => hS.oldc (by simpa using hcell) (by simp)) ?_
      refine WL.step ?_
      refine WL.lenS F.und9 rfl rfl ?_
      refine WL.step ?_
      refine WL.gtI rfl rfl rfl ?_
      refine WL.nil ?_
      refine WQ.then_normal ?_
      refine WC.cond rfl (fun h33 => ?_) (fun h33 => ?_)
      · skip
        have hno : names.all (fun s => decide (s.length ≤ 100)) = false := by
          cases hq : names.all (fun s => decide (s.length ≤ 100)) with
          | false => rfl
          | true =>
            have := List.all_eq_true.1 hq s (List.mem_of_getElem? hx)
            simp at this h33; omega
        refine WC.seq ?_
        refine WC.region ?_
        refine WL.step ?_
        refine WL.assign rfl rfl ?_
        refine WL.nil ?_
        refine WQ.then_normal ?_
        refine WC.ret ?_
        refine WQ.block_ret ?_
        refine WQ.then_ret ?_
        refine WQ.then_ret ?_
        refine WQ.block_ret ?_
        refine WQ.then_ret ?_
        exact WQ.ret (rs := [.tmp 6]) rfl (.tmp rfl .nil) (fun w hS => ⟨by (unfold fewB; rw [hno, Bool.and_false]; rfl), hS.sublist (List.nil_sublist _)⟩)
      · skip
        refine WC.skip ?_
        refine WQ.block_normal ?_
        refine WQ.then_normal ?_
        refine WC.region ?_
        refine WL.step ?_
        refine WL.move rfl rfl ?_
        refine WL.step ?_
        refine WL.add rfl rfl rfl ⟨by omega, by omega⟩ ?_
        refine WL.step ?_
        refine WL.assign rfl rfl ?_
        refine WL.nil ?_
        refine WQ.back (i + 1) ?_ ?_ ?_ ?_
        · exact ⟨by omega, by rw [List.take_add_one, hx, List.all_append, hall]; simp at h33 ⊢; omega⟩
        · omega
        · exact ⟨rfl, rfl, trivial⟩
        · rfl
    · skip
      have hie : i = names.length := by simp at h25; omega
      subst hie
      rw [List.take_length] at hall
      refine WC.exit ?_
      refine WQ.then_exit ?_
      refine WQ.then_exit ?_
      refine WQ.block_exit ?_
      refine WQ.then_normal ?_
      refine WC.seq ?_
      refine WC.region ?_
      refine WL.step ?_
      refine WL.assign rfl rfl ?_
      refine WL.nil ?_
      refine WQ.then_normal ?_
      refine WC.ret ?_
      exact WQ.ret (rs := [.tmp 6]) rfl (.tmp rfl .nil) (fun w hS => ⟨by (unfold fewB; rw [h21, hall]; rfl), hS⟩)

end Go.Proofs.YtkgllhkhdjodeaaGreat

/-
 Features and truth tables in memory. By an AI agent.
-/
namespace Go.Proofs.YtkgllhkhdjodeaaGreat
open Go Go.Eng Go.Proofs Dg
abbrev nms (l : List Nat) : List Value := l.map (fun (i : Nat) => Value.int .i64 (i : Int))
theorem nms_at {l : List Nat} {i v : Nat} (h : l[i]? = some v) : (nms l)[i]? = some (.int .i64 (v : Int)) := by
 rw [List.getElem?_map, h]; rfl
def RdV (w : World) (v : List Nat) (a : Option Addr) : Prop := ∀ (j x : Nat), v[j]? = some x → ∃ b off, a = some ⟨b, off, none⟩ ∧ w.cell? ⟨b, off + j, none⟩ = some (.int .i64 (x : Int))
theorem RdV.next {w0 w : World} {C : List Chunk} {v : List Nat} {a : Option Addr} (h : RdV w0 v a) (hS : St w0 [] C w) : RdV w v a := fun j x hx => by
 obtain ⟨b, off, ha, hc⟩ := h j x hx
 exact ⟨b, off, ha, hS.oldc hc (by simp)⟩
theorem RdV.of_row {w : World} {v : List Nat} {a : Option Addr} {n cap : Nat} {e : TypeId} (hn : n = v.length) (h : (rowc (.slice a n cap) n e 1 (nms v)).ok w) : RdV w v a := fun j x hx => by
 have hlt := (List.getElem?_eq_some_iff.1 hx).1
 obtain ⟨g, hg, _, _⟩ := rowc_addr h (by omega)
 subst hg
 exact ⟨g, 0, rfl, by rw [Nat.zero_add]; exact rowc_cell h (nms_at hx)⟩
def RdB (w : World) (bs : List Bool) (a : Option Addr) : Prop := ∀ j x, bs[j]? = some x → ∃ b off, a = some ⟨b, off, none⟩ ∧ w.cell? ⟨b, off + j, none⟩ = some (.bool x)
theorem RdB.next {w0 w : World} {C : List Chunk} {v : List Bool} {a : Option Addr} (h : RdB w0 v a) (hS : St w0 [] C w) : RdB w v a := fun j x hx => by
 obtain ⟨b, off, ha, hc⟩ := h j x hx
 exact ⟨b, off, ha, hS.oldc hc (by simp)⟩
theorem RdB.of_row {w : World} {v : List Bool} {a : Option Addr} {n cap : Nat} {e : TypeId} (hn : n = v.length) (h : (rowc (.slice a n cap) n e 1 (bls v)).ok w) : RdB w v a := fun j x hx => by
 have hlt := (List.getElem?_eq_some_iff.1 hx).1
 obtain ⟨g, hg, _, _⟩ := rowc_addr h (by omega)
 subst hg
 exact ⟨g, 0, rfl, by rw [Nat.zero_add]; exact rowc_cell h (bls_at hx)⟩
theorem run_quo2I {n : Nat} (hn : n < 9223372036854775808) (t : TypeId) (x y : Operand) (w : World) : (do eqGuard .quo t x y (.int .i64 (n : Int)) (.int .i64 2); binOp .quo t (.int .i64 (n : Int)) (.int .i64 2) : Sem Value).run Tryz.prog w = .ok (.int .i64 ((n / 2 : Nat) : Int)) w := by
 have h1 : (n : Int).tdiv 2 = (n : Int) / 2 := Int.tdiv_eq_ediv_of_nonneg (Int.natCast_nonneg _)
 have h2 : IntKind.i64.wrap ((n : Int) / 2) = (n : Int) / 2 := by
  unfold IntKind.wrap
  simp [IntKind.signed, IntKind.bits]
  omega
 simp [eqGuard, binOp, Op.intDiv, h1, h2]
theorem run_add32 {a b : Nat} (h : a + b < 4294967296) (t : TypeId) (x y : Operand) (w : World) :
  (do eqGuard .add t x y (.int .u32 (a : Int)) (.int .u32 (b : Int)); binOp .add t (.int .u32 (a : Int)) (.int .u32 (b : Int)) : Sem Value).run Tryz.prog w = .ok (.int .u32 ((a + b : Nat) : Int)) w := by
 have h1 := wrap_u32 h
 simp only [Int.natCast_add] at h1
 simp [eqGuard, binOp, Op.intArith, h1]
end Go.Proofs.YtkgllhkhdjodeaaGreat

/-! Tables over features. -/
namespace Dg
/-- The number of an index's configuration. -/
def confN : List Nat → Nat → Nat
 | [], _ => 0
 | x :: v, k => (if k % 2 = 1 then 2 ^ x else 0) + confN v (k / 2)
/-- The index of a number's configuration. -/
def hasN : List Nat → Nat → Nat
 | [], _ => 0
 | x :: v, c => (if c.testBit x then 1 else 0) + 2 * hasN v c
def numN (v : List Nat) : Nat := v.foldl (fun s x => s ||| 2 ^ x) 0
theorem hasN_lt : ∀ (v : List Nat) (c : Nat), hasN v c < 2 ^ v.length
 | [], _ => by simp [hasN]
 | x :: v, c => by
  have := hasN_lt v c
  simp only [hasN, List.length_cons, Nat.pow_succ]
  split <;> omega
theorem confN_div : ∀ (v : List Nat) (k m : Nat), (∀ y ∈ v, m ≤ y) → ∃ q, confN v k = 2 ^ m * q
 | [], k, m, _ => ⟨0, by simp [confN]⟩
 | x :: v, k, m, h => by
  obtain ⟨q, hq⟩ := confN_div v (k / 2) m (fun y hy => h y (List.mem_cons_of_mem _ hy))
  have hx := h x (List.mem_cons_self ..)
  simp only [confN, hq]
  split
  ·refine ⟨2 ^ (x - m) + q, ?_⟩
   rw [Nat.mul_add, ← Nat.pow_add, Nat.add_sub_cancel' hx]
  ·exact ⟨q, by simp⟩
theorem confN_cons {x : Nat} {v : List Nat} (hp : (x :: v).Pairwise (· < ·)) (k j : Nat) : (confN (x :: v) k).testBit j = if j = x then decide (k % 2 = 1) else (confN v (k / 2)).testBit j := by
 obtain ⟨q, hq⟩ := confN_div v (k / 2) (x + 1) (fun y hy => (List.pairwise_cons.1 hp).1 y hy)
 have hb : (if k % 2 = 1 then 2 ^ x else 0) < 2 ^ (x + 1) := by
  have : 2 ^ x < 2 ^ (x + 1) := Nat.pow_lt_pow_right (by decide) (Nat.lt_succ_self x)
  split
  ·exact this
  ·exact Nat.two_pow_pos _
 have e : confN (x :: v) k = 2 ^ (x + 1) * q + (if k % 2 = 1 then 2 ^ x else 0) := by
  simp only [confN, hq]; omega
 rw [e, Nat.testBit_two_pow_mul_add _ hb, hq]
 have h2 := Nat.testBit_two_pow_mul_add q (Nat.two_pow_pos (x + 1)) j
 rw [Nat.add_zero] at h2
 by_cases hj : j = x
 ·subst hj
  rw [if_pos (by omega), if_pos rfl]
  split <;> rename_i h
  ·rw [Nat.testBit_two_pow_self, decide_eq_true h]
  ·rw [Nat.zero_testBit, decide_eq_false h]
 ·rw [if_neg hj, h2]
  by_cases hl : j < x + 1
  ·rw [if_pos hl, if_pos hl, Nat.zero_testBit]
   split
   ·rw [Nat.testBit_two_pow]; simp; omega
   ·exact Nat.zero_testBit _
  ·rw [if_neg hl, if_neg hl]
theorem conf_has : ∀ (v : List Nat) (c : Nat), v.Pairwise (· < ·) → ∀ j, (confN v (hasN v c)).testBit j = (decide (j ∈ v) && c.testBit j)
 | [], c, _, j => by simp [confN]
 | x :: v, c, hp, j => by
  have hp' := List.pairwise_cons.1 hp
  have ih := conf_has v c hp'.2 j
  rw [confN_cons hp]
  have e1 : hasN (x :: v) c / 2 = hasN v c := by simp only [hasN]; split <;> omega
  have e0 : hasN (x :: v) c % 2 = (if c.testBit x then 1 else 0) := by
   simp only [hasN]; split <;> omega
  have e2 : decide (hasN (x :: v) c % 2 = 1) = c.testBit x := by
   by_cases hc : c.testBit x = true
   ·rw [hc, if_pos rfl] at e0
    rw [hc]; exact decide_eq_true e0
   ·have hc' : c.testBit x = false := by simpa using hc
    rw [hc', if_neg (by simp)] at e0
    rw [hc']; exact decide_eq_false (by omega)
  rw [e1, e2, ih]
  by_cases hj : j = x
  ·subst hj; simp
  ·rw [if_neg hj]; simp [hj]
theorem has_conf : ∀ (v : List Nat) (k : Nat), v.Pairwise (· < ·) → k < 2 ^ v.length → hasN v (confN v k) = k
 | [], k, _, h => by simp at h; simp [hasN, h]
 | x :: v, k, hp, h => by
  have hp' := List.pairwise_cons.1 hp
  have hk : k / 2 < 2 ^ v.length := by simp only [List.length_cons, Nat.pow_succ] at h; omega
  have ih := has_conf v (k / 2) hp'.2 hk
  have hx := confN_cons hp k x
  rw [if_pos rfl] at hx
  have hh : ∀ (u : List Nat) (c d : Nat), (∀ y ∈ u, c.testBit y = d.testBit y) → hasN u c = hasN u d := by
   intro u
   induction u with
   | nil => intro c d _; rfl
   | cons y u ihu =>
    intro c d hcd
    simp only [hasN]
    rw [hcd y (List.mem_cons_self ..), ihu c d (fun z hz => hcd z (List.mem_cons_of_mem _ hz))]
  have e : hasN v (confN (x :: v) k) = hasN v (confN v (k / 2)) := hh v _ _ fun y hy => by
   rw [confN_cons hp, if_neg (by have := hp'.1 y hy; omega)]
  simp only [hasN]
  rw [hx, e, ih]
  by_cases h1 : k % 2 = 1
  ·simp [h1]; omega
  ·simp [h1]; omega
theorem hasN_snoc : ∀ (v : List Nat) (x c : Nat), hasN (v ++ [x]) c = hasN v c + (if c.testBit x then 2 ^ v.length else 0)
 | [], x, c => by simp [hasN]
 | y :: v, x, c => by
  have ih := hasN_snoc v x c
  simp only [List.cons_append, hasN, ih, List.length_cons, Nat.pow_succ]
  split <;> split <;> omega
theorem confN_drop {v : List Nat} {i x : Nat} (h : v[i]? = some x) (k : Nat) : confN (v.drop i) k = (if k % 2 = 1 then 2 ^ x else 0) + confN (v.drop (i + 1)) (k / 2) := by
 rw [List.drop_eq_getElem_cons (List.getElem?_eq_some_iff.1 h).1, (List.getElem?_eq_some_iff.1 h).2]
 rfl
theorem confN_lt : ∀ (v : List Nat) (k m : Nat), v.Pairwise (· < ·) → (∀ y ∈ v, y < m) → confN v k < 2 ^ m := by
 intro v k m hp hm
 refine Nat.lt_pow_two_of_testBit _ fun j hj => ?_
 have key : ∀ (u : List Nat) (k : Nat), u.Pairwise (· < ·) → (∀ y ∈ u, y < m) → (confN u k).testBit j = false := by
  intro u
  induction u with
  | nil => intro k _ _; simp [confN]
  | cons y u ih =>
   intro k hp hm
   have hy := hm y (List.mem_cons_self ..)
   rw [confN_cons hp, if_neg (by omega)]
   exact ih (k / 2) (List.pairwise_cons.1 hp).2 (fun z hz => hm z (List.mem_cons_of_mem _ hz))
 exact key v k hp hm
end Dg

namespace Go.Proofs.YtkgllhkhdjodeaaGreat
open Go Go.Eng Go.Proofs Dg
structure CfgG where
 i : Nat
 s : Nat
 k : Nat
theorem bit_two {x : Nat} (h : x < 24) : 2 ^ x < 4294967296 := pow32 (by omega)

theorem Config_c (v : List Nat) (k : Nat) (hk : k < 9223372036854775808) (hp : v.Pairwise (· < ·)) (hv24 : ∀ x ∈ v, x < 24) (hvl : v.length ≤ 24) (a : Option Addr) (c : Nat) (w : World) (hr : RdV w v a) : Pure Tryz.prog 48 [.slice a v.length c, .int .i64 (k : Int)] w (.int .u32 (confN v k : Int)) := by
 have hcl : confN v k < 2 ^ 24 := confN_lt v k 24 hp hv24
 refine enter Tryz.func48 rfl Tryz.ntmps48 rfl (St.init _) ?_
 refine jN 20 ?_
 refine WC.loop (α := CfgG) (fun g => (g.i ≤ v.length ∧ g.k < 9223372036854775808) ∧ g.s + confN (v.drop g.i) g.k = confN v k) (fun g => [(0, .slice a v.length c), (1, .int .i64 (g.k : Int)), (5, .int .u32 (g.s : Int)), (6, .int .i64 (g.i : Int))]) (fun _ => []) (fun g => v.length - g.i) (⟨0, 0, k⟩) ?_ ?_ ?_ ?_
 ·exact ⟨⟨Nat.zero_le _, hk⟩, by simp⟩
 ·exact ⟨rfl, rfl, rfl, rfl, trivial⟩
 ·rfl
 rintro ⟨i, s, k1⟩ ⟨⟨hi, hk1⟩, hs⟩
 dsimp only at hi hk1 hs
 show WC _ _ _ _ _ _ _ [(0, .slice a v.length c), (1, .int .i64 (k1 : Int)), (5, .int .u32 (s : Int)), (6, .int .i64 (i : Int))] []
 refine jN 13 ?_
 refine WC.cond rfl (fun h10 => ?_) (fun h10 => ?_)
 ·have hlt : i < v.length := by simpa using h10
  obtain ⟨x, hx⟩ : ∃ x, v[i]? = some x := ⟨_, List.getElem?_eq_getElem hlt⟩
  obtain ⟨b, off, rfl, hcell⟩ := hr i x hx
  have hx24 := hv24 x (List.mem_of_getElem? hx)
  rw [confN_drop hx] at hs
  refine jN 10 ?_
  refine WL.bin (v := .int .i64 ((k1 % 2 : Nat) : Int)) rfl rfl rfl (fun w => run_rem2I _ _ _ w) ?_
  refine jN 4 ?_
  refine WC.cond rfl (fun h15 => ?_) (fun h15 => ?_)
  ·have hb : k1 % 2 = 1 := by (have h9 : ((k1 % 2 : Nat) : Int) = 1 := by simpa using h15); omega
   rw [if_pos hb] at hs
   refine jN 8 ?_
   refine WL.indexAddr F.sl41 rfl rfl rfl hlt ?_
   refine jN 1 ?_
   refine WL.load1 F.one3 rfl rfl (v := .int .i64 (x : Int)) (fun w hS => hS.oldc (by simpa using hcell) (by simp)) ?_
   refine jN 1 ?_
   refine WL.convert rfl rfl (v := .int .u64 (x : Int)) (fun w hS => conv61 (by omega) w) ?_
   refine jN 1 ?_
   refine WL.bin (v := .int .u32 ((2 ^ x : Nat) : Int)) rfl rfl rfl (fun w => run_shl1U (by omega) _ _ _ w) ?_
   refine jN 1 ?_
   refine WL.bin (v := .int .u32 ((s + 2 ^ x : Nat) : Int)) rfl rfl rfl (fun w => run_add32 (by omega) _ _ _ w) ?_
   refine jN 8 ?_
   refine WL.bin (v := .int .i64 ((k1 / 2 : Nat) : Int)) rfl rfl rfl (fun w => run_quo2I hk1 _ _ _ w) ?_
   refine jN 13 ?_
   refine WQ.back (⟨i + 1, s + 2 ^ x, k1 / 2⟩) ?_ ?_ ?_ ?_
   ·exact ⟨⟨by show i + 1 ≤ v.length; omega, by show k1 / 2 < _; omega⟩, by show s + 2 ^ x + confN (v.drop (i + 1)) (k1 / 2) = _; omega⟩
   ·(show v.length - (i + 1) < v.length - i; omega)
   ·exact ⟨rfl, rfl, rfl, rfl, trivial⟩
   ·rfl
  ·have hb : ¬ k1 % 2 = 1 := by (intro e; rw [e] at h15; simp at h15)
   rw [if_neg hb] at hs
   refine jN 6 ?_
   refine WL.bin (v := .int .i64 ((k1 / 2 : Nat) : Int)) rfl rfl rfl (fun w => run_quo2I hk1 _ _ _ w) ?_
   refine jN 13 ?_
   refine WQ.back (⟨i + 1, s, k1 / 2⟩) ?_ ?_ ?_ ?_
   ·exact ⟨⟨by show i + 1 ≤ v.length; omega, by show k1 / 2 < _; omega⟩, by show s + confN (v.drop (i + 1)) (k1 / 2) = _; omega⟩
   ·(show v.length - (i + 1) < v.length - i; omega)
   ·exact ⟨rfl, rfl, rfl, rfl, trivial⟩
   ·rfl
 ·have hie : i = v.length := by simp at h10; omega
  subst hie
  rw [List.drop_length] at hs
  have hs2 : s = confN v k := by simpa [confN] using hs
  refine jN 14 ?_
  exact WQ.ret (rs := [.tmp 4]) rfl (.tmp rfl .nil) (fun w hS => ⟨by rw [hs2]; rfl, hS⟩)

theorem selected_c (M x : Nat) (hx : x < 24) (w : World) : Pure Tryz.prog 124 [.int .u32 (M : Int), .int .i64 (x : Int)] w (.bool (M.testBit x)) := by
 refine enter Tryz.func124 rfl Tryz.ntmps124 rfl (St.init _) ?_
 refine jN 13 ?_
 refine WL.convert rfl rfl (v := .int .u64 (x : Int)) (fun w hS => conv61 (by omega) w) ?_
 refine jN 1 ?_
 refine WL.bin (v := .int .u32 ((M >>> x : Nat) : Int)) rfl rfl rfl (fun w => run_shrU (by omega) _ _ _ w) ?_
 refine jN 1 ?_
 refine WL.bin (v := .int .u32 ((M >>> x % 2 : Nat) : Int)) rfl rfl rfl (fun w => run_rem2 _ _ _ w) ?_
 refine jN 7 ?_
 exact WQ.ret (rs := [.tmp 4]) rfl (.tmp rfl .nil) (fun w hS => ⟨retB (rem_bit M x), hS⟩)

theorem numN_take {v : List Nat} {i x : Nat} (h : v[i]? = some x) : numN (v.take (i + 1)) = numN (v.take i) ||| 2 ^ x := by
 unfold numN; rw [List.take_add_one, h]; simp
theorem numN_lt : ∀ (v : List Nat) (s : Nat), (∀ x ∈ v, x < 24) → s < 2 ^ 24 → v.foldl (fun s x => s ||| 2 ^ x) s < 2 ^ 24
 | [], s, _, h => h
 | x :: v, s, hx, h => numN_lt v _ (fun y hy => hx y (List.mem_cons_of_mem _ hy)) (Nat.or_lt_two_pow h (Nat.pow_lt_pow_right (by decide) (hx x (List.mem_cons_self ..))))

theorem Number_c (v : List Nat) (hv24 : ∀ x ∈ v, x < 24) (hvl : v.length ≤ 24) (a : Option Addr) (c : Nat) (w : World) (hr : RdV w v a) : Pure Tryz.prog 69 [.slice a v.length c] w (.int .u32 (numN v : Int)) := by
 refine enter Tryz.func69 rfl Tryz.ntmps69 rfl (St.init _) ?_
 refine jN 20 ?_
 refine WC.loop (α := Nat) (fun i => i ≤ v.length) (fun i => [(0, .slice a v.length c), (3, .int .u32 (numN (v.take i) : Int)), (4, .int .i64 (i : Int))]) (fun _ => []) (fun i => v.length - i) (0) ?_ ?_ ?_ ?_
 ·exact Nat.zero_le _
 ·exact ⟨rfl, rfl, rfl, trivial⟩
 ·rfl
 rintro i hi
 show WC _ _ _ _ _ _ _ [(0, .slice a v.length c), (3, .int .u32 (numN (v.take i) : Int)), (4, .int .i64 (i : Int))] []
 refine jN 13 ?_
 refine WC.cond rfl (fun h8 => ?_) (fun h8 => ?_)
 ·have hlt : i < v.length := by simpa using h8
  obtain ⟨x, hx⟩ : ∃ x, v[i]? = some x := ⟨_, List.getElem?_eq_getElem hlt⟩
  obtain ⟨b, off, rfl, hcell⟩ := hr i x hx
  have hx24 := hv24 x (List.mem_of_getElem? hx)
  have hsl : numN (v.take i) < 2 ^ 24 := numN_lt _ _ (fun y hy => hv24 y (List.mem_of_mem_take hy)) (by decide)
  have hx32 := bit_two hx24
  refine jN 12 ?_
  refine WL.indexAddr F.sl41 rfl rfl rfl hlt ?_
  refine jN 1 ?_
  refine WL.load1 F.one3 rfl rfl (v := .int .i64 (x : Int)) (fun w hS => hS.oldc (by simpa using hcell) (by simp)) ?_
  refine jN 1 ?_
  refine WL.convert rfl rfl (v := .int .u64 (x : Int)) (fun w hS => conv61 (by omega) w) ?_
  refine jN 1 ?_
  refine WL.bin (v := .int .u32 ((2 ^ x : Nat) : Int)) rfl rfl rfl (fun w => run_shl1U (by omega) _ _ _ w) ?_
  refine jN 1 ?_
  refine WL.bin rfl rfl rfl (fun w => run_or (by omega) hx32 _ _ _ w) ?_
  refine jN 13 ?_
  refine WQ.back (i + 1) (by show i + 1 ≤ v.length; omega) (by show v.length - (i + 1) < v.length - i; omega) ?_ rfl
  simp only [numN_take hx]
  exact ⟨rfl, rfl, rfl, trivial⟩
 ·have hie : i = v.length := by simp at h8; omega
  subst hie
  rw [List.take_length]
  refine jN 14 ?_
  exact WQ.ret (rs := [.tmp 2]) rfl (.tmp rfl .nil) (fun w hS => ⟨rfl, hS⟩)

end Go.Proofs.YtkgllhkhdjodeaaGreat

namespace Go.Proofs.YtkgllhkhdjodeaaGreat
open Go Go.Eng Go.Proofs Dg
theorem run_twoI {n : Nat} (hn : 2 * n < 9223372036854775808) (t : TypeId) (x y : Operand) (w : World) :
    (do eqGuard .mul t x y (.int .i64 2) (.int .i64 (n : Int)); binOp .mul t (.int .i64 2) (.int .i64 (n : Int)) : Sem Value).run Tryz.prog w = .ok (.int .i64 ((2 * n : Nat) : Int)) w := by
  have h2 : IntKind.i64.wrap (2 * (n : Int)) = 2 * (n : Int) := by
    unfold IntKind.wrap
    simp [IntKind.signed, IntKind.bits]
    omega
  simp [eqGuard, binOp, Op.intArith, h2]
abbrev scells (v : List Nat) (a : Option Addr) (c : Nat) (bs : List Bool) (ta : Option Addr) (tc : Nat) : List Value := [.slice a v.length c, .slice ta bs.length tc]
abbrev sval (v : List Nat) (a : Option Addr) (c : Nat) (bs : List Bool) (ta : Option Addr) (tc : Nat) : Value := .agg (scells v a c bs ta tc).toArray
theorem hasN_take {v : List Nat} {i x : Nat} (h : v[i]? = some x) (M : Nat) : hasN (v.take (i + 1)) M = hasN (v.take i) M + (if M.testBit x then 2 ^ i else 0) := by
  have hi := (List.getElem?_eq_some_iff.1 h).1
  rw [List.take_add_one, h]
  show hasN (v.take i ++ [x]) M = _
  rw [hasN_snoc]
  have : (v.take i).length = i := by simp; omega
  rw [this]

theorem rHas_c (v : List Nat) (bs : List Bool) (M : Nat) (hv24 : ∀ x ∈ v, x < 24) (hvl : v.length ≤ 24) (hbl : bs.length = 2 ^ v.length) (a ta : Option Addr) (c tc : Nat) (w : World) (hr : RdV w v a) (hrb : RdB w bs ta) :
    Pure Tryz.prog 125 [sval v a c bs ta tc, .int .u32 (M : Int)] w (.bool (bs.getD (hasN v M) false)) := by
  refine enter Tryz.func125 rfl Tryz.ntmps125 rfl (St.init _) ?_
  refine WC.seq ?_
  refine WC.region ?_
  refine WL.step ?_
  refine WL.boxN rfl rfl (fun b2 => ?_)
  refine WL.step ?_
  refine WL.assign rfl rfl ?_
  refine WL.nil ?_
  refine WQ.then_normal ?_
  refine WC.seq ?_
  refine WC.region ?_
  refine WL.step ?_
  refine WL.assign rfl rfl ?_
  refine WL.step ?_
  refine WL.assign rfl rfl ?_
  refine WL.nil ?_
  refine WQ.then_normal ?_
  refine WC.seq ?_
  refine WC.seq ?_
  refine WC.region ?_
  refine WL.step ?_
  refine WL.assign rfl rfl ?_
  refine WL.nil ?_
  refine WQ.then_normal ?_
  refine WC.block ?_
  refine WC.chunks (C' := [pt b2 (scells v a c bs ta tc) 44]) (fun w hS => ((St.pick hS (c := pt b2 (scells v a c bs ta tc) 44) (by repeat (first | exact Rem.here | apply Rem.there)))).sublist (List.Sublist.cons_cons _ (List.nil_sublist _))) ?_
  refine WC.loop (α := Nat) (fun i => i ≤ v.length) (fun i => [(1, .int .u32 (M : Int)), (2, pp b2), (5, .int .i64 (hasN (v.take i) M : Int)), (6, .int .i64 ((2 ^ i : Nat) : Int)), (7, .int .i64 (i : Int))]) (fun _ => [pt b2 (scells v a c bs ta tc) 44]) (fun i => v.length - i) (0) ?_ ?_ ?_ ?_
  · exact Nat.zero_le _
  · exact ⟨rfl, rfl, rfl, rfl, rfl, trivial⟩
  · rfl
  rintro i hi
  show WC _ _ _ _ _ _ _ [(1, .int .u32 (M : Int)), (2, pp b2), (5, .int .i64 (hasN (v.take i) M : Int)), (6, .int .i64 ((2 ^ i : Nat) : Int)), (7, .int .i64 (i : Int))] [pt b2 (scells v a c bs ta tc) 44]
  refine WC.seq ?_
  refine WC.seq ?_
  refine WC.region ?_
  refine WL.step ?_
  refine WL.move rfl rfl ?_
  refine WL.step ?_
  refine WL.fieldAddr0 F.fld44_0 rfl rfl ?_
  refine WL.step ?_
  refine WL.loadP F.one41 rfl rfl (by repeat (first | exact List.Mem.head _ | apply List.Mem.tail)) rfl ?_
  refine WL.step ?_
  refine WL.lenSl F.und41 rfl rfl ?_
  refine WL.step ?_
  refine WL.ltI rfl rfl rfl ?_
  refine WL.nil ?_
  refine WQ.then_normal ?_
  refine WC.cond rfl (fun h12 => ?_) (fun h12 => ?_)
  · skip
    have hlt : i < v.length := by simpa using h12
    obtain ⟨x, hx⟩ : ∃ x, v[i]? = some x := ⟨_, List.getElem?_eq_getElem hlt⟩
    obtain ⟨b, off, rfl, hcell⟩ := hr i x hx
    have hx24 := hv24 x (List.mem_of_getElem? hx)
    have hst := hasN_take hx M
    have hhl := hasN_lt (v.take i) M
    have htl : (v.take i).length = i := by simp; omega
    rw [htl] at hhl
    have h2i : 2 ^ i < 2 ^ 24 := Nat.pow_lt_pow_right (by decide) (by omega)
    have h2s : 2 ^ (i + 1) = 2 * 2 ^ i := by (rw [Nat.pow_succ]; omega)
    refine WC.skip ?_
    refine WQ.then_normal ?_
    refine WC.seq ?_
    refine WC.block ?_
    refine WC.seq ?_
    refine WC.seq ?_
    refine WC.region ?_
    refine WL.step ?_
    refine WL.move rfl rfl ?_
    refine WL.step ?_
    refine WL.fieldAddr0 F.fld44_0 rfl rfl ?_
    refine WL.step ?_
    refine WL.loadP F.one41 rfl rfl (by repeat (first | exact List.Mem.head _ | apply List.Mem.tail)) rfl ?_
    refine WL.step ?_
    refine WL.move rfl rfl ?_
    refine WL.step ?_
    refine WL.indexAddr F.sl41 rfl rfl rfl hlt ?_
    refine WL.step ?_
    refine WL.load1 F.one3 rfl rfl (v := .int .i64 (x : Int)) (fun w hS => hS.oldc (by simpa using hcell) (by simp)) ?_
    refine WL.step ?_
    refine WL.callV F.fun124 rfl rfl (fun w hS => selected_c M x hx24 w) ?_
    refine WL.nil ?_
    refine WQ.then_normal ?_
    refine WC.cond rfl (fun h21 => ?_) (fun h21 => ?_)
    · skip
      rw [if_pos h21] at hst
      refine WC.region ?_
      refine WL.step ?_
      refine WL.move rfl rfl ?_
      refine WL.step ?_
      refine WL.move rfl rfl ?_
      refine WL.step ?_
      refine WL.add rfl rfl rfl ⟨by omega, by omega⟩ ?_
      refine WL.step ?_
      refine WL.assign rfl rfl ?_
      refine WL.nil ?_
      refine WQ.then_normal ?_
      refine WC.region ?_
      refine WL.step ?_
      refine WL.move rfl rfl ?_
      refine WL.step ?_
      refine WL.bin (v := .int .i64 ((2 * 2 ^ i : Nat) : Int)) rfl rfl rfl (fun w => run_twoI (by omega) _ _ _ w) ?_
      refine WL.step ?_
      refine WL.assign rfl rfl ?_
      refine WL.nil ?_
      refine WQ.block_normal ?_
      refine WQ.then_normal ?_
      refine WC.region ?_
      refine WL.step ?_
      refine WL.move rfl rfl ?_
      refine WL.step ?_
      refine WL.add rfl rfl rfl ⟨by omega, by omega⟩ ?_
      refine WL.step ?_
      refine WL.assign rfl rfl ?_
      refine WL.nil ?_
      refine WQ.chunks (C' := [pt b2 (scells v (some ⟨b, off, none⟩) c bs ta tc) 44]) (fun w hS => ((St.pick hS (c := pt b2 (scells v (some ⟨b, off, none⟩) c bs ta tc) 44) (by repeat (first | exact Rem.here | apply Rem.there)))).sublist (List.Sublist.cons_cons _ (List.nil_sublist _))) ?_
      refine WQ.back (i + 1) (by show i + 1 ≤ v.length; omega) (by show v.length - (i + 1) < v.length - i; omega) ?_ rfl
      simp only [hst, h2s]
      exact ⟨rfl, rfl, rfl, rfl, rfl, trivial⟩
    · skip
      rw [if_neg (by rw [h21]; simp)] at hst
      refine WC.skip ?_
      refine WQ.then_normal ?_
      refine WC.region ?_
      refine WL.step ?_
      refine WL.move rfl rfl ?_
      refine WL.step ?_
      refine WL.bin (v := .int .i64 ((2 * 2 ^ i : Nat) : Int)) rfl rfl rfl (fun w => run_twoI (by omega) _ _ _ w) ?_
      refine WL.step ?_
      refine WL.assign rfl rfl ?_
      refine WL.nil ?_
      refine WQ.block_normal ?_
      refine WQ.then_normal ?_
      refine WC.region ?_
      refine WL.step ?_
      refine WL.move rfl rfl ?_
      refine WL.step ?_
      refine WL.add rfl rfl rfl ⟨by omega, by omega⟩ ?_
      refine WL.step ?_
      refine WL.assign rfl rfl ?_
      refine WL.nil ?_
      refine WQ.chunks (C' := [pt b2 (scells v (some ⟨b, off, none⟩) c bs ta tc) 44]) (fun w hS => ((St.pick hS (c := pt b2 (scells v (some ⟨b, off, none⟩) c bs ta tc) 44) (by repeat (first | exact Rem.here | apply Rem.there)))).sublist (List.Sublist.cons_cons _ (List.nil_sublist _))) ?_
      refine WQ.back (i + 1) (by show i + 1 ≤ v.length; omega) (by show v.length - (i + 1) < v.length - i; omega) ?_ rfl
      simp only [hst, h2s, Nat.add_zero]
      exact ⟨rfl, rfl, rfl, rfl, rfl, trivial⟩
  · skip
    have hie : i = v.length := by simp at h12; omega
    subst hie
    rw [List.take_length]
    have hhl := hasN_lt v M
    rw [← hbl] at hhl
    obtain ⟨x, hx⟩ : ∃ x, bs[hasN v M]? = some x := ⟨_, List.getElem?_eq_getElem hhl⟩
    obtain ⟨b, off, rfl, hcell⟩ := hrb _ x hx
    have hgd : bs.getD (hasN v M) false = x := by rw [List.getD_eq_getElem?_getD, hx]; rfl
    refine WC.exit ?_
    refine WQ.then_exit ?_
    refine WQ.then_exit ?_
    refine WQ.block_exit ?_
    refine WQ.then_normal ?_
    refine WC.seq ?_
    refine WC.region ?_
    refine WL.step ?_
    refine WL.fieldAddr0 F.fld44_1 rfl rfl ?_
    refine WL.step ?_
    refine WL.loadP F.one42 rfl rfl (by repeat (first | exact List.Mem.head _ | apply List.Mem.tail)) rfl ?_
    refine WL.step ?_
    refine WL.move rfl rfl ?_
    refine WL.step ?_
    refine WL.indexAddr F.sl42 rfl rfl rfl hhl ?_
    refine WL.step ?_
    refine WL.load1 F.one4 rfl rfl (v := .bool x) (fun w hS => hS.oldc (by simpa using hcell) (by simp)) ?_
    refine WL.step ?_
    refine WL.assign rfl rfl ?_
    refine WL.nil ?_
    refine WQ.then_normal ?_
    refine WC.ret ?_
    exact WQ.ret (rs := [.tmp 4]) rfl (.tmp rfl .nil) (fun w hS => ⟨by rw [hgd]; rfl, hS.sublist (List.nil_sublist _)⟩)

theorem Many_c (v : List Nat) (bs : List Bool) (hll : bs.length ≤ 1099511627776) (a ta : Option Addr) (c tc : Nat) (w : World) (hrb : RdB w bs ta) :
    Pure Tryz.prog 123 [sval v a c bs ta tc] w (.int .i64 (cntB bs : Int)) := by
  refine enter Tryz.func123 rfl Tryz.ntmps123 rfl (St.init _) ?_
  refine WC.seq ?_
  refine WC.region ?_
  refine WL.step ?_
  refine WL.boxN rfl rfl (fun b1 => ?_)
  refine WL.step ?_
  refine WL.assign rfl rfl ?_
  refine WL.nil ?_
  refine WQ.then_normal ?_
  refine WC.seq ?_
  refine WC.region ?_
  refine WL.step ?_
  refine WL.assign rfl rfl ?_
  refine WL.nil ?_
  refine WQ.then_normal ?_
  refine WC.seq ?_
  refine WC.seq ?_
  refine WC.region ?_
  refine WL.step ?_
  refine WL.assign rfl rfl ?_
  refine WL.nil ?_
  refine WQ.then_normal ?_
  refine WC.block ?_
  refine WC.chunks (C' := [pt b1 (scells v a c bs ta tc) 44]) (fun w hS => ((St.pick hS (c := pt b1 (scells v a c bs ta tc) 44) (by repeat (first | exact Rem.here | apply Rem.there)))).sublist (List.Sublist.cons_cons _ (List.nil_sublist _))) ?_
  refine WC.loop (α := Nat) (fun i => i ≤ bs.length) (fun i => [(1, pp b1), (3, .int .i64 (cntB (bs.take i) : Int)), (4, .int .i64 (i : Int))]) (fun _ => [pt b1 (scells v a c bs ta tc) 44]) (fun i => bs.length - i) (0) ?_ ?_ ?_ ?_
  · exact Nat.zero_le _
  · exact ⟨rfl, rfl, rfl, trivial⟩
  · rfl
  rintro i hi
  show WC _ _ _ _ _ _ _ [(1, pp b1), (3, .int .i64 (cntB (bs.take i) : Int)), (4, .int .i64 (i : Int))] [pt b1 (scells v a c bs ta tc) 44]
  refine WC.seq ?_
  refine WC.seq ?_
  refine WC.region ?_
  refine WL.step ?_
  refine WL.move rfl rfl ?_
  refine WL.step ?_
  refine WL.fieldAddr0 F.fld44_1 rfl rfl ?_
  refine WL.step ?_
  refine WL.loadP F.one42 rfl rfl (by repeat (first | exact List.Mem.head _ | apply List.Mem.tail)) rfl ?_
  refine WL.step ?_
  refine WL.lenSl F.und42 rfl rfl ?_
  refine WL.step ?_
  refine WL.ltI rfl rfl rfl ?_
  refine WL.nil ?_
  refine WQ.then_normal ?_
  refine WC.cond rfl (fun h9 => ?_) (fun h9 => ?_)
  · skip
    have hlt : i < bs.length := by simpa using h9
    obtain ⟨x, hx⟩ : ∃ x, bs[i]? = some x := ⟨_, List.getElem?_eq_getElem hlt⟩
    obtain ⟨b, off, rfl, hcell⟩ := hrb i x hx
    have hst : cntB (bs.take (i + 1)) = cntB (bs.take i) + (if x then 1 else 0) := by (rw [List.take_add_one, hx]; exact cntB_snoc _ x)
    have hcl := cntB_le (bs.take i)
    have htl : (bs.take i).length = i := by simp; omega
    refine WC.skip ?_
    refine WQ.then_normal ?_
    refine WC.seq ?_
    refine WC.block ?_
    refine WC.seq ?_
    refine WC.region ?_
    refine WL.step ?_
    refine WL.fieldAddr0 F.fld44_1 rfl rfl ?_
    refine WL.step ?_
    refine WL.loadP F.one42 rfl rfl (by repeat (first | exact List.Mem.head _ | apply List.Mem.tail)) rfl ?_
    refine WL.step ?_
    refine WL.move rfl rfl ?_
    refine WL.step ?_
    refine WL.indexAddr F.sl42 rfl rfl rfl hlt ?_
    refine WL.step ?_
    refine WL.load1 F.one4 rfl rfl (v := .bool x) (fun w hS => hS.oldc (by simpa using hcell) (by simp)) ?_
    refine WL.nil ?_
    refine WQ.then_normal ?_
    refine WC.cond rfl (fun h16 => ?_) (fun h16 => ?_)
    · skip
      rw [if_pos h16] at hst
      refine WC.region ?_
      refine WL.step ?_
      refine WL.move rfl rfl ?_
      refine WL.step ?_
      refine WL.add rfl rfl rfl ⟨by omega, by omega⟩ ?_
      refine WL.step ?_
      refine WL.assign rfl rfl ?_
      refine WL.nil ?_
      refine WQ.block_normal ?_
      refine WQ.then_normal ?_
      refine WC.region ?_
      refine WL.step ?_
      refine WL.move rfl rfl ?_
      refine WL.step ?_
      refine WL.add rfl rfl rfl ⟨by omega, by omega⟩ ?_
      refine WL.step ?_
      refine WL.assign rfl rfl ?_
      refine WL.nil ?_
      refine WQ.chunks (C' := [pt b1 (scells v a c bs (some ⟨b, off, none⟩) tc) 44]) (fun w hS => ((St.pick hS (c := pt b1 (scells v a c bs (some ⟨b, off, none⟩) tc) 44) (by repeat (first | exact Rem.here | apply Rem.there)))).sublist (List.Sublist.cons_cons _ (List.nil_sublist _))) ?_
      refine WQ.back (i + 1) (by show i + 1 ≤ bs.length; omega) (by show bs.length - (i + 1) < bs.length - i; omega) ?_ rfl
      simp only [hst]
      exact ⟨rfl, rfl, rfl, trivial⟩
    · skip
      rw [if_neg (by rw [h16]; simp), Nat.add_zero] at hst
      refine WC.skip ?_
      refine WQ.block_normal ?_
      refine WQ.then_normal ?_
      refine WC.region ?_
      refine WL.step ?_
      refine WL.move rfl rfl ?_
      refine WL.step ?_
      refine WL.add rfl rfl rfl ⟨by omega, by omega⟩ ?_
      refine WL.step ?_
      refine WL.assign rfl rfl ?_
      refine WL.nil ?_
      refine WQ.chunks (C' := [pt b1 (scells v a c bs (some ⟨b, off, none⟩) tc) 44]) (fun w hS => ((St.pick hS (c := pt b1 (scells v a c bs (some ⟨b, off, none⟩) tc) 44) (by repeat (first | exact Rem.here | apply Rem.there)))).sublist (List.Sublist.cons_cons _ (List.nil_sublist _))) ?_
      refine WQ.back (i + 1) (by show i + 1 ≤ bs.length; omega) (by show bs.length - (i + 1) < bs.length - i; omega) ?_ rfl
      simp only [hst]
      exact ⟨rfl, rfl, rfl, trivial⟩
  · skip
    have hie : i = bs.length := by simp at h9; omega
    subst hie
    rw [List.take_length]
    refine WC.exit ?_
    refine WQ.then_exit ?_
    refine WQ.then_exit ?_
    refine WQ.block_exit ?_
    refine WQ.then_normal ?_
    refine WC.seq ?_
    refine WC.region ?_
    refine WL.step ?_
    refine WL.move rfl rfl ?_
    refine WL.step ?_
    refine WL.assign rfl rfl ?_
    refine WL.nil ?_
    refine WQ.then_normal ?_
    refine WC.ret ?_
    exact WQ.ret (rs := [.tmp 2]) rfl (.tmp rfl .nil) (fun w hS => ⟨rfl, hS.sublist (List.nil_sublist _)⟩)

theorem rEmpty_c (v : List Nat) (bs : List Bool) (hll : bs.length ≤ 1099511627776) (a ta : Option Addr) (c tc : Nat) (w : World) (hrb : RdB w bs ta) :
    Pure Tryz.prog 59 [sval v a c bs ta tc] w (.bool (!bs.any id)) := by
  refine enter Tryz.func59 rfl Tryz.ntmps59 rfl (St.init _) ?_
  refine WC.seq ?_
  refine WC.region ?_
  refine WL.step ?_
  refine WL.boxN rfl rfl (fun b1 => ?_)
  refine WL.step ?_
  refine WL.assign rfl rfl ?_
  refine WL.nil ?_
  refine WQ.then_normal ?_
  refine WC.seq ?_
  refine WC.region ?_
  refine WL.step ?_
  refine WL.loadW F.agg44 rfl rfl (by repeat (first | exact List.Mem.head _ | apply List.Mem.tail)) rfl ?_
  refine WL.step ?_
  refine WL.callV F.fun123 rfl rfl (fun w hS => Many_c v bs hll a ta c tc w (hrb.next hS)) ?_
  refine WL.step ?_
  refine WL.eqI rfl rfl rfl ?_
  refine WL.step ?_
  refine WL.assign rfl rfl ?_
  refine WL.nil ?_
  refine WQ.then_normal ?_
  refine WC.ret ?_
  refine WQ.ret (rs := [.tmp 2]) rfl (.tmp rfl .nil) (fun w hS => ⟨retB ?_, hS.sublist (List.nil_sublist _)⟩)
  have h9 := cnt_any bs
  cases hq : bs.any id with
  | true => rw [hq] at h9; have := h9.2 rfl; simp; omega
  | false => rw [hq] at h9; have h8 : ¬ 0 < cntB bs := fun h => by (have := h9.1 h; cases this)
             simp; omega

end Go.Proofs.YtkgllhkhdjodeaaGreat

namespace Go.Proofs.YtkgllhkhdjodeaaGreat
open Go Go.Eng Go.Proofs Dg
theorem run_quo2 {a : Nat} (ha : a < 4294967296) (t : TypeId) (x y : Operand) (w : World) :
  (do eqGuard .quo t x y (.int .u32 (a : Int)) (.int .u32 2); binOp .quo t (.int .u32 (a : Int)) (.int .u32 2) : Sem Value).run Tryz.prog w = .ok (.int .u32 ((a / 2 : Nat) : Int)) w := by
 have h1 : (a : Int).tdiv 2 = ((a / 2 : Nat) : Int) := by
  rw [Int.tdiv_eq_ediv_of_nonneg (Int.natCast_nonneg _)]; simp
 have h2 := wrap_u32 (show a / 2 < 4294967296 by omega)
 simp only [Int.natCast_ediv] at h2 h1
 simp at h2 h1
 simp [eqGuard, binOp, Op.intDiv, h1, h2]
abbrev nums (l : List Nat) : List Value := l.map (fun (i : Nat) => Value.int .i64 (i : Int))
def featN (f i : Nat) : List Nat := (List.range i).filter (fun j => f.testBit j)
theorem featN_succ (f i : Nat) : featN f (i + 1) = featN f i ++ (if f.testBit i then [i] else []) := by
 unfold featN
 rw [List.range_succ, List.filter_append]
 congr 1
 cases h : f.testBit i <;> simp [h]
theorem featN_len (f i : Nat) : (featN f i).length ≤ i := by
 unfold featN
 exact Nat.le_trans (List.length_filter_le _ _) (by simp)
structure FeatG where
 i : Nat
 a : Option Addr
 c : Nat

theorem Features_c (f : Nat) (hf : f < 4294967296) (w : World) :
  Calls Tryz.prog 34 [.int .u32 (f : Int)].toArray w fun e w' => ∃ x : Option Addr × Nat, e = .returned (.slice x.1 (featL f).length x.2) ∧ St w [] [rowc (.slice x.1 (featL f).length x.2) (featL f).length 3 1 (nums (featL f))] w' := by
 refine enter Tryz.func34 rfl Tryz.ntmps34 rfl (St.init _) ?_
 refine jN 20 ?_
 refine WC.chunks (C' := [rowc (.slice none 0 0) 0 3 1 []]) (fun w hS => (hS.rowNil 3 1)) ?_
 refine WC.loop (α := FeatG) (fun g => g.i ≤ 24) (fun g => [(0, .int .u32 ((f >>> g.i : Nat) : Int)), (3, .slice g.a (featN f g.i).length g.c), (4, .int .i64 (g.i : Int))]) (fun g => [rowc (.slice g.a (featN f g.i).length g.c) (featN f g.i).length 3 1 (nums (featN f g.i))]) (fun g => 24 - g.i) (⟨0, none, 0⟩) ?_ ?_ ?_ ?_
 ·exact Nat.zero_le _
 ·exact ⟨rfl, rfl, rfl, trivial⟩
 ·rfl
 rintro ⟨i, a, c⟩ hi
 dsimp only at hi
 show WC _ _ _ _ _ _ _ [(0, .int .u32 ((f >>> i : Nat) : Int)), (3, .slice a (featN f i).length c), (4, .int .i64 (i : Int))] [rowc (.slice a (featN f i).length c) (featN f i).length 3 1 (nums (featN f i))]
 refine jN 9 ?_
 refine WC.cond rfl (fun h6 => ?_) (fun h6 => ?_)
 ·have hlt : i < 24 := by simp at h6; omega
  have hfl := featN_len f i
  have hs32 : f >>> i < 4294967296 := Nat.lt_of_le_of_lt (by rw [Nat.shiftRight_eq_div_pow]; exact Nat.div_le_self _ _) hf
  refine jN 10 ?_
  refine WL.bin (v := .int .u32 ((f >>> i % 2 : Nat) : Int)) rfl rfl rfl (fun w => run_rem2 _ _ _ w) ?_
  refine jN 4 ?_
  refine WC.cond rfl (fun h11 => ?_) (fun h11 => ?_)
  ·have hbit : f.testBit i = true := by (have h9 : ((f >>> i % 2 : Nat) : Int) = 1 := by simpa using h11); rw [Nat.testBit_eq_decide_div_mod_eq, ← Nat.shiftRight_eq_div_pow]; exact decide_eq_true (by omega)
   have hsucc := featN_succ f i
   rw [hbit, if_pos rfl] at hsucc
   refine jN 6 ?_
   refine WL.buildSlice F.sl41 F.ez41 rfl rfl rfl rfl jB rfl (fun b14 => ?_)
   refine jN 1 ?_
   refine WL.appendE (news := [.int .i64 (i : Int)]) F.el41 rfl rfl rfl jR (fun w hS jj u hu => by rw [Nat.zero_add]; exact hS.cell (cs := [.int .i64 (i : Int)]) jM hu) (by simp [nums]) jO (Nat.le_trans (m := 24) (by omega) (by decide)) (by omega) (fun a2 c2 => ?_)
   refine jN 8 ?_
   refine WL.bin (v := .int .u32 ((f >>> (i + 1) : Nat) : Int)) rfl rfl rfl (fun w => (run_quo2 hs32 _ _ _ w).trans (by rw [Nat.shiftRight_succ])) ?_
   refine jN 13 ?_
   refine WQ.chunks (C' := [rowc (.slice a2 ((featN f i).length + 1) c2) ((featN f i).length + 1) 3 1 (nums (featN f i) ++ [.int .i64 (i : Int)])]) (fun w hS => (jK hS)) ?_
   refine WQ.back ⟨i + 1, a2, c2⟩ (by show i + 1 ≤ 24; omega) (by show 24 - (i + 1) < 24 - i; omega) ?_ ?_
   ·simp only [hsucc, List.length_append, List.length_singleton]
    exact ⟨rfl, rfl, rfl, trivial⟩
   ·simp only [hsucc, List.length_append, List.length_singleton, nums, List.map_append, List.map_cons, List.map_nil]
  ·have hbit : f.testBit i = false := by (have h9 : ¬ ((f >>> i % 2 : Nat) : Int) = 1 := by simpa using h11); rw [Nat.testBit_eq_decide_div_mod_eq, ← Nat.shiftRight_eq_div_pow]; exact decide_eq_false (by omega)
   have hsucc := featN_succ f i
   rw [hbit] at hsucc
   simp only [Bool.false_eq_true, if_false, List.append_nil] at hsucc
   refine jN 6 ?_
   refine WL.bin (v := .int .u32 ((f >>> (i + 1) : Nat) : Int)) rfl rfl rfl (fun w => (run_quo2 hs32 _ _ _ w).trans (by rw [Nat.shiftRight_succ])) ?_
   refine jN 13 ?_
   refine WQ.back ⟨i + 1, a, c⟩ (by show i + 1 ≤ 24; omega) (by show 24 - (i + 1) < 24 - i; omega) ?_ ?_
   ·simp only [hsucc]
    exact ⟨rfl, rfl, rfl, trivial⟩
   ·simp only [hsucc]
 ·have hie : i = 24 := by simp at h6; omega
  subst hie
  refine jN 14 ?_
  exact WQ.ret (rs := [.tmp 2]) rfl (.tmp rfl .nil) (fun w hS => ⟨(a, c), rfl, hS⟩)

theorem run_shl1W {k : Nat} (hk : k < 62) (t : TypeId) (x y : Operand) (w : World) :
  (do eqGuard .shl t x y (.int .i64 1) (.int .u64 (k : Int)); binOp .shl t (.int .i64 1) (.int .u64 (k : Int)) : Sem Value).run Tryz.prog w = .ok (.int .i64 ((2 ^ k : Nat) : Int)) w := by
 have h1 : ¬ (k : Int) < 0 := by omega
 have h2 : min (k : Int).toNat 64 = k := by omega
 have h3 : 2 ^ k < 2 ^ 62 := Nat.pow_lt_pow_right (by decide) hk
 have h4 : IntKind.i64.wrap ((2 ^ k : Nat) : Int) = ((2 ^ k : Nat) : Int) := by
  generalize 2 ^ k = n at h3
  unfold IntKind.wrap
  simp [IntKind.signed, IntKind.bits]
  omega
 simp only [eqGuard, binOp, Op.shift, IntKind.bits, h1, if_false, h2]
 simp only [Int.natCast_pow] at h4
 simp at h4
 simp [h4]

theorem Blank_c (v : List Nat) (hvl : v.length ≤ 24) (a : Option Addr) (c : Nat) (w : World) :
  Calls Tryz.prog 49 [.slice a v.length c].toArray w fun e w' => ∃ b : Nat, e = .returned (.agg [.slice a v.length c, .slice (some ⟨b, 0, none⟩) (2 ^ v.length) (2 ^ v.length)].toArray) ∧ St w [] [rowc (.slice (some ⟨b, 0, none⟩) (2 ^ v.length) (2 ^ v.length)) (2 ^ v.length) 4 1 (bls (List.replicate (2 ^ v.length) false))] w' := by
 have h2n : 2 ^ v.length ≤ 2 ^ 24 := Nat.pow_le_pow_right (by decide) hvl
 refine enter Tryz.func49 rfl Tryz.ntmps49 rfl (St.init _) ?_
 refine jN 3 ?_
 refine WL.alloc F.zero44 rfl (fun b2 => ?_)
 refine jN 11 ?_
 refine WL.convert rfl rfl (v := .int .u64 (v.length : Int)) (fun w hS => conv61 (by omega) w) ?_
 refine jN 1 ?_
 refine WL.bin (v := .int .i64 (((2 ^ v.length) : Nat) : Int)) rfl rfl rfl (fun w => run_shl1W (by omega) _ _ _ w) ?_
 refine jN 1 ?_
 refine WL.makeSlice (n := (2 ^ v.length)) (e := 4) (z := .bool false) (bytes := 1) F.und42 (by kernel_rfl) rfl rfl rfl rfl (by omega) (by omega) (fun b8 => ?_)
 refine jN 7 ?_
 refine WQ.ret (rs := [.cell 2 44]) rfl (.cellN F.agg44 rfl jM rfl .nil) (fun w hS => ⟨b8, rfl, ?_⟩)
 have hS1 := St.rowOf (n := (2 ^ v.length)) (sz := 1) ((St.pick hS (c := pt b8 (List.replicate (2 ^ v.length) (Value.bool false)) 4) jR)) (by simp) (Nat.le_trans (m := 16777216) (by omega) (by decide))
 have e9 : bls (List.replicate (2 ^ v.length) false) = List.replicate (2 ^ v.length) (Value.bool false) := by simp [bls]
 rw [e9]
 exact (jK hS1)

theorem numN_32 {v : List Nat} (h : ∀ x ∈ v, x < 24) : numN v < 4294967296 := Nat.lt_of_lt_of_le (numN_lt v 0 h (by decide)) (by decide)
theorem Join_c (v u : List Nat) (hv24 : ∀ x ∈ v, x < 24) (hvl : v.length ≤ 24) (hu24 : ∀ x ∈ u, x < 24) (hul : u.length ≤ 24) (a a2 : Option Addr) (c c2 : Nat) (w : World) (hr : RdV w v a) (hr2 : RdV w u a2) :
  Calls Tryz.prog 174 [.slice a v.length c, .slice a2 u.length c2].toArray w fun e w' => ∃ y : Option Addr × Nat, e = .returned (.slice y.1 (featL (numN v ||| numN u)).length y.2) ∧ St w [] [rowc (.slice y.1 (featL (numN v ||| numN u)).length y.2) (featL (numN v ||| numN u)).length 3 1 (nums (featL (numN v ||| numN u)))] w' := by
 have hf32 : (numN v ||| numN u) < 4294967296 := Nat.lt_of_lt_of_le (Nat.or_lt_two_pow (n := 24) (numN_lt v 0 hv24 (by decide)) (numN_lt u 0 hu24 (by decide))) (by decide)
 refine enter Tryz.func174 rfl Tryz.ntmps174 rfl (St.init _) ?_
 refine jN 11 ?_
 refine WL.callV F.fun69 rfl rfl (fun w hS => Number_c v hv24 hvl a c w (hr.next hS)) ?_
 refine jN 3 ?_
 refine WL.callV F.fun69 rfl rfl (fun w hS => Number_c u hu24 hul a2 c2 w (hr2.next hS)) ?_
 refine jN 1 ?_
 refine WL.bin rfl rfl rfl (fun w => run_or (numN_32 hv24) (numN_32 hu24) _ _ _ w) ?_
 refine jN 1 ?_
 refine jC (β := Option Addr × Nat) (res := fun y => .slice y.1 (featL (numN v ||| numN u)).length y.2) (cs := fun y => [rowc (.slice y.1 (featL (numN v ||| numN u)).length y.2) (featL (numN v ||| numN u)).length 3 1 (nums (featL (numN v ||| numN u)))]) F.fun34 rfl (fun w hS _ => Features_c (numN v ||| numN u) hf32 w) (fun y10 => ?_)
 refine jN 5 ?_
 exact WQ.ret (rs := [.tmp 4]) rfl (.tmp rfl .nil) (fun w hS => ⟨y10, rfl, hS⟩)

end Go.Proofs.YtkgllhkhdjodeaaGreat

/-
 Trees of the holder's own whose rows may be written.
-/
namespace Go.Eng
open Go Go.RowKit
mutual
def rdW (w : World) : Tree → List Nat → Value → Prop
 | .mk op name kids, F, v => ∃ s, v = .agg #[.int .u8 op, .string (str name), s] ∧
  ((kids = [] ∧ F = [] ∧ ∃ a cap, s = .slice a 0 cap) ∨
   (kids ≠ [] ∧ ∃ g cap G vs, s = .slice (some ⟨g, 0, none⟩) kids.length cap ∧ F = g :: G ∧ w.ownsRow 0 24 3 (.slice (some ⟨g, 0, none⟩) kids.length cap) kids.length (flat vs) ∧ rdWL w kids G vs))
def rdWL (w : World) : List Tree → List Nat → List Value → Prop
 | [], F, vs => F = [] ∧ vs = []
 | t :: ts, F, vs => ∃ F1 F2 v vs', F = F1 ++ F2 ∧ vs = v :: vs' ∧ rdW w t F1 v ∧ rdWL w ts F2 vs'
end
mutual
theorem rdW_loc {w w' : World} : ∀ {t : Tree} {F : List Nat} {v : Value}, (∀ k ∈ F, w'.heap[k]? = w.heap[k]?) → rdW w t F v → rdW w' t F v
 | .mk op name kids, F, v, hk, h => by
  simp only [rdW] at h ⊢
  obtain ⟨s, hv, h⟩ := h
  refine ⟨s, hv, ?_⟩
  rcases h with h | ⟨hne, g, cap, G, vs, hs, hF, hc, hl⟩
  ·exact .inl h
  ·subst hF
   refine .inr ⟨hne, g, cap, G, vs, hs, rfl, ownsRow_loc (fun k hk' => ?_) hc, rdWL_loc (fun k hkG => hk k (by simp [hkG])) hl⟩
   have : g = k := Option.some.inj hk'
   subst this
   exact hk g (by simp)
theorem rdWL_loc {w w' : World} : ∀ {ts : List Tree} {F : List Nat} {vs : List Value}, (∀ k ∈ F, w'.heap[k]? = w.heap[k]?) → rdWL w ts F vs → rdWL w' ts F vs
 | [], F, vs, hk, h => by simp only [rdWL] at h ⊢; exact h
 | t :: ts, F, vs, hk, h => by
  simp only [rdWL] at h ⊢
  obtain ⟨F1, F2, v, vs', hF, hvs, h1, h2⟩ := h
  subst hF
  exact ⟨F1, F2, v, vs', rfl, hvs, rdW_loc (fun k hkF => hk k (by simp [hkF])) h1, rdWL_loc (fun k hkF => hk k (by simp [hkF])) h2⟩
end
def ownW (F : List Nat) (t : Tree) (v : Value) : Chunk where
 fp k := k ∈ F
 ok w := F.Nodup ∧ rdW w t F v
 loc w w' h hw := ⟨hw.1, rdW_loc h hw.2⟩
def ownWL (F : List Nat) (ts : List Tree) (vs : List Value) : Chunk where
 fp k := k ∈ F
 ok w := F.Nodup ∧ rdWL w ts F vs
 loc w w' h hw := ⟨hw.1, rdWL_loc h hw.2⟩
section
variable {w0 : World} {O : List Nat} {C : List Chunk}
theorem St.split {w : World} {x c d : Chunk} (h : St w0 O (x :: C) w) (hc : x.ok w → c.ok w) (hd : x.ok w → d.ok w) (hfc : ∀ k, c.fp k → x.fp k) (hfd : ∀ k, d.fp k → x.fp k) (hdis : x.ok w → ∀ k, c.fp k → ¬ d.fp k) : St w0 O (c :: d :: C) w := by
 have hx := h.ok x (List.mem_cons_self ..)
 have hD := List.pairwise_cons.1 h.disj
 refine ⟨h.os, h.tape, h.output, h.size, h.old, fun y hy => ?_, fun y hy k hk => ?_, ?_⟩
 ·rcases List.mem_cons.1 hy with rfl | hy
  ·exact hc hx
  ·rcases List.mem_cons.1 hy with rfl | hy
   ·exact hd hx
   ·exact h.ok y (List.mem_cons_of_mem _ hy)
 ·rcases List.mem_cons.1 hy with rfl | hy
  ·exact h.bnd x (List.mem_cons_self ..) k (hfc k hk)
  ·rcases List.mem_cons.1 hy with rfl | hy
   ·exact h.bnd x (List.mem_cons_self ..) k (hfd k hk)
   ·exact h.bnd y (List.mem_cons_of_mem _ hy) k hk
 ·refine List.Pairwise.cons (fun y hy k hk hk' => ?_) (List.Pairwise.cons (fun y hy k hk hk' => hD.1 y hy k (hfd k hk) hk') hD.2)
  rcases List.mem_cons.1 hy with rfl | hy
  ·exact hdis hx k hk hk'
  ·exact hD.1 y hy k (hfc k hk) hk'
end
end Go.Eng

namespace Go.Eng
open Go Go.RowKit
section
variable {P : Program} {w0 : World} {O : List Nat} {ops : Array Oper} {Q : Exit → Act → World → Prop} {N : Nat} {D : List Deferred} {L : FL} {C : List Chunk} {K : Act → World → Prop}
variable {ty : TypeId} {pos : String} {af : Array Edge}
theorem WL.storeRow1 {t : TypeId} {n sz cap : Nat} {x y : Operand} {g off : Nat} {xs xs' : List Value} {v : Value} {e : TypeId} {C' : List Chunk} (ht : One P t) (hx : ev L x = some (.pointer (some ⟨g, off, none⟩))) (hy : ev L y = some v) (hv : v.oneCell' = true)
  (hu : Upd (rowc (.slice (some ⟨g, 0, none⟩) n cap) n e sz xs) (rowc (.slice (some ⟨g, 0, none⟩) n cap) n e sz xs') C C') (hn : SetN xs off [v] xs') (h : WA w0 O K N D L C') :
  WK P w0 O ops Q ⟨none, .store t x y, ty, pos, af, none⟩ K N D L C := fun a w hF hS => by
 obtain ⟨hlen, hr⟩ := (show w.ownsRow 0 e sz (.slice (some ⟨g, 0, none⟩) n cap) n xs from hS.ok _ hu.mem)
 rcases hr with ⟨h1, _⟩ | ⟨g', cap', cur, h1, _, hh, hnc, hcm, hcs, htk⟩
 ·cases h1
 ·injection h1 with h1 h2 h3
  injection h1 with h1
  injection h1 with h1
  subst h1; subst h3
  have hsplit : cur.toList = xs ++ cur.toList.drop (n * sz) := by rw [← htk, List.take_append_drop]
  have hn' : SetN cur.toList off [v] (xs' ++ cur.toList.drop (n * sz)) := by
   have := hn.append (cur.toList.drop (n * sz))
   rw [← hsplit] at this
   exact this
  have hh' : w.heap[g]? = some (.cells cur.toList.toArray e (0, 0)) := by rw [Array.toArray_toList]; exact hh
  have hr := run_storeN (P := P) (t := t) (vs := [v]) ht.size (cells_one hv) (by simpa using hv) hh' hn'
  have hxl : xs'.length = xs.length := hn.len
  have hSt : St w0 O C' (w.setRow g (xs' ++ cur.toList.drop (n * sz)).toArray) := by
   refine hS.rowUpd (b := g) hu (fun k => ?_) (fun k => ?_) ?_
   ·constructor
    ·intro hk; exact (Option.some.inj hk).symm
    ·intro hk; rw [hk]; rfl
   ·constructor
    ·intro hk; exact (Option.some.inj hk).symm
    ·intro hk; rw [hk]; rfl
   ·refine ⟨by rw [hxl, hlen], .inr ⟨g, cap, (xs' ++ cur.toList.drop (n * sz)).toArray, rfl, Nat.zero_le _, setRow_heap w g _ _ e _ hh', hnc, hcm, ?_, ?_⟩⟩
    ·have := congrArg List.length hsplit
     simp at this ⊢
     omega
    ·have e2 : xs'.length = n * sz := by rw [hxl, hlen]
     show (xs' ++ cur.toList.drop (n * sz)).take (n * sz) = xs'
     rw [List.take_left' e2]
  exact wpo_skip rfl (by simp [execOp, hF.ev hx, hF.ev hy, hr]) (h _ _ hF hSt)
end
end Go.Eng

namespace Go.Proofs.YtkgllhkhdjodeaaGreat
open Go Go.Eng Go.Proofs Dg
def placeN (names : List (List UInt8)) (l : List (List UInt8)) : Nat := l.foldl (fun s nm => s ||| 2 ^ (idxS names nm).toNat) 0
theorem placeN_take {names l : List (List UInt8)} {i : Nat} {s : List UInt8} (h : l[i]? = some s) : placeN names (l.take (i + 1)) = placeN names (l.take i) ||| 2 ^ (idxS names s).toNat := by
 unfold placeN; rw [List.take_add_one, h]; simp
theorem placeN_fold (names : List (List UInt8)) : ∀ (l : List (List UInt8)) (s : Nat), (∀ x ∈ l, (idxS names x).toNat < 24) → s < 2 ^ 24 → l.foldl (fun s nm => s ||| 2 ^ (idxS names nm).toNat) s < 2 ^ 24
 | [], s, _, h => h
 | x :: l, s, hx, h => placeN_fold names l _ (fun y hy => hx y (List.mem_cons_of_mem _ hy)) (Nat.or_lt_two_pow h (Nat.pow_lt_pow_right (by decide) (hx x (List.mem_cons_self ..))))
def tabN (n i : Nat) (g : Nat → Bool) : List Bool := (List.range n).map (fun k => decide (k < i) && g k)
theorem tabN_len (n i : Nat) (g : Nat → Bool) : (tabN n i g).length = n := by simp [tabN]
theorem tabN_zero (n : Nat) (g : Nat → Bool) : tabN n 0 g = List.replicate n false := by
 unfold tabN
 apply List.ext_getElem (by simp)
 intro i h1 h2
 simp
theorem tabN_set {n i : Nat} (g : Nat → Bool) (hi : i < n) : (tabN n i g).set i (g i) = tabN n (i + 1) g := by
 apply List.ext_getElem (by simp [tabN])
 intro j h1 h2
 rw [List.getElem_set]
 by_cases h : i = j
 ·subst h; rw [if_pos rfl]; simp [tabN]
 ·rw [if_neg h]; simp [tabN]; have : j < i ↔ j < i + 1 := by omega
  simp [this]
theorem used_idx {t : Tree} {names : List (List UInt8)} (hk : knownB t names = true) (h24 : names.length ≤ 24) {x : List UInt8} (hx : x ∈ usedF (Fm.rowT t)) : ∃ m : Nat, idxS names x = (m : Int) ∧ m < 24 := by
 obtain ⟨m, h1, h2, _⟩ := idxS_lt (List.all_eq_true.1 hk x hx)
 exact ⟨m, h1, by omega⟩
structure RSetG where
 va : Option Addr
 vc : Nat
 b : Nat

set_option maxRecDepth 100000 in
theorem rSet_c (t : Tree) (names : List (List UInt8)) (hk : knownB t names = true) (hokT : okT names t) (h24 : names.length ≤ 24) (wb : World) (G : List Nat) (a : Option Addr) (c : Nat) (na : Option Addr) (nc : Nat) (w : World) (hsz : (Fm.rowT t).length ≤ 1000) (hr : rdT wb t G (tv t a c)) (hE : Ext wb w) (hnr : RdS w names na) :
  Calls Tryz.prog 17 [tv t a c, .slice na names.length nc].toArray w fun e w' => ∃ y : RSetG, e = .returned (.agg [.slice y.va (featL (placeN names (usedF (Fm.rowT t)))).length y.vc, .slice (some ⟨y.b, 0, none⟩) (2 ^ (featL (placeN names (usedF (Fm.rowT t)))).length) (2 ^ (featL (placeN names (usedF (Fm.rowT t)))).length)].toArray) ∧ St w [] [rowc (.slice y.va (featL (placeN names (usedF (Fm.rowT t)))).length y.vc) (featL (placeN names (usedF (Fm.rowT t)))).length 3 1 (nums (featL (placeN names (usedF (Fm.rowT t))))), rowc (.slice (some ⟨y.b, 0, none⟩) (2 ^ (featL (placeN names (usedF (Fm.rowT t)))).length) (2 ^ (featL (placeN names (usedF (Fm.rowT t)))).length)) (2 ^ (featL (placeN names (usedF (Fm.rowT t)))).length) 4 1 (bls (tabN (2 ^ (featL (placeN names (usedF (Fm.rowT t)))).length) (2 ^ (featL (placeN names (usedF (Fm.rowT t)))).length) (fun k => evT names t (cfg (confN (featL (placeN names (usedF (Fm.rowT t)))) k)))))] w' := by
 refine enter Tryz.func17 rfl Tryz.ntmps17 rfl (St.init _) ?_
 refine jN 3 ?_
 refine WL.boxN rfl rfl (fun b2 => ?_)
 refine jN 1 ?_
 refine WL.alloc F.zero44 rfl (fun b4 => ?_)
 refine jN 13 ?_
 refine jC (β := Option Addr × Nat) (res := fun y => .slice y.1 (usedF (Fm.rowT t)).length y.2) (cs := fun y => [rowc (.slice y.1 (usedF (Fm.rowT t)).length y.2) (usedF (Fm.rowT t)).length 9 1 (strs (usedF (Fm.rowT t)))]) F.fun38 rfl (fun w hS _ => Used_c t wb G a c w (by omega) hr (hE.st hS)) (fun ⟨ua, uc⟩ => ?_)
 refine jN 12 ?_
 refine WC.chunks (C' := [rowc (.slice ua (usedF (Fm.rowT t)).length uc) (usedF (Fm.rowT t)).length 9 1 (strs (usedF (Fm.rowT t))), pt b2 [Value.int .u8 t.op, .string (str t.name), .slice a t.kids.length c] 24, pt b4 [.slice none 0 0, .slice none 0 0] 44]) (fun w hS => (jK hS)) ?_
 refine WC.loop (α := Nat) (fun i => i ≤ (usedF (Fm.rowT t)).length) (fun i => [(1, .slice na names.length nc), (2, pp b2), (4, pp b4), (5, .int .u32 (placeN names ((usedF (Fm.rowT t)).take i) : Int)), (6, .slice ua (usedF (Fm.rowT t)).length uc), (7, .int .i64 (i : Int))]) (fun _ => [rowc (.slice ua (usedF (Fm.rowT t)).length uc) (usedF (Fm.rowT t)).length 9 1 (strs (usedF (Fm.rowT t))), pt b2 [Value.int .u8 t.op, .string (str t.name), .slice a t.kids.length c] 24, pt b4 [.slice none 0 0, .slice none 0 0] 44]) (fun i => (usedF (Fm.rowT t)).length - i) (0) ?_ ?_ ?_ ?_
 ·exact Nat.zero_le _
 ·exact ⟨rfl, rfl, rfl, rfl, rfl, rfl, trivial⟩
 ·rfl
 rintro i hi
 show WC _ _ _ _ _ _ _ [(1, .slice na names.length nc), (2, pp b2), (4, pp b4), (5, .int .u32 (placeN names ((usedF (Fm.rowT t)).take i) : Int)), (6, .slice ua (usedF (Fm.rowT t)).length uc), (7, .int .i64 (i : Int))] [rowc (.slice ua (usedF (Fm.rowT t)).length uc) (usedF (Fm.rowT t)).length 9 1 (strs (usedF (Fm.rowT t))), pt b2 [Value.int .u8 t.op, .string (str t.name), .slice a t.kids.length c] 24, pt b4 [.slice none 0 0, .slice none 0 0] 44]
 refine jN 13 ?_
 refine WC.cond rfl (fun hh => ?_) (fun hh => ?_)
 ·have hul := used_le (t := t)
  have hlt : i < (usedF (Fm.rowT t)).length := by simpa using hh
  obtain ⟨s, hx⟩ : ∃ s, (usedF (Fm.rowT t))[i]? = some s := ⟨_, List.getElem?_eq_getElem hlt⟩
  refine WC.know (φ := ∃ g, ua = some ⟨g, 0, none⟩ ∧ (usedF (Fm.rowT t)).length = (usedF (Fm.rowT t)).length ∧ (usedF (Fm.rowT t)).length ≤ uc) (fun w hS => rowc_addr (hS.ok (rowc (.slice ua (usedF (Fm.rowT t)).length uc) (usedF (Fm.rowT t)).length 9 1 (strs (usedF (Fm.rowT t)))) jM) (by omega)) (fun ⟨g8, hg8, _, _⟩ => ?_)
  subst hg8
  obtain ⟨m, hm, hm24⟩ := used_idx hk h24 (List.mem_of_getElem? hx)
  have hpl : placeN names ((usedF (Fm.rowT t)).take i) < 2 ^ 24 := placeN_fold names _ 0 (fun y hy => (by obtain ⟨q, h1, h2⟩ := used_idx hk h24 (List.mem_of_mem_take hy); rw [h1]; omega)) (by decide)
  have hp32 := bit_two hm24
  refine jN 14 ?_
  refine WL.indexAddr F.sl25 rfl rfl rfl hlt ?_
  refine jN 1 ?_
  refine WL.load1 F.one9 rfl rfl (v := .string (str s)) (fun w hS => by rw [Nat.zero_add, Nat.mul_one]; exact rowc_cell (hS.ok (rowc (.slice (some ⟨g8, 0, none⟩) (usedF (Fm.rowT t)).length uc) (usedF (Fm.rowT t)).length 9 1 (strs (usedF (Fm.rowT t)))) jM) (strs_at hx)) ?_
  refine jN 1 ?_
  refine WL.callV F.fun47 rfl rfl (fun w hS => ridx_c names s na nc (by omega) w (hnr.next hS)) ?_
  rw [hm]
  refine jN 1 ?_
  refine WL.convert rfl rfl (v := .int .u64 (m : Int)) (fun w hS => conv61 (by omega) w) ?_
  refine jN 1 ?_
  refine WL.bin (v := .int .u32 ((2 ^ m : Nat) : Int)) rfl rfl rfl (fun w => run_shl1U (by omega) _ _ _ w) ?_
  refine jN 1 ?_
  refine WL.bin rfl rfl rfl (fun w => run_or (by omega) hp32 _ _ _ w) ?_
  refine jN 13 ?_
  refine WQ.chunks (C' := [rowc (.slice (some ⟨g8, 0, none⟩) (usedF (Fm.rowT t)).length uc) (usedF (Fm.rowT t)).length 9 1 (strs (usedF (Fm.rowT t))), pt b2 [Value.int .u8 t.op, .string (str t.name), .slice a t.kids.length c] 24, pt b4 [.slice none 0 0, .slice none 0 0] 44]) (fun w hS => (jK hS)) ?_
  refine WQ.back (i + 1) (by show i + 1 ≤ (usedF (Fm.rowT t)).length; omega) (by show (usedF (Fm.rowT t)).length - (i + 1) < (usedF (Fm.rowT t)).length - i; omega) ?_ rfl
  simp only [placeN_take hx, hm, Int.toNat_natCast]
  exact ⟨rfl, rfl, rfl, rfl, rfl, rfl, trivial⟩
 ·have hie : i = (usedF (Fm.rowT t)).length := by simp at hh; omega
  subst hie
  rw [List.take_length]
  have hpl : placeN names (usedF (Fm.rowT t)) < 2 ^ 24 := placeN_fold names _ 0 (fun y hy => (by obtain ⟨q, h1, h2⟩ := used_idx hk h24 hy; rw [h1]; omega)) (by decide)
  have hfs := featL_sorted (placeN names (usedF (Fm.rowT t)))
  have hfl := featL_len (placeN names (usedF (Fm.rowT t)))
  have hf24 : ∀ x ∈ (featL (placeN names (usedF (Fm.rowT t)))), x < 24 := fun x hx => featL_lt hx
  have h2n : (2 ^ (featL (placeN names (usedF (Fm.rowT t)))).length) ≤ 2 ^ 24 := Nat.pow_le_pow_right (by decide) hfl
  refine jN 10 ?_
  refine jC (β := Option Addr × Nat) (res := fun y => .slice y.1 (featL (placeN names (usedF (Fm.rowT t)))).length y.2) (cs := fun y => [rowc (.slice y.1 (featL (placeN names (usedF (Fm.rowT t)))).length y.2) (featL (placeN names (usedF (Fm.rowT t)))).length 3 1 (nums (featL (placeN names (usedF (Fm.rowT t)))))]) F.fun34 rfl (fun w hS _ => Features_c (placeN names (usedF (Fm.rowT t))) (by omega) w) (fun ⟨va, vc⟩ => ?_)
  refine jN 1 ?_
  refine jC (β := Nat) (res := fun y => .agg [.slice va (featL (placeN names (usedF (Fm.rowT t)))).length vc, .slice (some ⟨y, 0, none⟩) (2 ^ (featL (placeN names (usedF (Fm.rowT t)))).length) (2 ^ (featL (placeN names (usedF (Fm.rowT t)))).length)].toArray) (cs := fun y => [rowc (.slice (some ⟨y, 0, none⟩) (2 ^ (featL (placeN names (usedF (Fm.rowT t)))).length) (2 ^ (featL (placeN names (usedF (Fm.rowT t)))).length)) (2 ^ (featL (placeN names (usedF (Fm.rowT t)))).length) 4 1 (bls (List.replicate (2 ^ (featL (placeN names (usedF (Fm.rowT t)))).length) false))]) F.fun49 rfl (fun w hS _ => Blank_c (featL (placeN names (usedF (Fm.rowT t)))) hfl va vc w) (fun b30 => ?_)
  refine jN 1 ?_
  refine WL.alloc F.zero44 rfl (fun b8 => ?_)
  refine jN 12 ?_
  refine WC.chunks (C' := [pt b8 [.slice va (featL (placeN names (usedF (Fm.rowT t)))).length vc, .slice (some ⟨b30, 0, none⟩) (2 ^ (featL (placeN names (usedF (Fm.rowT t)))).length) (2 ^ (featL (placeN names (usedF (Fm.rowT t)))).length)] 44, rowc (.slice va (featL (placeN names (usedF (Fm.rowT t)))).length vc) (featL (placeN names (usedF (Fm.rowT t)))).length 3 1 (nums (featL (placeN names (usedF (Fm.rowT t))))), rowc (.slice (some ⟨b30, 0, none⟩) (2 ^ (featL (placeN names (usedF (Fm.rowT t)))).length) (2 ^ (featL (placeN names (usedF (Fm.rowT t)))).length)) (2 ^ (featL (placeN names (usedF (Fm.rowT t)))).length) 4 1 (bls (tabN (2 ^ (featL (placeN names (usedF (Fm.rowT t)))).length) 0 (fun k => evT names t (cfg (confN (featL (placeN names (usedF (Fm.rowT t)))) k))))), pt b2 [Value.int .u8 t.op, .string (str t.name), .slice a t.kids.length c] 24, pt b4 [.slice none 0 0, .slice none 0 0] 44]) (fun w hS => by rw [tabN_zero]; exact (jK hS)) ?_
  refine WC.loop (α := Nat) (fun i => i ≤ (2 ^ (featL (placeN names (usedF (Fm.rowT t)))).length)) (fun i => [(1, .slice na names.length nc), (2, pp b2), (4, pp b4), (8, pp b8), (9, .int .i64 (i : Int))]) (fun i => [pt b8 [.slice va (featL (placeN names (usedF (Fm.rowT t)))).length vc, .slice (some ⟨b30, 0, none⟩) (2 ^ (featL (placeN names (usedF (Fm.rowT t)))).length) (2 ^ (featL (placeN names (usedF (Fm.rowT t)))).length)] 44, rowc (.slice va (featL (placeN names (usedF (Fm.rowT t)))).length vc) (featL (placeN names (usedF (Fm.rowT t)))).length 3 1 (nums (featL (placeN names (usedF (Fm.rowT t))))), rowc (.slice (some ⟨b30, 0, none⟩) (2 ^ (featL (placeN names (usedF (Fm.rowT t)))).length) (2 ^ (featL (placeN names (usedF (Fm.rowT t)))).length)) (2 ^ (featL (placeN names (usedF (Fm.rowT t)))).length) 4 1 (bls (tabN (2 ^ (featL (placeN names (usedF (Fm.rowT t)))).length) i (fun k => evT names t (cfg (confN (featL (placeN names (usedF (Fm.rowT t)))) k))))), pt b2 [Value.int .u8 t.op, .string (str t.name), .slice a t.kids.length c] 24, pt b4 [.slice none 0 0, .slice none 0 0] 44]) (fun i => (2 ^ (featL (placeN names (usedF (Fm.rowT t)))).length) - i) (0) ?_ ?_ ?_ ?_
  ·exact Nat.zero_le _
  ·exact ⟨rfl, rfl, rfl, rfl, rfl, trivial⟩
  ·rfl
  rintro i hi
  show WC _ _ _ _ _ _ _ [(1, .slice na names.length nc), (2, pp b2), (4, pp b4), (8, pp b8), (9, .int .i64 (i : Int))] [pt b8 [.slice va (featL (placeN names (usedF (Fm.rowT t)))).length vc, .slice (some ⟨b30, 0, none⟩) (2 ^ (featL (placeN names (usedF (Fm.rowT t)))).length) (2 ^ (featL (placeN names (usedF (Fm.rowT t)))).length)] 44, rowc (.slice va (featL (placeN names (usedF (Fm.rowT t)))).length vc) (featL (placeN names (usedF (Fm.rowT t)))).length 3 1 (nums (featL (placeN names (usedF (Fm.rowT t))))), rowc (.slice (some ⟨b30, 0, none⟩) (2 ^ (featL (placeN names (usedF (Fm.rowT t)))).length) (2 ^ (featL (placeN names (usedF (Fm.rowT t)))).length)) (2 ^ (featL (placeN names (usedF (Fm.rowT t)))).length) 4 1 (bls (tabN (2 ^ (featL (placeN names (usedF (Fm.rowT t)))).length) i (fun k => evT names t (cfg (confN (featL (placeN names (usedF (Fm.rowT t)))) k))))), pt b2 [Value.int .u8 t.op, .string (str t.name), .slice a t.kids.length c] 24, pt b4 [.slice none 0 0, .slice none 0 0] 44]
  refine jN 15 ?_
  refine WC.cond rfl (fun h35 => ?_) (fun h35 => ?_)
  ·have hlt : i < (2 ^ (featL (placeN names (usedF (Fm.rowT t)))).length) := by simp at h35; exact_mod_cast h35
   refine jN 4 ?_
   refine WC.drawsL (by kernel_rfl) (FactsOk.cons (ds := [11]) (LoadOk.one (t := 8) (off := 1) rfl jM rfl) (FactsOk.cons (ds := [9, 11]) (LoadOk.whole (t := 2) rfl jM) (FactsOk.cons (ds := [8, 9, 11]) (LoadOk.one (t := 8) (off := 0) rfl jM rfl) (FactsOk.nil)))) ?_
   refine jT 0 rfl (Yl.fieldAddr0 F.fld44_1 rfl) ?_
   refine jF 1 0 rfl rfl (Yl.load1 F.one42 rfl) ?_
   refine jT 2 rfl (Yl.move rfl) ?_
   refine jF 3 1 rfl rfl (Yl.loadN F.agg24 rfl rfl) ?_
   refine jT 4 rfl (Yl.move rfl) ?_
   refine jT 5 rfl (Yl.fieldAddr0 F.fld44_0 rfl) ?_
   refine jF 6 2 rfl rfl (Yl.load1 F.one41 rfl) ?_
   refine jT 7 rfl (Yl.move rfl) ?_
   refine jA 8 rfl ?_
   refine WL.callV F.fun48 rfl rfl (fun w hS => Config_c (featL (placeN names (usedF (Fm.rowT t)))) i (by omega) hfs hf24 hfl va vc w (RdV.of_row rfl (hS.ok (rowc (.slice va (featL (placeN names (usedF (Fm.rowT t)))).length vc) (featL (placeN names (usedF (Fm.rowT t)))).length 3 1 (nums (featL (placeN names (usedF (Fm.rowT t)))))) jM))) ?_
   refine WD.on (closed_of (by kernel_rfl)) (fun w hS => Sx.keep (hS.cell jM rfl) (Sx.keep ((fun j v hv => by rw [Nat.zero_add]; exact hS.cell jM hv)) (Sx.gone rfl (Sx.none)))) ?_
   refine jA 9 rfl ?_
   refine WL.callV F.fun15 rfl rfl (fun w hS => rTrue_c names na nc (confN (featL (placeN names (usedF (Fm.rowT t)))) i) h24 1000 (by omega) t wb G a c w (by omega) hokT hr (hE.st hS) (hnr.next hS)) ?_
   refine WD.on (closed_of (by kernel_rfl)) (fun w hS => Sx.keep (hS.cell jM rfl) (Sx.gone rfl (Sx.gone rfl (Sx.none)))) ?_
   refine jT 10 rfl (Yl.indexAddr F.sl42 rfl rfl hlt) ?_
   refine jA 11 rfl ?_
   refine WL.storeRow1 (xs := bls (tabN (2 ^ (featL (placeN names (usedF (Fm.rowT t)))).length) i (fun k => evT names t (cfg (confN (featL (placeN names (usedF (Fm.rowT t)))) k))))) (xs' := bls (tabN (2 ^ (featL (placeN names (usedF (Fm.rowT t)))).length) (i + 1) (fun k => evT names t (cfg (confN (featL (placeN names (usedF (Fm.rowT t)))) k))))) F.one4 rfl rfl rfl jU (by rw [Nat.zero_add, Nat.mul_one, ← tabN_set (fun k => evT names t (cfg (confN (featL (placeN names (usedF (Fm.rowT t)))) k))) hlt]; have h7 := setN_set (bls (tabN (2 ^ (featL (placeN names (usedF (Fm.rowT t)))).length) i (fun k => evT names t (cfg (confN (featL (placeN names (usedF (Fm.rowT t)))) k))))) i (.bool (evT names t (cfg (confN (featL (placeN names (usedF (Fm.rowT t)))) i)))) (by simp [bls, tabN_len]; exact hlt); rwa [← List.map_set] at h7) ?_
   refine jG ?_
   refine jD ?_
   refine jN 10 ?_
   refine WQ.chunks (C' := [pt b8 [.slice va (featL (placeN names (usedF (Fm.rowT t)))).length vc, .slice (some ⟨b30, 0, none⟩) (2 ^ (featL (placeN names (usedF (Fm.rowT t)))).length) (2 ^ (featL (placeN names (usedF (Fm.rowT t)))).length)] 44, rowc (.slice va (featL (placeN names (usedF (Fm.rowT t)))).length vc) (featL (placeN names (usedF (Fm.rowT t)))).length 3 1 (nums (featL (placeN names (usedF (Fm.rowT t))))), rowc (.slice (some ⟨b30, 0, none⟩) (2 ^ (featL (placeN names (usedF (Fm.rowT t)))).length) (2 ^ (featL (placeN names (usedF (Fm.rowT t)))).length)) (2 ^ (featL (placeN names (usedF (Fm.rowT t)))).length) 4 1 (bls (tabN (2 ^ (featL (placeN names (usedF (Fm.rowT t)))).length) (i + 1) (fun k => evT names t (cfg (confN (featL (placeN names (usedF (Fm.rowT t)))) k))))), pt b2 [Value.int .u8 t.op, .string (str t.name), .slice a t.kids.length c] 24, pt b4 [.slice none 0 0, .slice none 0 0] 44]) (fun w hS => (jK hS)) ?_
   refine WQ.back (i + 1) ?_ ?_ ?_ ?_
   ·exact by (show i + 1 ≤ (2 ^ (featL (placeN names (usedF (Fm.rowT t)))).length)); omega
   ·(show (2 ^ (featL (placeN names (usedF (Fm.rowT t)))).length) - (i + 1) < (2 ^ (featL (placeN names (usedF (Fm.rowT t)))).length) - i; omega)
   ·exact ⟨rfl, rfl, rfl, rfl, rfl, trivial⟩
   ·rfl
  ·have hie : i = (2 ^ (featL (placeN names (usedF (Fm.rowT t)))).length) := by (have h9 : ¬ i < (2 ^ (featL (placeN names (usedF (Fm.rowT t)))).length) := fun hq => (by (have h8 : decide (((i : Nat) : Int) < (((2 ^ (featL (placeN names (usedF (Fm.rowT t)))).length) : Nat) : Int)) = true := decide_eq_true (by omega)); rw [h8] at h35; cases h35)); omega
   refine jN 14 ?_
   exact WQ.ret (rs := [.cell 4 44]) rfl (.cellN F.agg44 rfl jM rfl .nil) (fun w hS => ⟨⟨va, vc, b30⟩, rfl, by rw [hie] at hS; exact (jK hS)⟩)

end Go.Proofs.YtkgllhkhdjodeaaGreat

namespace Go.Proofs.YtkgllhkhdjodeaaGreat
open Go Go.Eng Go.Proofs Dg
theorem Support_c (t : BT) (a : Option Addr) (c : Nat) (w : World) (ht : RdD w t a) : Pure Tryz.prog 35 [dval t a c] w (.int .u32 (supT (canon t).1 : Int)) := by
 have hmk := canon_mk ht.1
 have hcl := canon_len ht.1
 refine enter Tryz.func35 rfl Tryz.ntmps35 rfl (St.init _) ?_
 refine jN 3 ?_
 refine WL.boxN rfl rfl (fun b1 => ?_)
 refine jN 24 ?_
 refine WC.chunks (C' := []) (fun w hS => hS.sublist (List.nil_sublist _)) ?_
 refine WC.loop (α := Nat) (fun i => i ≤ (canon t).1.length) (fun i => [(3, .int .u32 (supT ((canon t).1.take i) : Int)), (7, .slice a (canon t).1.length c), (8, .int .i64 ((canon t).1.length : Int)), (9, .int .i64 (i : Int))]) (fun _ => []) (fun i => (canon t).1.length - i) (0) ?_ ?_ ?_ ?_
 ·exact Nat.zero_le _
 ·exact ⟨rfl, rfl, rfl, rfl, trivial⟩
 ·rfl
 rintro i hi
 show WC _ _ _ _ _ _ _ [(3, .int .u32 (supT ((canon t).1.take i) : Int)), (7, .slice a (canon t).1.length c), (8, .int .i64 ((canon t).1.length : Int)), (9, .int .i64 (i : Int))] []
 refine jN 7 ?_
 refine WC.cond rfl (fun h10 => ?_) (fun h10 => ?_)
 ·have hlt : i < (canon t).1.length := by simpa using h10
  obtain ⟨x, hx⟩ : ∃ x, (canon t).1[i]? = some x := ⟨_, List.getElem?_eq_getElem hlt⟩
  have hkb := hmk.kid i x hx
  obtain ⟨bl, off, rfl, hcx⟩ := ht.2.at hx
  have hsl : supT ((canon t).1.take i) < 2 ^ 24 := sup_fold _ _ (fun y hy => (by obtain ⟨j, hj⟩ := List.getElem?_of_mem (List.mem_of_mem_take hy); exact (hmk.kid j y hj).1)) (by decide)
  have hx32 : 2 ^ x.1 < 4294967296 := pow32 (by omega)
  refine jN 7 ?_
  refine WL.indexAddr F.sl33 rfl rfl rfl hlt ?_
  refine jN 1 ?_
  refine WL.loadN F.agg104 rfl rfl (vs := [.int .i64 (x.1 : Int), .int .i64 (x.2.1 : Int), .int .i64 (x.2.2 : Int)]) rfl (fun w hS j v hv => hS.oldc (hcx j v hv) (by simp)) ?_
  refine jN 1 ?_
  refine WL.alloc F.zero104 rfl (fun b5 => ?_)
  refine jN 12 ?_
  refine WL.bin rfl rfl rfl (fun w => run_shl1 (by omega) _ _ _ w) ?_
  refine jN 1 ?_
  refine WL.bin rfl rfl rfl (fun w => run_or (by omega) hx32 _ _ _ w) ?_
  refine jN 11 ?_
  refine WQ.chunks (C' := []) (fun w hS => hS.sublist (List.nil_sublist _)) ?_
  refine WQ.back (i + 1) (by show i + 1 ≤ (canon t).1.length; omega) (by show (canon t).1.length - (i + 1) < (canon t).1.length - i; omega) ?_ rfl
  simp only [supT_take hx]
  exact ⟨rfl, rfl, rfl, rfl, trivial⟩
 ·have hie : i = (canon t).1.length := by simp at h10; omega
  subst hie
  rw [List.take_length]
  refine jN 14 ?_
  exact WQ.ret (rs := [.tmp 2]) rfl (.tmp rfl .nil) (fun w hS => ⟨rfl, hS⟩)

end Go.Proofs.YtkgllhkhdjodeaaGreat

namespace Fm
open Go Go.Eng
/-! ### what is printed is parsed -/
/-- The token at a place, behind blanks. -/
def nextP (text : List UInt8) (p : Nat) : NR :=
 match tok (text.drop (p + blanks (text.drop p))) with
 | some x => .ok (p + blanks (text.drop p)) x
 | none => .bad (p + blanks (text.drop p))
def okv (v : List UInt8) : Prop := ∀ c, v.head? = some c → inWordB c = false
/-! levels -/
def opTok : Nat → List UInt8
 | 2 => [38] | 3 => [94] | 4 => [124] | 5 => [61, 62] | 6 => [60, 61, 62] | _ => [63]
def ntOf : Nat → NT
 | 1 => .not | 2 => .row 2 | 3 => .row 1 | 4 => .row 0 | 5 => .implies | 6 => .same | _ => .choice
def follow (l : Nat) (x : List UInt8) : Prop := ∀ m, 2 ≤ m → m ≤ l → x ≠ opTok m
/-- A text that stands at a place is that of t: a token begins there, and at every line of the grammar from l on it is parsed to t. -/
def PutOk (s : List UInt8) (t : Tree) (l : Nat) : Prop := ∀ (text v : List UInt8) (p : Nat), text.drop p = s ++ v → okv v →
 ∃ y, nextP text p = .ok p y ∧ y ≠ [] ∧ ∀ m a' x', l ≤ m → m ≤ 7 → nextP text (p + s.length) = .ok a' x' → follow m x' → ∃ n, parse text n (ntOf m) p y = some (.ok t a' x')
end Fm

namespace Fm
open Go Go.Eng
def lineN (op : Int) : Nat := (lineOf op).toNat
end Fm

namespace Go.Proofs.YtkgllhkhdjodeaaGreat
open Go Go.Eng Go.Proofs
end Go.Proofs.YtkgllhkhdjodeaaGreat

namespace Go.Proofs.YtkgllhkhdjodeaaGreat
open Go Go.Eng Go.Proofs
end Go.Proofs.YtkgllhkhdjodeaaGreat

namespace Go.Proofs.YtkgllhkhdjodeaaGreat
open Go Go.Eng Go.Proofs Dg
theorem run_neZ {x y : Operand} (a b : Bool) (w : World) : (do eqGuard .neq 4 x y (.bool a) (.bool b); binOp .neq 4 (.bool a) (.bool b) : Sem Value).run Tryz.prog w = .ok (.bool (a != b)) w := by
 have h := run_neq_bool (P := Tryz.prog) (w := w) 4 a b und4b
 simp [eqGuard, h]
 cases a <;> cases b <;> rfl
def hb (how : Int) (x y : Bool) : Bool := if how = 0 then x && y else if how = 1 then x || y else x != y
set_option maxRecDepth 100000 in
theorem Join2_c (v u : List Nat) (bs ds : List Bool) (how : Int) (hv24 : ∀ x ∈ v, x < 24) (hvl : v.length ≤ 24) (hu24 : ∀ x ∈ u, x < 24) (hul : u.length ≤ 24) (hbl : bs.length = 2 ^ v.length) (hdl : ds.length = 2 ^ u.length) (a ta a2 tb : Option Addr) (c tc c2 td : Nat) (w : World) (hr : RdV w v a) (hrb : RdB w bs ta) (hr2 : RdV w u a2) (hrb2 : RdB w ds tb) :
  Calls Tryz.prog 157 [sval v a c bs ta tc, sval u a2 c2 ds tb td, .int .i64 how].toArray w fun e w' => ∃ y : RSetG, e = .returned (.agg [.slice y.va (featL (numN v ||| numN u)).length y.vc, .slice (some ⟨y.b, 0, none⟩) (2 ^ (featL (numN v ||| numN u)).length) (2 ^ (featL (numN v ||| numN u)).length)].toArray) ∧ St w [] [rowc (.slice y.va (featL (numN v ||| numN u)).length y.vc) (featL (numN v ||| numN u)).length 3 1 (nums (featL (numN v ||| numN u))), rowc (.slice (some ⟨y.b, 0, none⟩) (2 ^ (featL (numN v ||| numN u)).length) (2 ^ (featL (numN v ||| numN u)).length)) (2 ^ (featL (numN v ||| numN u)).length) 4 1 (bls (tabN (2 ^ (featL (numN v ||| numN u)).length) (2 ^ (featL (numN v ||| numN u)).length) (fun k => hb how (bs.getD (hasN v (confN (featL (numN v ||| numN u)) k)) false) (ds.getD (hasN u (confN (featL (numN v ||| numN u)) k)) false))))] w' := by
 have hfl := featL_len (numN v ||| numN u)
 have hfs := featL_sorted (numN v ||| numN u)
 have hf24 : ∀ x ∈ (featL (numN v ||| numN u)), x < 24 := fun x hx => featL_lt hx
 have h2n : (2 ^ (featL (numN v ||| numN u)).length) ≤ 2 ^ 24 := Nat.pow_le_pow_right (by decide) hfl
 refine enter Tryz.func157 rfl Tryz.ntmps157 rfl (St.init _) ?_
 refine jN 3 ?_
 refine WL.boxN rfl rfl (fun b3 => ?_)
 refine jN 1 ?_
 refine WL.boxN rfl rfl (fun b4 => ?_)
 refine jN 1 ?_
 refine WL.alloc F.zero44 rfl (fun b6 => ?_)
 refine jN 13 ?_
 refine jC (β := Option Addr × Nat) (res := fun y => .slice y.1 (featL (numN v ||| numN u)).length y.2) (cs := fun y => [rowc (.slice y.1 (featL (numN v ||| numN u)).length y.2) (featL (numN v ||| numN u)).length 3 1 (nums (featL (numN v ||| numN u)))]) F.fun174 rfl (fun w hS _ => Join_c v u hv24 hvl hu24 hul a a2 c c2 w (hr.next hS) (hr2.next hS)) (fun ⟨va, vc⟩ => ?_)
 refine jN 1 ?_
 refine jC (β := Nat) (res := fun y => .agg [.slice va (featL (numN v ||| numN u)).length vc, .slice (some ⟨y, 0, none⟩) (2 ^ (featL (numN v ||| numN u)).length) (2 ^ (featL (numN v ||| numN u)).length)].toArray) (cs := fun y => [rowc (.slice (some ⟨y, 0, none⟩) (2 ^ (featL (numN v ||| numN u)).length) (2 ^ (featL (numN v ||| numN u)).length)) (2 ^ (featL (numN v ||| numN u)).length) 4 1 (bls (List.replicate (2 ^ (featL (numN v ||| numN u)).length) false))]) F.fun49 rfl (fun w hS _ => Blank_c (featL (numN v ||| numN u)) hfl va vc w) (fun b17 => ?_)
 refine jN 1 ?_
 refine WL.alloc F.zero44 rfl (fun b7 => ?_)
 refine jN 12 ?_
 refine WC.chunks (C' := [pt b7 [.slice va (featL (numN v ||| numN u)).length vc, .slice (some ⟨b17, 0, none⟩) (2 ^ (featL (numN v ||| numN u)).length) (2 ^ (featL (numN v ||| numN u)).length)] 44, rowc (.slice va (featL (numN v ||| numN u)).length vc) (featL (numN v ||| numN u)).length 3 1 (nums (featL (numN v ||| numN u))), rowc (.slice (some ⟨b17, 0, none⟩) (2 ^ (featL (numN v ||| numN u)).length) (2 ^ (featL (numN v ||| numN u)).length)) (2 ^ (featL (numN v ||| numN u)).length) 4 1 (bls (tabN (2 ^ (featL (numN v ||| numN u)).length) 0 (fun k => hb how (bs.getD (hasN v (confN (featL (numN v ||| numN u)) k)) false) (ds.getD (hasN u (confN (featL (numN v ||| numN u)) k)) false)))), pt b3 (scells v a c bs ta tc) 44, pt b4 (scells u a2 c2 ds tb td) 44, pt b6 [.slice none 0 0, .slice none 0 0] 44]) (fun w hS => by rw [tabN_zero]; exact (jK hS)) ?_
 refine WC.loop (α := Nat) (fun i => i ≤ (2 ^ (featL (numN v ||| numN u)).length)) (fun i => [(2, .int .i64 how), (3, pp b3), (4, pp b4), (6, pp b6), (7, pp b7), (8, .int .i64 (i : Int))]) (fun i => [pt b7 [.slice va (featL (numN v ||| numN u)).length vc, .slice (some ⟨b17, 0, none⟩) (2 ^ (featL (numN v ||| numN u)).length) (2 ^ (featL (numN v ||| numN u)).length)] 44, rowc (.slice va (featL (numN v ||| numN u)).length vc) (featL (numN v ||| numN u)).length 3 1 (nums (featL (numN v ||| numN u))), rowc (.slice (some ⟨b17, 0, none⟩) (2 ^ (featL (numN v ||| numN u)).length) (2 ^ (featL (numN v ||| numN u)).length)) (2 ^ (featL (numN v ||| numN u)).length) 4 1 (bls (tabN (2 ^ (featL (numN v ||| numN u)).length) i (fun k => hb how (bs.getD (hasN v (confN (featL (numN v ||| numN u)) k)) false) (ds.getD (hasN u (confN (featL (numN v ||| numN u)) k)) false)))), pt b3 (scells v a c bs ta tc) 44, pt b4 (scells u a2 c2 ds tb td) 44, pt b6 [.slice none 0 0, .slice none 0 0] 44]) (fun i => (2 ^ (featL (numN v ||| numN u)).length) - i) (0) ?_ ?_ ?_ ?_
 ·exact Nat.zero_le _
 ·exact ⟨rfl, rfl, rfl, rfl, rfl, rfl, trivial⟩
 ·rfl
 rintro i hi
 show WC _ _ _ _ _ _ _ [(2, .int .i64 how), (3, pp b3), (4, pp b4), (6, pp b6), (7, pp b7), (8, .int .i64 (i : Int))] [pt b7 [.slice va (featL (numN v ||| numN u)).length vc, .slice (some ⟨b17, 0, none⟩) (2 ^ (featL (numN v ||| numN u)).length) (2 ^ (featL (numN v ||| numN u)).length)] 44, rowc (.slice va (featL (numN v ||| numN u)).length vc) (featL (numN v ||| numN u)).length 3 1 (nums (featL (numN v ||| numN u))), rowc (.slice (some ⟨b17, 0, none⟩) (2 ^ (featL (numN v ||| numN u)).length) (2 ^ (featL (numN v ||| numN u)).length)) (2 ^ (featL (numN v ||| numN u)).length) 4 1 (bls (tabN (2 ^ (featL (numN v ||| numN u)).length) i (fun k => hb how (bs.getD (hasN v (confN (featL (numN v ||| numN u)) k)) false) (ds.getD (hasN u (confN (featL (numN v ||| numN u)) k)) false)))), pt b3 (scells v a c bs ta tc) 44, pt b4 (scells u a2 c2 ds tb td) 44, pt b6 [.slice none 0 0, .slice none 0 0] 44]
 refine jN 15 ?_
 refine WC.cond rfl (fun h22 => ?_) (fun h22 => ?_)
 ·have hlt : i < (2 ^ (featL (numN v ||| numN u)).length) := by simp at h22; exact_mod_cast h22
  obtain ⟨x, hxd⟩ : ∃ x, x = bs.getD (hasN v (confN (featL (numN v ||| numN u)) i)) false := ⟨_, rfl⟩
  obtain ⟨y, hyd⟩ : ∃ y, y = ds.getD (hasN u (confN (featL (numN v ||| numN u)) i)) false := ⟨_, rfl⟩
  have hgi : hb how (bs.getD (hasN v (confN (featL (numN v ||| numN u)) i)) false) (ds.getD (hasN u (confN (featL (numN v ||| numN u)) i)) false) = hb how x y := by (rw [hxd, hyd])
  refine jN 13 ?_
  refine WL.callV F.fun48 rfl rfl (fun w hS => Config_c (featL (numN v ||| numN u)) i (by omega) hfs hf24 hfl va vc w (RdV.of_row rfl (hS.ok (rowc (.slice va (featL (numN v ||| numN u)).length vc) (featL (numN v ||| numN u)).length 3 1 (nums (featL (numN v ||| numN u)))) jM))) ?_
  refine jN 5 ?_
  refine WC.drawsL (by kernel_rfl) (FactsOk.cons (ds := [2, 5]) (LoadOk.whole (t := 3) rfl jM) (FactsOk.cons (ds := [5]) (LoadOk.whole (t := 4) rfl jM) (FactsOk.nil))) ?_
  refine jF 0 0 rfl rfl (Yl.loadN F.agg44 rfl rfl) ?_
  refine jT 1 rfl (Yl.move rfl) ?_
  refine jF 3 1 rfl rfl (Yl.loadN F.agg44 rfl rfl) ?_
  refine jT 4 rfl (Yl.move rfl) ?_
  refine jA 2 rfl ?_
  refine WL.callV (v := .bool x) F.fun125 rfl rfl (fun w hS => by rw [hxd]; exact rHas_c v bs _ hv24 hvl hbl a ta c tc w (hr.next hS) (hrb.next hS)) ?_
  refine WD.on (closed_of (by kernel_rfl)) (fun w hS => Sx.gone rfl (Sx.keep ((fun j v hv => by rw [Nat.zero_add]; exact hS.cell jM hv)) (Sx.none))) ?_
  refine jA 5 rfl ?_
  refine WL.callV (v := .bool y) F.fun125 rfl rfl (fun w hS => by rw [hyd]; exact rHas_c u ds _ hu24 hul hdl a2 tb c2 td w (hr2.next hS) (hrb2.next hS)) ?_
  refine jG ?_
  refine jT 6 rfl (Yl.assign rfl) ?_
  refine jT 7 rfl (Yl.assign rfl) ?_
  refine jD ?_
  refine jN 16 ?_
  refine WC.cond rfl (fun h43 => ?_) (fun h43 => ?_)
  ·have hw : how = 0 := by simpa using h43
   have hv0 : hb how x y = (x && y) := by (unfold hb; rw [if_pos hw])
   refine jN 11 ?_
   refine WA.splitB (i := 49) rfl (fun g49 => ?_) (fun g49 => ?_)
   ·refine jN 6 ?_
    refine WL.indexAddr F.sl42 rfl rfl rfl hlt ?_
    refine WA.say 51 (.bool (hb how x y)) (by rw [hv0, g49]; rfl) ?_
    refine jN 1 ?_
    refine WL.storeRow1 (xs := bls (tabN (2 ^ (featL (numN v ||| numN u)).length) i (fun k => hb how (bs.getD (hasN v (confN (featL (numN v ||| numN u)) k)) false) (ds.getD (hasN u (confN (featL (numN v ||| numN u)) k)) false)))) (xs' := bls (tabN (2 ^ (featL (numN v ||| numN u)).length) (i + 1) (fun k => hb how (bs.getD (hasN v (confN (featL (numN v ||| numN u)) k)) false) (ds.getD (hasN u (confN (featL (numN v ||| numN u)) k)) false)))) F.one4 rfl rfl rfl jU (by rw [Nat.zero_add, Nat.mul_one, ← tabN_set (fun k => hb how (bs.getD (hasN v (confN (featL (numN v ||| numN u)) k)) false) (ds.getD (hasN u (confN (featL (numN v ||| numN u)) k)) false)) hlt, hgi]; have h7 := setN_set (bls (tabN (2 ^ (featL (numN v ||| numN u)).length) i (fun k => hb how (bs.getD (hasN v (confN (featL (numN v ||| numN u)) k)) false) (ds.getD (hasN u (confN (featL (numN v ||| numN u)) k)) false)))) i (.bool (hb how x y)) (by simp [bls, tabN_len]; exact hlt); rwa [← List.map_set] at h7) ?_
    refine jN 12 ?_
    refine WQ.chunks (C' := [pt b7 [.slice va (featL (numN v ||| numN u)).length vc, .slice (some ⟨b17, 0, none⟩) (2 ^ (featL (numN v ||| numN u)).length) (2 ^ (featL (numN v ||| numN u)).length)] 44, rowc (.slice va (featL (numN v ||| numN u)).length vc) (featL (numN v ||| numN u)).length 3 1 (nums (featL (numN v ||| numN u))), rowc (.slice (some ⟨b17, 0, none⟩) (2 ^ (featL (numN v ||| numN u)).length) (2 ^ (featL (numN v ||| numN u)).length)) (2 ^ (featL (numN v ||| numN u)).length) 4 1 (bls (tabN (2 ^ (featL (numN v ||| numN u)).length) (i + 1) (fun k => hb how (bs.getD (hasN v (confN (featL (numN v ||| numN u)) k)) false) (ds.getD (hasN u (confN (featL (numN v ||| numN u)) k)) false)))), pt b3 (scells v a c bs ta tc) 44, pt b4 (scells u a2 c2 ds tb td) 44, pt b6 [.slice none 0 0, .slice none 0 0] 44]) (fun w hS => (jK hS)) ?_
    refine WQ.back (i + 1) ?_ ?_ ?_ ?_
    ·exact by (show i + 1 ≤ (2 ^ (featL (numN v ||| numN u)).length)); omega
    ·(show (2 ^ (featL (numN v ||| numN u)).length) - (i + 1) < (2 ^ (featL (numN v ||| numN u)).length) - i; omega)
    ·exact ⟨rfl, rfl, rfl, rfl, rfl, rfl, trivial⟩
    ·rfl
   ·refine jN 5 ?_
    refine WL.indexAddr F.sl42 rfl rfl rfl hlt ?_
    refine WA.say 51 (.bool (hb how x y)) (by rw [hv0, g49]; rfl) ?_
    refine jN 1 ?_
    refine WL.storeRow1 (xs := bls (tabN (2 ^ (featL (numN v ||| numN u)).length) i (fun k => hb how (bs.getD (hasN v (confN (featL (numN v ||| numN u)) k)) false) (ds.getD (hasN u (confN (featL (numN v ||| numN u)) k)) false)))) (xs' := bls (tabN (2 ^ (featL (numN v ||| numN u)).length) (i + 1) (fun k => hb how (bs.getD (hasN v (confN (featL (numN v ||| numN u)) k)) false) (ds.getD (hasN u (confN (featL (numN v ||| numN u)) k)) false)))) F.one4 rfl rfl rfl jU (by rw [Nat.zero_add, Nat.mul_one, ← tabN_set (fun k => hb how (bs.getD (hasN v (confN (featL (numN v ||| numN u)) k)) false) (ds.getD (hasN u (confN (featL (numN v ||| numN u)) k)) false)) hlt, hgi]; have h7 := setN_set (bls (tabN (2 ^ (featL (numN v ||| numN u)).length) i (fun k => hb how (bs.getD (hasN v (confN (featL (numN v ||| numN u)) k)) false) (ds.getD (hasN u (confN (featL (numN v ||| numN u)) k)) false)))) i (.bool (hb how x y)) (by simp [bls, tabN_len]; exact hlt); rwa [← List.map_set] at h7) ?_
    refine jN 12 ?_
    refine WQ.chunks (C' := [pt b7 [.slice va (featL (numN v ||| numN u)).length vc, .slice (some ⟨b17, 0, none⟩) (2 ^ (featL (numN v ||| numN u)).length) (2 ^ (featL (numN v ||| numN u)).length)] 44, rowc (.slice va (featL (numN v ||| numN u)).length vc) (featL (numN v ||| numN u)).length 3 1 (nums (featL (numN v ||| numN u))), rowc (.slice (some ⟨b17, 0, none⟩) (2 ^ (featL (numN v ||| numN u)).length) (2 ^ (featL (numN v ||| numN u)).length)) (2 ^ (featL (numN v ||| numN u)).length) 4 1 (bls (tabN (2 ^ (featL (numN v ||| numN u)).length) (i + 1) (fun k => hb how (bs.getD (hasN v (confN (featL (numN v ||| numN u)) k)) false) (ds.getD (hasN u (confN (featL (numN v ||| numN u)) k)) false)))), pt b3 (scells v a c bs ta tc) 44, pt b4 (scells u a2 c2 ds tb td) 44, pt b6 [.slice none 0 0, .slice none 0 0] 44]) (fun w hS => (jK hS)) ?_
    refine WQ.back (i + 1) ?_ ?_ ?_ ?_
    ·exact by (show i + 1 ≤ (2 ^ (featL (numN v ||| numN u)).length)); omega
    ·(show (2 ^ (featL (numN v ||| numN u)).length) - (i + 1) < (2 ^ (featL (numN v ||| numN u)).length) - i; omega)
    ·exact ⟨rfl, rfl, rfl, rfl, rfl, rfl, trivial⟩
    ·rfl
  ·have hw0 : ¬ how = 0 := by simpa using h43
   refine jN 8 ?_
   refine WC.cond rfl (fun h53 => ?_) (fun h53 => ?_)
   ·have hw : how = 1 := by simpa using h53
    have hv0 : hb how x y = (x || y) := by (unfold hb; rw [if_neg hw0, if_pos hw])
    refine jN 11 ?_
    refine WA.splitB (i := 59) rfl (fun g59 => ?_) (fun g59 => ?_)
    ·refine jN 5 ?_
     refine WL.indexAddr F.sl42 rfl rfl rfl hlt ?_
     refine WA.say 61 (.bool (hb how x y)) (by rw [hv0, g59]; rfl) ?_
     refine jN 1 ?_
     refine WL.storeRow1 (xs := bls (tabN (2 ^ (featL (numN v ||| numN u)).length) i (fun k => hb how (bs.getD (hasN v (confN (featL (numN v ||| numN u)) k)) false) (ds.getD (hasN u (confN (featL (numN v ||| numN u)) k)) false)))) (xs' := bls (tabN (2 ^ (featL (numN v ||| numN u)).length) (i + 1) (fun k => hb how (bs.getD (hasN v (confN (featL (numN v ||| numN u)) k)) false) (ds.getD (hasN u (confN (featL (numN v ||| numN u)) k)) false)))) F.one4 rfl rfl rfl jU (by rw [Nat.zero_add, Nat.mul_one, ← tabN_set (fun k => hb how (bs.getD (hasN v (confN (featL (numN v ||| numN u)) k)) false) (ds.getD (hasN u (confN (featL (numN v ||| numN u)) k)) false)) hlt, hgi]; have h7 := setN_set (bls (tabN (2 ^ (featL (numN v ||| numN u)).length) i (fun k => hb how (bs.getD (hasN v (confN (featL (numN v ||| numN u)) k)) false) (ds.getD (hasN u (confN (featL (numN v ||| numN u)) k)) false)))) i (.bool (hb how x y)) (by simp [bls, tabN_len]; exact hlt); rwa [← List.map_set] at h7) ?_
     refine jN 12 ?_
     refine WQ.chunks (C' := [pt b7 [.slice va (featL (numN v ||| numN u)).length vc, .slice (some ⟨b17, 0, none⟩) (2 ^ (featL (numN v ||| numN u)).length) (2 ^ (featL (numN v ||| numN u)).length)] 44, rowc (.slice va (featL (numN v ||| numN u)).length vc) (featL (numN v ||| numN u)).length 3 1 (nums (featL (numN v ||| numN u))), rowc (.slice (some ⟨b17, 0, none⟩) (2 ^ (featL (numN v ||| numN u)).length) (2 ^ (featL (numN v ||| numN u)).length)) (2 ^ (featL (numN v ||| numN u)).length) 4 1 (bls (tabN (2 ^ (featL (numN v ||| numN u)).length) (i + 1) (fun k => hb how (bs.getD (hasN v (confN (featL (numN v ||| numN u)) k)) false) (ds.getD (hasN u (confN (featL (numN v ||| numN u)) k)) false)))), pt b3 (scells v a c bs ta tc) 44, pt b4 (scells u a2 c2 ds tb td) 44, pt b6 [.slice none 0 0, .slice none 0 0] 44]) (fun w hS => (jK hS)) ?_
     refine WQ.back (i + 1) ?_ ?_ ?_ ?_
     ·exact by (show i + 1 ≤ (2 ^ (featL (numN v ||| numN u)).length)); omega
     ·(show (2 ^ (featL (numN v ||| numN u)).length) - (i + 1) < (2 ^ (featL (numN v ||| numN u)).length) - i; omega)
     ·exact ⟨rfl, rfl, rfl, rfl, rfl, rfl, trivial⟩
     ·rfl
    ·refine jN 6 ?_
     refine WL.indexAddr F.sl42 rfl rfl rfl hlt ?_
     refine WA.say 61 (.bool (hb how x y)) (by rw [hv0, g59]; rfl) ?_
     refine jN 1 ?_
     refine WL.storeRow1 (xs := bls (tabN (2 ^ (featL (numN v ||| numN u)).length) i (fun k => hb how (bs.getD (hasN v (confN (featL (numN v ||| numN u)) k)) false) (ds.getD (hasN u (confN (featL (numN v ||| numN u)) k)) false)))) (xs' := bls (tabN (2 ^ (featL (numN v ||| numN u)).length) (i + 1) (fun k => hb how (bs.getD (hasN v (confN (featL (numN v ||| numN u)) k)) false) (ds.getD (hasN u (confN (featL (numN v ||| numN u)) k)) false)))) F.one4 rfl rfl rfl jU (by rw [Nat.zero_add, Nat.mul_one, ← tabN_set (fun k => hb how (bs.getD (hasN v (confN (featL (numN v ||| numN u)) k)) false) (ds.getD (hasN u (confN (featL (numN v ||| numN u)) k)) false)) hlt, hgi]; have h7 := setN_set (bls (tabN (2 ^ (featL (numN v ||| numN u)).length) i (fun k => hb how (bs.getD (hasN v (confN (featL (numN v ||| numN u)) k)) false) (ds.getD (hasN u (confN (featL (numN v ||| numN u)) k)) false)))) i (.bool (hb how x y)) (by simp [bls, tabN_len]; exact hlt); rwa [← List.map_set] at h7) ?_
     refine jN 12 ?_
     refine WQ.chunks (C' := [pt b7 [.slice va (featL (numN v ||| numN u)).length vc, .slice (some ⟨b17, 0, none⟩) (2 ^ (featL (numN v ||| numN u)).length) (2 ^ (featL (numN v ||| numN u)).length)] 44, rowc (.slice va (featL (numN v ||| numN u)).length vc) (featL (numN v ||| numN u)).length 3 1 (nums (featL (numN v ||| numN u))), rowc (.slice (some ⟨b17, 0, none⟩) (2 ^ (featL (numN v ||| numN u)).length) (2 ^ (featL (numN v ||| numN u)).length)) (2 ^ (featL (numN v ||| numN u)).length) 4 1 (bls (tabN (2 ^ (featL (numN v ||| numN u)).length) (i + 1) (fun k => hb how (bs.getD (hasN v (confN (featL (numN v ||| numN u)) k)) false) (ds.getD (hasN u (confN (featL (numN v ||| numN u)) k)) false)))), pt b3 (scells v a c bs ta tc) 44, pt b4 (scells u a2 c2 ds tb td) 44, pt b6 [.slice none 0 0, .slice none 0 0] 44]) (fun w hS => (jK hS)) ?_
     refine WQ.back (i + 1) ?_ ?_ ?_ ?_
     ·exact by (show i + 1 ≤ (2 ^ (featL (numN v ||| numN u)).length)); omega
     ·(show (2 ^ (featL (numN v ||| numN u)).length) - (i + 1) < (2 ^ (featL (numN v ||| numN u)).length) - i; omega)
     ·exact ⟨rfl, rfl, rfl, rfl, rfl, rfl, trivial⟩
     ·rfl
   ·have hw1 : ¬ how = 1 := by simpa using h53
    have hv0 : hb how x y = (x != y) := by (unfold hb; rw [if_neg hw0, if_neg hw1])
    refine jN 12 ?_
    refine WL.bin rfl rfl rfl (fun w => run_neZ _ _ w) ?_
    refine jN 1 ?_
    refine WL.indexAddr F.sl42 rfl rfl rfl hlt ?_
    refine WA.say 41 (.bool (hb how x y)) (by rw [hv0]; rfl) ?_
    refine jN 1 ?_
    refine WL.storeRow1 (xs := bls (tabN (2 ^ (featL (numN v ||| numN u)).length) i (fun k => hb how (bs.getD (hasN v (confN (featL (numN v ||| numN u)) k)) false) (ds.getD (hasN u (confN (featL (numN v ||| numN u)) k)) false)))) (xs' := bls (tabN (2 ^ (featL (numN v ||| numN u)).length) (i + 1) (fun k => hb how (bs.getD (hasN v (confN (featL (numN v ||| numN u)) k)) false) (ds.getD (hasN u (confN (featL (numN v ||| numN u)) k)) false)))) F.one4 rfl rfl rfl jU (by rw [Nat.zero_add, Nat.mul_one, ← tabN_set (fun k => hb how (bs.getD (hasN v (confN (featL (numN v ||| numN u)) k)) false) (ds.getD (hasN u (confN (featL (numN v ||| numN u)) k)) false)) hlt, hgi]; have h7 := setN_set (bls (tabN (2 ^ (featL (numN v ||| numN u)).length) i (fun k => hb how (bs.getD (hasN v (confN (featL (numN v ||| numN u)) k)) false) (ds.getD (hasN u (confN (featL (numN v ||| numN u)) k)) false)))) i (.bool (hb how x y)) (by simp [bls, tabN_len]; exact hlt); rwa [← List.map_set] at h7) ?_
    refine jN 12 ?_
    refine WQ.chunks (C' := [pt b7 [.slice va (featL (numN v ||| numN u)).length vc, .slice (some ⟨b17, 0, none⟩) (2 ^ (featL (numN v ||| numN u)).length) (2 ^ (featL (numN v ||| numN u)).length)] 44, rowc (.slice va (featL (numN v ||| numN u)).length vc) (featL (numN v ||| numN u)).length 3 1 (nums (featL (numN v ||| numN u))), rowc (.slice (some ⟨b17, 0, none⟩) (2 ^ (featL (numN v ||| numN u)).length) (2 ^ (featL (numN v ||| numN u)).length)) (2 ^ (featL (numN v ||| numN u)).length) 4 1 (bls (tabN (2 ^ (featL (numN v ||| numN u)).length) (i + 1) (fun k => hb how (bs.getD (hasN v (confN (featL (numN v ||| numN u)) k)) false) (ds.getD (hasN u (confN (featL (numN v ||| numN u)) k)) false)))), pt b3 (scells v a c bs ta tc) 44, pt b4 (scells u a2 c2 ds tb td) 44, pt b6 [.slice none 0 0, .slice none 0 0] 44]) (fun w hS => (jK hS)) ?_
    refine WQ.back (i + 1) ?_ ?_ ?_ ?_
    ·exact by (show i + 1 ≤ (2 ^ (featL (numN v ||| numN u)).length)); omega
    ·(show (2 ^ (featL (numN v ||| numN u)).length) - (i + 1) < (2 ^ (featL (numN v ||| numN u)).length) - i; omega)
    ·exact ⟨rfl, rfl, rfl, rfl, rfl, rfl, trivial⟩
    ·rfl
 ·have hie : i = (2 ^ (featL (numN v ||| numN u)).length) := by (have h9 : ¬ i < (2 ^ (featL (numN v ||| numN u)).length) := fun hq => (by (have h8 : decide (((i : Nat) : Int) < (((2 ^ (featL (numN v ||| numN u)).length) : Nat) : Int)) = true := decide_eq_true (by omega)); rw [h8] at h22; cases h22)); omega
  refine jN 14 ?_
  exact WQ.ret (rs := [.cell 6 44]) rfl (.cellN F.agg44 rfl jM rfl .nil) (fun w hS => ⟨⟨va, vc, b17⟩, rfl, by rw [hie] at hS; exact (jK hS)⟩)

end Go.Proofs.YtkgllhkhdjodeaaGreat

namespace Go.Proofs.YtkgllhkhdjodeaaGreat
open Go Go.Eng Go.Proofs Dg
theorem rXor_c (v u : List Nat) (bs ds : List Bool) (hv24 : ∀ x ∈ v, x < 24) (hvl : v.length ≤ 24) (hu24 : ∀ x ∈ u, x < 24) (hul : u.length ≤ 24) (hbl : bs.length = 2 ^ v.length) (hdl : ds.length = 2 ^ u.length) (a ta a2 tb : Option Addr) (c tc c2 td : Nat) (w : World) (hr : RdV w v a) (hrb : RdB w bs ta) (hr2 : RdV w u a2) (hrb2 : RdB w ds tb) :
  Calls Tryz.prog 117 [sval v a c bs ta tc, sval u a2 c2 ds tb td].toArray w fun e w' => ∃ y : RSetG, e = .returned (.agg [.slice y.va (featL (numN v ||| numN u)).length y.vc, .slice (some ⟨y.b, 0, none⟩) (2 ^ (featL (numN v ||| numN u)).length) (2 ^ (featL (numN v ||| numN u)).length)].toArray) ∧ St w [] [rowc (.slice y.va (featL (numN v ||| numN u)).length y.vc) (featL (numN v ||| numN u)).length 3 1 (nums (featL (numN v ||| numN u))), rowc (.slice (some ⟨y.b, 0, none⟩) (2 ^ (featL (numN v ||| numN u)).length) (2 ^ (featL (numN v ||| numN u)).length)) (2 ^ (featL (numN v ||| numN u)).length) 4 1 (bls (tabN (2 ^ (featL (numN v ||| numN u)).length) (2 ^ (featL (numN v ||| numN u)).length) (fun k => hb 2 (bs.getD (hasN v (confN (featL (numN v ||| numN u)) k)) false) (ds.getD (hasN u (confN (featL (numN v ||| numN u)) k)) false))))] w' := by
 refine enter Tryz.func117 rfl Tryz.ntmps117 rfl (St.init _) ?_
 refine jN 3 ?_
 refine WL.boxN rfl rfl (fun b2 => ?_)
 refine jN 1 ?_
 refine WL.boxN rfl rfl (fun b3 => ?_)
 refine jN 1 ?_
 refine WL.alloc F.zero44 rfl (fun b4 => ?_)
 refine jN 9 ?_
 refine jC (β := RSetG) (res := fun y => .agg [.slice y.va (featL (numN v ||| numN u)).length y.vc, .slice (some ⟨y.b, 0, none⟩) (2 ^ (featL (numN v ||| numN u)).length) (2 ^ (featL (numN v ||| numN u)).length)].toArray) (cs := fun y => [rowc (.slice y.va (featL (numN v ||| numN u)).length y.vc) (featL (numN v ||| numN u)).length 3 1 (nums (featL (numN v ||| numN u))), rowc (.slice (some ⟨y.b, 0, none⟩) (2 ^ (featL (numN v ||| numN u)).length) (2 ^ (featL (numN v ||| numN u)).length)) (2 ^ (featL (numN v ||| numN u)).length) 4 1 (bls (tabN (2 ^ (featL (numN v ||| numN u)).length) (2 ^ (featL (numN v ||| numN u)).length) (fun k => hb 2 (bs.getD (hasN v (confN (featL (numN v ||| numN u)) k)) false) (ds.getD (hasN u (confN (featL (numN v ||| numN u)) k)) false))))]) F.fun157 rfl (fun w hS _ => Join2_c v u bs ds 2 hv24 hvl hu24 hul hbl hdl a ta a2 tb c tc c2 td w (hr.next hS) (hrb.next hS) (hr2.next hS) (hrb2.next hS)) (fun y7 => ?_)
 refine jN 5 ?_
 exact WQ.ret (rs := [.cell 4 44]) rfl (.cellN F.agg44 rfl jM rfl .nil) (fun w hS => ⟨y7, rfl, (jK hS)⟩)

theorem rSameS_c (v u : List Nat) (bs ds : List Bool) (hv24 : ∀ x ∈ v, x < 24) (hvl : v.length ≤ 24) (hu24 : ∀ x ∈ u, x < 24) (hul : u.length ≤ 24) (hbl : bs.length = 2 ^ v.length) (hdl : ds.length = 2 ^ u.length) (a ta a2 tb : Option Addr) (c tc c2 td : Nat) (w : World) (hr : RdV w v a) (hrb : RdB w bs ta) (hr2 : RdV w u a2) (hrb2 : RdB w ds tb) :
  Pure Tryz.prog 68 [sval v a c bs ta tc, sval u a2 c2 ds tb td] w (.bool (!(tabN (2 ^ (featL (numN v ||| numN u)).length) (2 ^ (featL (numN v ||| numN u)).length) (fun k => hb 2 (bs.getD (hasN v (confN (featL (numN v ||| numN u)) k)) false) (ds.getD (hasN u (confN (featL (numN v ||| numN u)) k)) false))).any id)) := by
 have h2n : (2 ^ (featL (numN v ||| numN u)).length) ≤ 2 ^ 24 := Nat.pow_le_pow_right (by decide) (featL_len (numN v ||| numN u))
 refine enter Tryz.func68 rfl Tryz.ntmps68 rfl (St.init _) ?_
 refine jN 3 ?_
 refine WL.boxN rfl rfl (fun b2 => ?_)
 refine jN 1 ?_
 refine WL.boxN rfl rfl (fun b3 => ?_)
 refine jN 11 ?_
 refine jC (β := RSetG) (res := fun y => .agg [.slice y.va (featL (numN v ||| numN u)).length y.vc, .slice (some ⟨y.b, 0, none⟩) (2 ^ (featL (numN v ||| numN u)).length) (2 ^ (featL (numN v ||| numN u)).length)].toArray) (cs := fun y => [rowc (.slice y.va (featL (numN v ||| numN u)).length y.vc) (featL (numN v ||| numN u)).length 3 1 (nums (featL (numN v ||| numN u))), rowc (.slice (some ⟨y.b, 0, none⟩) (2 ^ (featL (numN v ||| numN u)).length) (2 ^ (featL (numN v ||| numN u)).length)) (2 ^ (featL (numN v ||| numN u)).length) 4 1 (bls (tabN (2 ^ (featL (numN v ||| numN u)).length) (2 ^ (featL (numN v ||| numN u)).length) (fun k => hb 2 (bs.getD (hasN v (confN (featL (numN v ||| numN u)) k)) false) (ds.getD (hasN u (confN (featL (numN v ||| numN u)) k)) false))))]) F.fun117 rfl (fun w hS _ => rXor_c v u bs ds hv24 hvl hu24 hul hbl hdl a ta a2 tb c tc c2 td w (hr.next hS) (hrb.next hS) (hr2.next hS) (hrb2.next hS)) (fun y7 => ?_)
 refine WA.say 7 (sval (featL (numN v ||| numN u)) y7.va y7.vc (tabN (2 ^ (featL (numN v ||| numN u)).length) (2 ^ (featL (numN v ||| numN u)).length) (fun k => hb 2 (bs.getD (hasN v (confN (featL (numN v ||| numN u)) k)) false) (ds.getD (hasN u (confN (featL (numN v ||| numN u)) k)) false))) (some ⟨y7.b, 0, none⟩) (2 ^ (featL (numN v ||| numN u)).length)) (by simp only [sval, scells, tabN_len]; rfl) ?_
 refine jN 1 ?_
 refine WL.callV F.fun59 rfl rfl (fun w hS => rEmpty_c (featL (numN v ||| numN u)) _ (by rw [tabN_len]; omega) y7.va (some ⟨y7.b, 0, none⟩) y7.vc (2 ^ (featL (numN v ||| numN u)).length) w (RdB.of_row (n := (2 ^ (featL (numN v ||| numN u)).length)) (by rw [tabN_len]) (hS.ok (rowc (.slice (some ⟨y7.b, 0, none⟩) (2 ^ (featL (numN v ||| numN u)).length) (2 ^ (featL (numN v ||| numN u)).length)) (2 ^ (featL (numN v ||| numN u)).length) 4 1 (bls (tabN (2 ^ (featL (numN v ||| numN u)).length) (2 ^ (featL (numN v ||| numN u)).length) (fun k => hb 2 (bs.getD (hasN v (confN (featL (numN v ||| numN u)) k)) false) (ds.getD (hasN u (confN (featL (numN v ||| numN u)) k)) false))))) jM))) ?_
 refine jN 5 ?_
 exact WQ.ret (rs := [.tmp 4]) rfl (.tmp rfl .nil) (fun w hS => ⟨rfl, hS.sublist (List.nil_sublist _)⟩)

end Go.Proofs.YtkgllhkhdjodeaaGreat
