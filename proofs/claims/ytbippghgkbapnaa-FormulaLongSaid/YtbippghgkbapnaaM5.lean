import Derived.Test.YtbippghgkbapnaaEng8
import Derived.Test.YtbippghgkbapnaaM4
import Derived.Test.YtbippghgkbapnaaSpec
import Derived.Test.YtbippghgkbapnaaFacts
set_option linter.unusedSimpArgs false
set_option linter.unusedVariables false
namespace Go.Proofs.Ytbippghgkbapnaa
open Go Go.Eng Go.Proofs
def nots : Nat → Tree → Tree
  | 0, t => t
  | k + 1, t => .mk 4 [] [nots k t]
theorem nots_in : ∀ (k : Nat) (t : Tree), nots k (.mk 4 [] [t]) = nots (k + 1) t
  | 0, _ => rfl
  | k + 1, t => by rw [nots, nots_in k t]; rfl
def wrapR (k : Nat) : Fm.PR → Fm.PR
  | .ok t a x => .ok (nots k t) a x
  | .bad a => .bad a
theorem wrapR_step {text : List UInt8} {m a k : Nat} {x : List UInt8} {rk r : Fm.PR} (h : Fm.bindP (Fm.parse text m .not a x) (fun t a x => some (.ok (.mk 4 [] [t]) a x)) = some rk) (hr : r = wrapR k rk) :
    ∃ rk', Fm.parse text m .not a x = some rk' ∧ r = wrapR (k + 1) rk' := by
  rcases Fm.bindP_ok h with ⟨b, h1, rfl⟩ | ⟨t, b, y, h1, h2⟩
  · exact ⟨_, h1, hr⟩
  · injection h2 with h2
    subst h2
    exact ⟨_, h1, by rw [hr]; simp [wrapR, nots_in]⟩
theorem takes_word {text wd s x : List UInt8} {at_ a : Nat} (h : Fm.takes text at_ wd s = .yes a x) : wd = s := by
  unfold Fm.takes at h
  split at h
  · assumption
  · cases h

theorem not_c (bp : Nat) (text : List UInt8) (hmax : text.length ≤ 140737488355328) (n : Nat) (hleast : ∀ m, m ≤ n → PC bp text 115 [pp bp] .least m) :
    PC bp text 114 [pp bp] .not (n + 1) := by
  intro a x r w hle hr hp
  refine enter Try.func114 rfl Try.ntmps114 rfl (St.init1 hp) ?_
  refine WC.seq ?_
  refine WC.region ?_
  refine WL.step ?_
  refine WL.alloc F.zero25 rfl (fun b2 => ?_)
  refine WL.nil ?_
  refine WQ.then_normal ?_
  refine WC.seq ?_
  refine WC.region ?_
  refine WL.step ?_
  refine WL.assign rfl rfl ?_
  refine WL.nil ?_
  refine WQ.then_normal ?_
  refine WC.seq ?_
  refine WC.block ?_
  refine WC.chunks (fun w hS => (St.pick hS (c := pt bp (pcell text a x) 76) (by repeat (first | exact Rem.here | apply Rem.there)))) ?_
  refine WC.loop (α := Nat × Nat × Nat × List UInt8) (fun g => g.1 ≤ g.2.2.1 ∧ g.2.1 ≤ n + 1 ∧ g.2.2.1 + g.2.2.2.length ≤ text.length ∧ ∃ rk, Fm.parse text g.2.1 .not g.2.2.1 g.2.2.2 = some rk ∧ r = wrapR g.1 rk) (fun g => [(0, pp bp), (2, pp b2), (3, .int .i64 (g.1 : Int))]) (fun g => [pt bp (pcell text g.2.2.1 g.2.2.2) 76, pt b2 [Value.int .u8 0, .string (str []), .slice none 0 0] 25]) (fun g => g.2.1) ((0, n + 1, a, x)) ?_ ?_ ?_ ?_
  · exact ⟨Nat.zero_le _, Nat.le_refl _, hle, r, hr, by cases r <;> rfl⟩
  · exact ⟨rfl, rfl, rfl, trivial⟩
  · rfl
  rintro ⟨k, m, ak, xk⟩ ⟨hk, hm, hle2, rk, hrk, hrw⟩
  dsimp only at hk hm hle2 hrk hrw
  show WC _ _ _ _ _ _ _ [(0, pp bp), (2, pp b2), (3, .int .i64 (k : Int))] [pt bp (pcell text ak xk) 76, pt b2 [Value.int .u8 0, .string (str []), .slice none 0 0] 25]
  obtain ⟨m, rfl⟩ : ∃ m2, m = m2 + 1 := by cases m with | zero => simp [Fm.parse] at hrk | succ m => exact ⟨m, rfl⟩
  simp only [Fm.parse] at hrk
  refine WC.seq ?_
  refine WC.seq ?_
  rcases Fm.bindT_ok hrk with ⟨ht, hrk2⟩ | ⟨a2, x2, ht, hrk2⟩ | ⟨a2, ht, rfl⟩
  · skip
    have hT := fun w hp => takes_c bp text xk [33] ak hle2 hmax w hp
    rw [ht] at hT
    refine WC.region ?_
    refine WL.step ?_
    refine WL.move rfl rfl ?_
    refine WL.step ?_
    refine WL.call1S (bs := pcell text ak xk) (bs' := pcell text ak xk) F.fun86 rfl rfl (by repeat (first | exact Rem.here | apply Rem.there)) (fun w hS => hT w (hS.heap (by repeat (first | exact List.Mem.head _ | apply List.Mem.tail)))) ?_
    refine WL.nil ?_
    refine WQ.then_normal ?_
    refine WC.condF rfl ?_
    refine WC.exit ?_
    refine WQ.then_exit ?_
    refine WQ.then_exit ?_
    refine WQ.block_exit ?_
    refine WQ.then_normal ?_
    refine WC.seq ?_
    rcases rk with ⟨t, a1, x1⟩ | a1
    · skip
      have hN := fun w hp => hleast m (by omega) _ _ _ w hle2 hrk2 hp
      refine WC.region ?_
      refine WL.step ?_
      refine WL.move rfl rfl ?_
      refine WL.step ?_
      refine WL.call1A (res := fun y : List Nat × Option Addr × Nat => tv t y.2.1 y.2.2) (c1 := fun y : List Nat × Option Addr × Nat => own y.1 t (tv t y.2.1 y.2.2)) (c2 := fun _ => pt bp (pcell text a1 x1) 76) (bs := pcell text ak xk) F.fun115 rfl rfl (by repeat (first | exact Rem.here | apply Rem.there)) (fun w hS => hN w (hS.heap (by repeat (first | exact List.Mem.head _ | apply List.Mem.tail)))) (fun y10 => ?_)
      refine WL.step ?_
      refine WL.alloc F.zero25 rfl (fun b4 => ?_)
      refine WL.step ?_
      refine WL.storeN F.agg25 rfl rfl rfl (by simp [Value.oneCell']) (by repeat (first | exact Upd.here | apply Upd.there)) (by repeat constructor) ?_
      refine WL.nil ?_
      refine WQ.then_normal ?_
      refine WC.seq ?_
      refine WC.seq ?_
      refine WC.region ?_
      refine WL.step ?_
      refine WL.move rfl rfl ?_
      refine WL.step ?_
      refine WL.move rfl rfl ?_
      refine WL.nil ?_
      refine WQ.then_normal ?_
      refine WC.block ?_
      refine WC.loop (α := Nat × (List Nat × Option Addr × Nat)) (fun g => g.1 ≤ k) (fun g => [(2, pp b2), (4, pp b4), (11, .int .i64 (k : Int)), (12, .int .i64 (g.1 : Int))]) (fun g => [pt b4 [.int .u8 (nots g.1 t).op, .string (str (nots g.1 t).name), .slice g.2.2.1 (nots g.1 t).kids.length g.2.2.2] 25, own g.2.1 (nots g.1 t) (tv (nots g.1 t) g.2.2.1 g.2.2.2), pt bp (pcell text a1 x1) 76, pt b2 [Value.int .u8 0, .string (str []), .slice none 0 0] 25]) (fun g => k - g.1) ((0, y10)) ?_ ?_ ?_ ?_
      · exact Nat.zero_le _
      · exact ⟨rfl, rfl, rfl, rfl, trivial⟩
      · rfl
      rintro ⟨i, y⟩ hi
      dsimp only at hi
      show WC _ _ _ _ _ _ _ [(2, pp b2), (4, pp b4), (11, .int .i64 (k : Int)), (12, .int .i64 (i : Int))] [pt b4 [.int .u8 (nots i t).op, .string (str (nots i t).name), .slice y.2.1 (nots i t).kids.length y.2.2] 25, own y.1 (nots i t) (tv (nots i t) y.2.1 y.2.2), pt bp (pcell text a1 x1) 76, pt b2 [Value.int .u8 0, .string (str []), .slice none 0 0] 25]
      refine WC.seq ?_
      refine WC.region ?_
      refine WL.step ?_
      refine WL.ltI rfl rfl rfl ?_
      refine WL.nil ?_
      refine WQ.then_normal ?_
      refine WC.seq ?_
      refine WC.cond rfl (fun h13 => ?_) (fun h13 => ?_)
      · skip
        have hik : i < k := by simpa using h13
        refine WC.skip ?_
        refine WQ.then_normal ?_
        refine WC.seq ?_
        refine WC.block ?_
        refine WC.region ?_
        refine WL.step ?_
        refine WL.loadW F.agg25 rfl rfl (by repeat (first | exact List.Mem.head _ | apply List.Mem.tail)) rfl ?_
        refine WL.step ?_
        refine WL.buildSlice F.sl23 F.ez23 rfl rfl rfl rfl (by repeat (first | exact Built.nil | apply Built.one rfl rfl (by repeat constructor) | apply Built.agg rfl rfl (by repeat constructor))) rfl (fun b15 => ?_)
        refine WL.step ?_
        refine WL.callV F.fun88 rfl rfl (fun w _ => node_c _ _ _ _ w) ?_
        refine WL.step ?_
        refine WL.storeN F.agg25 rfl rfl rfl (by simp [Value.oneCell']) (by repeat (first | exact Upd.here | apply Upd.there)) (by repeat constructor) ?_
        refine WA.chunksE (C' := fun F => [pt b4 [.int .u8 4, .string (str []), .slice (some ⟨b15, 0, none⟩) 1 1] 25, own F (nots (i + 1) t) (.agg [Value.int .u8 4, .string (str []), .slice (some ⟨b15, 0, none⟩) 1 1].toArray), pt bp (pcell text a1 x1) 76, pt b2 [Value.int .u8 0, .string (str []), .slice none 0 0] 25]) (fun w hS => ?_) (fun F => ?_)
        · obtain ⟨F, h⟩ := St.node1 4 (St.pick (St.pick hS (c := own y.1 (nots i t) (tv (nots i t) y.2.1 y.2.2)) (by repeat (first | exact Rem.here | apply Rem.there))) (c := pt b15 [.int .u8 (nots i t).op, .string (str (nots i t).name), .slice y.2.1 (nots i t).kids.length y.2.2] 25) (by repeat (first | exact Rem.here | apply Rem.there)))
          exact ⟨F, (St.pick h (c := pt b4 [.int .u8 4, .string (str []), .slice (some ⟨b15, 0, none⟩) 1 1] 25) (by repeat (first | exact Rem.here | apply Rem.there)))⟩
        refine WL.nil ?_
        refine WQ.block_normal ?_
        refine WQ.then_normal ?_
        refine WC.region ?_
        refine WL.step ?_
        refine WL.add rfl rfl rfl ⟨by omega, by omega⟩ ?_
        refine WL.step ?_
        refine WL.move rfl rfl ?_
        refine WL.nil ?_
        refine WQ.back ((i + 1, (F, some ⟨b15, 0, none⟩, 1))) ?_ ?_ ?_ ?_
        · exact (by show i + 1 ≤ k; omega)
        · (show k - (i + 1) < k - i; omega)
        · exact ⟨rfl, rfl, rfl, rfl, trivial⟩
        · rfl
      · skip
        have hik : i = k := by simp at h13; omega
        subst hik
        refine WC.exit ?_
        refine WQ.then_exit ?_
        refine WQ.then_exit ?_
        refine WQ.block_exit ?_
        refine WQ.then_normal ?_
        refine WC.seq ?_
        refine WC.region ?_
        refine WL.step ?_
        refine WL.loadW F.agg25 rfl rfl (by repeat (first | exact List.Mem.head _ | apply List.Mem.tail)) rfl ?_
        refine WL.step ?_
        refine WL.storeN F.agg25 rfl rfl rfl (by simp [Value.oneCell']) (by repeat (first | exact Upd.here | apply Upd.there)) (by repeat constructor) ?_
        refine WL.nil ?_
        refine WQ.then_normal ?_
        refine WC.ret ?_
        subst hrw
        refine WQ.ret (rs := [.cell 2 25]) rfl (.cellN F.agg25 rfl (by repeat (first | exact List.Mem.head _ | apply List.Mem.tail)) rfl .nil) (fun w hS => ?_)
        exact ⟨y, rfl, (St.pick (St.pick hS (c := pt bp (pcell text a1 x1) 76) (by repeat (first | exact Rem.here | apply Rem.there))) (c := own y.1 (nots i t) (tv (nots i t) y.2.1 y.2.2)) (by repeat (first | exact Rem.here | apply Rem.there))).two2⟩
    · skip
      have hN := fun w hp => hleast m (by omega) _ _ _ w hle2 hrk2 hp
      refine WC.region ?_
      refine WL.step ?_
      refine WL.move rfl rfl ?_
      refine WL.step ?_
      refine WL.call1P (bs := pcell text ak xk) F.fun115 (fun d h => by cases h; rfl) rfl (by repeat (first | exact Rem.here | apply Rem.there)) (fun w hS => hN w (hS.heap (by repeat (first | exact List.Mem.head _ | apply List.Mem.tail)))) (fun cs => ?_)
      refine WQ.then_panic ?_
      subst hrw
      refine WQ.panicked (fun w hS => ?_)
      exact ⟨rfl, _, (St.pick hS (c := pt bp cs 76) (by repeat (first | exact Rem.here | apply Rem.there))).one1⟩
  · skip
    have hT := fun w hp => takes_c bp text xk [33] ak hle2 hmax w hp
    rw [ht] at hT
    have g2 := Fm.takes_le hle2 ht
    refine WC.region ?_
    refine WL.step ?_
    refine WL.move rfl rfl ?_
    refine WL.step ?_
    refine WL.call1S (bs := pcell text ak xk) (bs' := pcell text a2 x2) F.fun86 rfl rfl (by repeat (first | exact Rem.here | apply Rem.there)) (fun w hS => hT w (hS.heap (by repeat (first | exact List.Mem.head _ | apply List.Mem.tail)))) ?_
    refine WL.nil ?_
    refine WQ.then_normal ?_
    refine WC.condT rfl ?_
    refine WC.skip ?_
    refine WQ.then_normal ?_
    refine WC.block ?_
    refine WC.region ?_
    refine WL.step ?_
    refine WL.move rfl rfl ?_
    refine WL.step ?_
    refine WL.add rfl rfl rfl ⟨by omega, by omega⟩ ?_
    refine WL.step ?_
    refine WL.assign rfl rfl ?_
    refine WL.nil ?_
    refine WQ.block_normal ?_
    refine WQ.back ((k + 1, m, a2, x2)) ?_ ?_ ?_ ?_
    · exact ⟨by have := takes_word ht; rw [this] at g2; simp at g2; show k + 1 ≤ a2; omega, by show m ≤ n + 1; omega, g2.2, wrapR_step hrk2 hrw⟩
    · exact Nat.lt_succ_self m
    · exact ⟨rfl, rfl, rfl, trivial⟩
    · rfl
  · skip
    have hT := fun w hp => takes_c bp text xk [33] ak hle2 hmax w hp
    rw [ht] at hT
    refine WC.region ?_
    refine WL.step ?_
    refine WL.move rfl rfl ?_
    refine WL.step ?_
    refine WL.call1P (bs := pcell text ak xk) F.fun86 (fun d h => by cases h; rfl) rfl (by repeat (first | exact Rem.here | apply Rem.there)) (fun w hS => hT w (hS.heap (by repeat (first | exact List.Mem.head _ | apply List.Mem.tail)))) (fun cs => ?_)
    refine WQ.then_panic ?_
    refine WQ.then_panic ?_
    refine WQ.then_panic ?_
    refine WQ.block_panic ?_
    refine WQ.then_panic ?_
    subst hrw
    refine WQ.panicked (fun w hS => ?_)
    exact ⟨rfl, _, (St.pick hS (c := pt bp cs 76) (by repeat (first | exact Rem.here | apply Rem.there))).one1⟩

theorem _root_.Go.Eng.St.lone {w0 w : World} {O : List Nat} {C : List Chunk} {ad : Option Addr} {n cap : Nat} {e : TypeId} {F : List Nat} {t : Tree} {vs : List Value} (hn : n = 1) (h : St w0 O (rowc (.slice ad n cap) n e 3 (flat vs) :: ownL F [t] vs :: C) w) :
    ∃ g a c, ad = some ⟨g, 0, none⟩ ∧ vs = [tv t a c] := by
  have hr : w.ownsRow 0 e 3 (.slice ad n cap) n (flat vs) := h.ok _ (List.mem_cons_self ..)
  have hl : F.Nodup ∧ rdL w [t] F vs := h.ok _ (List.mem_cons_of_mem _ (List.mem_cons_self ..))
  have hl2 := hl.2
  simp only [rdL] at hl2
  obtain ⟨F1, F2, v, vs', hF, hvs, h1, h2, h3⟩ := hl2
  obtain ⟨a, m, c, hv, hm⟩ := rdT_val h1
  subst hm; subst hv; subst h3
  rcases hr.2 with ⟨_, h0⟩ | ⟨g, cp, cur, hg, _⟩
  · omega
  · injection hg with ha _ _
    exact ⟨g, a, c, ha, hvs⟩
theorem _root_.Go.Eng.St.ownOne {w0 w : World} {O : List Nat} {C : List Chunk} {F : List Nat} {t : Tree} {v : Value} (h : St w0 O (ownL F [t] [v] :: C) w) : St w0 O (own F t v :: C) w :=
  h.swap (fun ⟨h1, h2⟩ => ⟨h1, by
    simp only [rdL] at h2
    obtain ⟨F1, F2, v', vs', hF, hvs, h3, h4, h5⟩ := h2
    injection hvs with e1 e2
    subst e1; subst h4
    rw [hF, List.append_nil]; exact h3⟩) (fun k hk => hk)
structure RG where
  m : Nat
  acc : List Tree
  F : List Nat
  vs : List Value
  len : Nat
  cells : List Value
  ad : Option Addr
  cap : Nat
  ak : Nat
  xk : List UInt8
theorem mkRow_ne {i : Nat} {acc : List Tree} (h : acc.length ≠ 1) : Fm.mkRow i acc = .mk (Fm.rowOp i) [] acc := by
  rcases acc with _ | ⟨a, _ | ⟨b, r⟩⟩
  · rfl
  · simp at h
  · rfl

theorem next_le3 {ak xl tl : Nat} (h : ak + xl ≤ tl) : ak ≤ tl := by omega
theorem row_c (bp : Nat) (text : List UInt8) (hmax2 : text.length ≤ 1099511627776) (n i : Nat) (hi : i ≤ 3) (hnot : PC bp text 114 [pp bp] .not n) (hrow : i < 3 → ∀ m, m ≤ n → PC bp text 112 [pp bp, .int .i64 ((i : Int) + 1)] (.row (i + 1)) m) :
    PC bp text 112 [pp bp, .int .i64 (i : Int)] (.row i) (n + 1) := by
  intro a x r w hle hr hp
  have hmax : text.length ≤ 140737488355328 := by omega
  refine enter Try.func112 rfl Try.ntmps112 rfl (St.init1 hp) ?_
  refine WC.seq ?_
  refine WC.region ?_
  refine WL.step ?_
  refine WL.alloc F.zero25 rfl (fun b4 => ?_)
  refine WL.nil ?_
  refine WQ.then_normal ?_
  refine WC.seq ?_
  refine WC.region ?_
  refine WL.step ?_
  refine WL.build F.stT145 rfl (by repeat (first | exact Built.nil | apply Built.one rfl rfl (by repeat constructor) | apply Built.agg rfl rfl (by repeat constructor))) rfl ?_
  refine WL.step ?_
  refine WL.build F.stT145 rfl (by repeat (first | exact Built.nil | apply Built.one rfl rfl (by repeat constructor) | apply Built.agg rfl rfl (by repeat constructor))) rfl ?_
  refine WL.step ?_
  refine WL.build F.stT145 rfl (by repeat (first | exact Built.nil | apply Built.one rfl rfl (by repeat constructor) | apply Built.agg rfl rfl (by repeat constructor))) rfl ?_
  refine WL.step ?_
  refine WL.buildA F.arT146 rfl (by repeat (first | exact Built.nil | apply Built.one rfl rfl (by repeat constructor) | apply Built.agg rfl rfl (by repeat constructor))) rfl ?_
  refine WL.step ?_
  refine WL.alloc F.zero146 rfl (fun b5 => ?_)
  refine WL.step ?_
  refine WL.storeN F.agg146 rfl rfl rfl (by simp [Value.oneCell']) (by repeat (first | exact Upd.here | apply Upd.there)) (by repeat constructor) ?_
  refine WL.nil ?_
  refine WQ.then_normal ?_
  refine WC.seq ?_
  refine WC.seq ?_
  refine WC.region ?_
  refine WL.step ?_
  refine WL.move rfl rfl ?_
  refine WL.step ?_
  refine WL.eqI rfl rfl rfl ?_
  refine WL.nil ?_
  refine WQ.then_normal ?_
  refine WC.cond rfl (fun h12 => ?_) (fun h12 => ?_)
  · skip
    have hi3 : i = 3 := by simp at h12; omega
    subst hi3
    simp only [Fm.parse, Nat.le_refl, if_true] at hr
    refine WC.seq ?_
    rcases r with ⟨t1, a1, x1⟩ | a1
    · skip
      have hN := fun w hp => hnot _ _ _ w hle hr hp
      refine WC.region ?_
      refine WL.step ?_
      refine WL.move rfl rfl ?_
      refine WL.step ?_
      refine WL.call1A (res := fun y : List Nat × Option Addr × Nat => tv t1 y.2.1 y.2.2) (c1 := fun y : List Nat × Option Addr × Nat => own y.1 t1 (tv t1 y.2.1 y.2.2)) (c2 := fun _ => pt bp (pcell text a1 x1) 76) (bs := pcell text a x) F.fun114 rfl rfl (by repeat (first | exact Rem.here | apply Rem.there)) (fun w hS => hN w (hS.heap (by repeat (first | exact List.Mem.head _ | apply List.Mem.tail)))) (fun y14 => ?_)
      refine WL.step ?_
      refine WL.storeN F.agg25 rfl rfl rfl (by simp [Value.oneCell']) (by repeat (first | exact Upd.here | apply Upd.there)) (by repeat constructor) ?_
      refine WL.nil ?_
      refine WQ.then_normal ?_
      refine WC.ret ?_
      refine WQ.then_ret ?_
      refine WQ.ret (rs := [.cell 4 25]) rfl (.cellN F.agg25 rfl (by repeat (first | exact List.Mem.head _ | apply List.Mem.tail)) rfl .nil) (fun w hS => ?_)
      exact ⟨y14, rfl, (St.pick (St.pick hS (c := pt bp (pcell text a1 x1) 76) (by repeat (first | exact Rem.here | apply Rem.there))) (c := own y14.1 t1 (tv t1 y14.2.1 y14.2.2)) (by repeat (first | exact Rem.here | apply Rem.there))).two2⟩
    · skip
      have hN := fun w hp => hnot _ _ _ w hle hr hp
      refine WC.region ?_
      refine WL.step ?_
      refine WL.move rfl rfl ?_
      refine WL.step ?_
      refine WL.call1P (bs := pcell text a x) F.fun114 (fun d h => by cases h; rfl) rfl (by repeat (first | exact Rem.here | apply Rem.there)) (fun w hS => hN w (hS.heap (by repeat (first | exact List.Mem.head _ | apply List.Mem.tail)))) (fun cs => ?_)
      refine WQ.then_panic ?_
      refine WQ.then_panic ?_
      refine WQ.panicked (fun w hS => ?_)
      exact ⟨rfl, _, (St.pick hS (c := pt bp cs 76) (by repeat (first | exact Rem.here | apply Rem.there))).one1⟩
  · skip
    have hi3 : i < 3 := by simp at h12; omega
    simp only [Fm.parse, show ¬ 3 ≤ i by omega, if_false] at hr
    refine WC.skip ?_
    refine WQ.then_normal ?_
    refine WC.seq ?_
    rcases Fm.bindP_ok hr with ⟨a1, h1, rfl⟩ | ⟨t1, a1, x1, h1, hr1⟩
    · skip
      have hN := fun w hp => hrow hi3 n (Nat.le_refl _) _ _ _ w hle h1 hp
      refine WC.region ?_
      refine WL.step ?_
      refine WL.move rfl rfl ?_
      refine WL.step ?_
      refine WL.move rfl rfl ?_
      refine WL.step ?_
      refine WL.add rfl rfl rfl ⟨by omega, by omega⟩ ?_
      refine WL.step ?_
      refine WL.call1P (bs := pcell text a x) F.fun112 (fun d h => by cases h; rfl) rfl (by repeat (first | exact Rem.here | apply Rem.there)) (fun w hS => hN w (hS.heap (by repeat (first | exact List.Mem.head _ | apply List.Mem.tail)))) (fun cs => ?_)
      refine WQ.then_panic ?_
      refine WQ.panicked (fun w hS => ?_)
      exact ⟨rfl, _, (St.pick hS (c := pt bp cs 76) (by repeat (first | exact Rem.here | apply Rem.there))).one1⟩
    · skip
      have hN := fun w hp => hrow hi3 n (Nat.le_refl _) _ _ _ w hle h1 hp
      have g1 := Fm.parse_le _ _ _ _ _ _ _ hle h1
      refine WC.region ?_
      refine WL.step ?_
      refine WL.move rfl rfl ?_
      refine WL.step ?_
      refine WL.move rfl rfl ?_
      refine WL.step ?_
      refine WL.add rfl rfl rfl ⟨by omega, by omega⟩ ?_
      refine WL.step ?_
      refine WL.call1A (res := fun y : List Nat × Option Addr × Nat => tv t1 y.2.1 y.2.2) (c1 := fun y : List Nat × Option Addr × Nat => own y.1 t1 (tv t1 y.2.1 y.2.2)) (c2 := fun _ => pt bp (pcell text a1 x1) 76) (bs := pcell text a x) F.fun112 rfl rfl (by repeat (first | exact Rem.here | apply Rem.there)) (fun w hS => hN w (hS.heap (by repeat (first | exact List.Mem.head _ | apply List.Mem.tail)))) (fun y18 => ?_)
      refine WL.step ?_
      refine WL.buildSlice F.sl23 F.ez23 rfl rfl rfl rfl (by repeat (first | exact Built.nil | apply Built.one rfl rfl (by repeat constructor) | apply Built.agg rfl rfl (by repeat constructor))) rfl (fun b19 => ?_)
      refine WL.step ?_
      refine WL.assign rfl rfl ?_
      refine WL.nil ?_
      refine WQ.then_normal ?_
      refine WC.seq ?_
      refine WC.block ?_
      refine WC.chunks (C' := [pt bp (pcell text a1 x1) 76, rowc (.slice (some ⟨b19, 0, none⟩) 1 1) 1 25 3 (flat [tv t1 y18.2.1 y18.2.2]), ownL ([] ++ y18.1) ([] ++ [t1]) ([] ++ [tv t1 y18.2.1 y18.2.2]), pt b5 [Value.string (str [124]), .int .u8 6, .string (str [94]), .int .u8 7, .string (str [38]), .int .u8 5] 146, pt b4 [Value.int .u8 0, .string (str []), .slice none 0 0] 25]) (fun w hS => ?_) ?_
      · have h1 := St.rowOf (n := 1) (sz := 3) (St.pick hS (c := pt b19 [Value.int .u8 t1.op, .string (str t1.name), .slice y18.2.1 t1.kids.length y18.2.2] 25) (by repeat (first | exact Rem.here | apply Rem.there))) rfl (by decide)
        have h2 := St.ownSnoc (St.ownNil (St.pick h1 (c := own y18.1 t1 (tv t1 y18.2.1 y18.2.2)) (by repeat (first | exact Rem.here | apply Rem.there))))
        exact (St.pick (St.pick h2 (c := rowc (.slice (some ⟨b19, 0, none⟩) 1 1) 1 25 3 (flat [tv t1 y18.2.1 y18.2.2])) (by repeat (first | exact Rem.here | apply Rem.there))) (c := pt bp (pcell text a1 x1) 76) (by repeat (first | exact Rem.here | apply Rem.there)))
      refine WC.loop (α := RG) (fun g => g.m ≤ n ∧ g.acc.length ≤ g.ak + 1 ∧ g.len = g.acc.length ∧ g.cells = flat g.vs ∧ g.ak + g.xk.length ≤ text.length ∧ Fm.parse text g.m (.rest i g.acc) g.ak g.xk = some r) (fun g => [(0, pp bp), (1, .int .i64 (i : Int)), (4, pp b4), (5, pp b5), (6, .slice g.ad g.len g.cap)]) (fun g => [pt bp (pcell text g.ak g.xk) 76, rowc (.slice g.ad g.len g.cap) g.len 25 3 g.cells, ownL g.F g.acc g.vs, pt b5 [Value.string (str [124]), .int .u8 6, .string (str [94]), .int .u8 7, .string (str [38]), .int .u8 5] 146, pt b4 [Value.int .u8 0, .string (str []), .slice none 0 0] 25]) (fun g => g.m) (⟨n, [t1], y18.1, [tv t1 y18.2.1 y18.2.2], 1, flat [tv t1 y18.2.1 y18.2.2], some ⟨b19, 0, none⟩, 1, a1, x1⟩) ?_ ?_ ?_ ?_
      · exact ⟨Nat.le_refl _, by simp, rfl, rfl, g1.2, hr1⟩
      · exact ⟨rfl, rfl, rfl, rfl, rfl, trivial⟩
      · rfl
      rintro ⟨m, acc, Fb, vs, len, cells, ad, cap, ak, xk⟩ ⟨hm, hac, hlen, hcs, hle2, hrk⟩
      dsimp only at hm hac hlen hcs hle2 hrk
      show WC _ _ _ _ _ _ _ [(0, pp bp), (1, .int .i64 (i : Int)), (4, pp b4), (5, pp b5), (6, .slice ad len cap)] [pt bp (pcell text ak xk) 76, rowc (.slice ad len cap) len 25 3 cells, ownL Fb acc vs, pt b5 [Value.string (str [124]), .int .u8 6, .string (str [94]), .int .u8 7, .string (str [38]), .int .u8 5] 146, pt b4 [Value.int .u8 0, .string (str []), .slice none 0 0] 25]
      obtain ⟨m, rfl⟩ : ∃ m2, m = m2 + 1 := by cases m with | zero => simp [Fm.parse] at hrk | succ m => exact ⟨m, rfl⟩
      simp only [Fm.parse] at hrk
      have hsg : [Value.string (str [124]), .int .u8 6, .string (str [94]), .int .u8 7, .string (str [38]), .int .u8 5][0 + i * 2 + 0]? = some (.string (str (Fm.rowSign i))) := by rcases (by omega : i = 0 ∨ i = 1 ∨ i = 2) with rfl | rfl | rfl <;> rfl
      have hop : [Value.string (str [124]), .int .u8 6, .string (str [94]), .int .u8 7, .string (str [38]), .int .u8 5][0 + i * 2 + 1]? = some (.int .u8 (Fm.rowOp i)) := by rcases (by omega : i = 0 ∨ i = 1 ∨ i = 2) with rfl | rfl | rfl <;> rfl
      refine WC.seq ?_
      refine WC.seq ?_
      rcases Fm.bindT_ok hrk with ⟨ht, hrk2⟩ | ⟨a2, x2, ht, hrk2⟩ | ⟨a2, ht, rfl⟩
      · skip
        have hT := fun w hp => takes_c bp text xk (Fm.rowSign i) ak hle2 hmax w hp
        rw [ht] at hT
        refine WC.region ?_
        refine WL.step ?_
        refine WL.move rfl rfl ?_
        refine WL.step ?_
        refine WL.move rfl rfl ?_
        refine WL.step ?_
        refine WL.indexAddrA F.arT146 rfl rfl rfl hi3 ?_
        refine WL.step ?_
        refine WL.fieldAddr F.fld145_0 rfl rfl ?_
        refine WL.step ?_
        refine WL.loadP F.one9 rfl rfl (by repeat (first | exact List.Mem.head _ | apply List.Mem.tail)) hsg ?_
        refine WL.step ?_
        refine WL.call1S (bs := pcell text ak xk) (bs' := pcell text ak xk) F.fun86 rfl rfl (by repeat (first | exact Rem.here | apply Rem.there)) (fun w hS => hT w (hS.heap (by repeat (first | exact List.Mem.head _ | apply List.Mem.tail)))) ?_
        refine WL.nil ?_
        refine WQ.then_normal ?_
        refine WC.condF rfl ?_
        refine WC.exit ?_
        refine WQ.then_exit ?_
        refine WQ.then_exit ?_
        refine WQ.block_exit ?_
        refine WQ.then_normal ?_
        refine WC.seq ?_
        refine WC.seq ?_
        refine WC.region ?_
        refine WL.step ?_
        refine WL.move rfl rfl ?_
        refine WL.step ?_
        refine WL.lenSl F.und23 rfl rfl ?_
        refine WL.step ?_
        refine WL.eqI rfl rfl rfl ?_
        refine WL.nil ?_
        refine WQ.then_normal ?_
        refine WC.cond rfl (fun h35 => ?_) (fun h35 => ?_)
        · skip
          have hl1 : len = 1 := by simp at h35; omega
          subst hcs
          obtain ⟨t1, rfl⟩ : ∃ t, acc = [t] := List.length_eq_one_iff.1 (by omega)
          injection hrk2 with hrk2
          subst hrk2
          refine WC.know (φ := ∃ g a c, ad = some ⟨g, 0, none⟩ ∧ vs = [tv t1 a c]) (fun w hS => St.lone hl1 (St.pick (St.pick hS (c := ownL Fb [t1] vs) (by repeat (first | exact Rem.here | apply Rem.there))) (c := rowc (.slice ad len cap) len 25 3 (flat vs)) (by repeat (first | exact Rem.here | apply Rem.there)))) (fun ⟨g, u, c, had, hvs⟩ => ?_)
          subst had; subst hvs
          refine WC.seq ?_
          refine WC.region ?_
          refine WL.step ?_
          refine WL.move rfl rfl ?_
          refine WL.step ?_
          refine WL.indexAddr (i := 0) F.sl23 rfl rfl rfl (by omega) ?_
          refine WL.step ?_
          refine WL.loadN F.agg25 rfl rfl (vs := [Value.int .u8 t1.op, .string (str t1.name), .slice u t1.kids.length c]) rfl (fun w hS j v hv => ?_) ?_
          · have hro : w.ownsRow 0 25 3 (.slice (some ⟨g, 0, none⟩) len cap) len (flat [tv t1 u c]) := hS.ok (rowc (.slice (some ⟨g, 0, none⟩) len cap) len 25 3 (flat [tv t1 u c])) (by repeat (first | exact List.Mem.head _ | apply List.Mem.tail))
            have hq := hro.cells (g := g) rfl j v (by simpa [flat, tv, Value.cells] using hv)
            rw [add_blk] at hq
            simpa using hq
          refine WL.step ?_
          refine WL.storeN F.agg25 rfl rfl rfl (by simp [Value.oneCell']) (by repeat (first | exact Upd.here | apply Upd.there)) (by repeat constructor) ?_
          refine WL.nil ?_
          refine WQ.then_normal ?_
          refine WC.ret ?_
          refine WQ.then_ret ?_
          refine WQ.ret (rs := [.cell 4 25]) rfl (.cellN F.agg25 rfl (by repeat (first | exact List.Mem.head _ | apply List.Mem.tail)) rfl .nil) (fun w hS => ?_)
          have h2 := St.ownOne (St.pick (St.pick hS (c := pt bp (pcell text ak xk) 76) (by repeat (first | exact Rem.here | apply Rem.there))) (c := ownL Fb [t1] [tv t1 u c]) (by repeat (first | exact Rem.here | apply Rem.there)))
          exact ⟨(Fb, u, c), rfl, h2.two2⟩
        · skip
          have hl1 : acc.length ≠ 1 := by simp at h35; omega
          subst hcs
          rw [mkRow_ne hl1] at hrk2
          injection hrk2 with hrk2
          subst hrk2
          refine WC.skip ?_
          refine WQ.then_normal ?_
          refine WC.seq ?_
          refine WC.region ?_
          refine WL.step ?_
          refine WL.move rfl rfl ?_
          refine WL.step ?_
          refine WL.indexAddrA F.arT146 rfl rfl rfl hi3 ?_
          refine WL.step ?_
          refine WL.fieldAddr F.fld145_1 rfl rfl ?_
          refine WL.step ?_
          refine WL.loadP F.one5 rfl rfl (by repeat (first | exact List.Mem.head _ | apply List.Mem.tail)) hop ?_
          refine WL.step ?_
          refine WL.move rfl rfl ?_
          refine WL.step ?_
          refine WL.callV F.fun88 rfl rfl (fun w _ => node_c _ _ _ _ w) ?_
          refine WL.step ?_
          refine WL.storeN F.agg25 rfl rfl rfl (by simp [Value.oneCell']) (by repeat (first | exact Upd.here | apply Upd.there)) (by repeat constructor) ?_
          refine WL.nil ?_
          refine WQ.then_normal ?_
          refine WC.ret ?_
          refine WQ.ret (rs := [.cell 4 25]) rfl (.cellN F.agg25 rfl (by repeat (first | exact List.Mem.head _ | apply List.Mem.tail)) rfl .nil) (fun w hS => ?_)
          obtain ⟨F2, h2⟩ := St.ownNode (Fm.rowOp i) [] hlen (St.pick (St.pick (St.pick hS (c := pt bp (pcell text ak xk) 76) (by repeat (first | exact Rem.here | apply Rem.there))) (c := ownL Fb acc vs) (by repeat (first | exact Rem.here | apply Rem.there))) (c := rowc (.slice ad len cap) len 25 3 (flat vs)) (by repeat (first | exact Rem.here | apply Rem.there)))
          subst hlen
          exact ⟨(F2, ad, cap), rfl, h2.two2⟩
      · skip
        have hT := fun w hp => takes_c bp text xk (Fm.rowSign i) ak hle2 hmax w hp
        rw [ht] at hT
        have g2 := Fm.takes_le hle2 ht
        refine WC.region ?_
        refine WL.step ?_
        refine WL.move rfl rfl ?_
        refine WL.step ?_
        refine WL.move rfl rfl ?_
        refine WL.step ?_
        refine WL.indexAddrA F.arT146 rfl rfl rfl hi3 ?_
        refine WL.step ?_
        refine WL.fieldAddr F.fld145_0 rfl rfl ?_
        refine WL.step ?_
        refine WL.loadP F.one9 rfl rfl (by repeat (first | exact List.Mem.head _ | apply List.Mem.tail)) hsg ?_
        refine WL.step ?_
        refine WL.call1S (bs := pcell text ak xk) (bs' := pcell text a2 x2) F.fun86 rfl rfl (by repeat (first | exact Rem.here | apply Rem.there)) (fun w hS => hT w (hS.heap (by repeat (first | exact List.Mem.head _ | apply List.Mem.tail)))) ?_
        refine WL.nil ?_
        refine WQ.then_normal ?_
        refine WC.condT rfl ?_
        refine WC.skip ?_
        refine WQ.then_normal ?_
        refine WC.block ?_
        rcases Fm.bindP_ok hrk2 with ⟨a3, h3, rfl⟩ | ⟨t2, a3, x3, h3, hr3⟩
        · skip
          have hM := fun w hp => hrow hi3 m (by omega) _ _ _ w g2.2 h3 hp
          refine WC.region ?_
          refine WL.step ?_
          refine WL.move rfl rfl ?_
          refine WL.step ?_
          refine WL.move rfl rfl ?_
          refine WL.step ?_
          refine WL.move rfl rfl ?_
          refine WL.step ?_
          refine WL.add rfl rfl rfl ⟨by omega, by omega⟩ ?_
          refine WL.step ?_
          refine WL.call1P (bs := pcell text a2 x2) F.fun112 (fun d h => by cases h; rfl) rfl (by repeat (first | exact Rem.here | apply Rem.there)) (fun w hS => hM w (hS.heap (by repeat (first | exact List.Mem.head _ | apply List.Mem.tail)))) (fun cs => ?_)
          refine WQ.block_panic ?_
          refine WQ.then_panic ?_
          refine WQ.block_panic ?_
          refine WQ.then_panic ?_
          refine WQ.panicked (fun w hS => ?_)
          exact ⟨rfl, _, (St.pick hS (c := pt bp cs 76) (by repeat (first | exact Rem.here | apply Rem.there))).one1⟩
        · skip
          have hM := fun w hp => hrow hi3 m (by omega) _ _ _ w g2.2 h3 hp
          have g3 := Fm.parse_le _ _ _ _ _ _ _ g2.2 h3
          refine WC.region ?_
          refine WL.step ?_
          refine WL.move rfl rfl ?_
          refine WL.step ?_
          refine WL.move rfl rfl ?_
          refine WL.step ?_
          refine WL.move rfl rfl ?_
          refine WL.step ?_
          refine WL.add rfl rfl rfl ⟨by omega, by omega⟩ ?_
          refine WL.step ?_
          refine WL.call1A (res := fun y : List Nat × Option Addr × Nat => tv t2 y.2.1 y.2.2) (c1 := fun y : List Nat × Option Addr × Nat => own y.1 t2 (tv t2 y.2.1 y.2.2)) (c2 := fun _ => pt bp (pcell text a3 x3) 76) (bs := pcell text a2 x2) F.fun112 rfl rfl (by repeat (first | exact Rem.here | apply Rem.there)) (fun w hS => hM w (hS.heap (by repeat (first | exact List.Mem.head _ | apply List.Mem.tail)))) (fun y30 => ?_)
          refine WL.step ?_
          refine WL.buildSlice F.sl23 F.ez23 rfl rfl rfl rfl (by repeat (first | exact Built.nil | apply Built.one rfl rfl (by repeat constructor) | apply Built.agg rfl rfl (by repeat constructor))) rfl (fun b31 => ?_)
          refine WL.step ?_
          refine WL.appendE (news := [Value.int .u8 t2.op, .string (str t2.name), .slice y30.2.1 t2.kids.length y30.2.2]) F.el23 rfl rfl rfl (by repeat (first | exact Rem.here | apply Rem.there)) (fun w hS j u hu => by rw [Nat.zero_add]; exact hS.cell (cs := [Value.int .u8 t2.op, .string (str t2.name), .slice y30.2.1 t2.kids.length y30.2.2]) (by repeat (first | exact List.Mem.head _ | apply List.Mem.tail)) hu) rfl (by simp [Value.oneCell']) (Nat.le_trans (m := 1099511627800) (by have := next_le3 hle2; omega) (by decide)) (by have := next_le3 hle2; omega) (fun ad2 cap2 => ?_)
          refine WL.step ?_
          refine WL.assign rfl rfl ?_
          refine WL.nil ?_
          refine WQ.block_normal ?_
          refine WQ.chunks (C' := [pt bp (pcell text a3 x3) 76, rowc (.slice ad2 (len + 1) cap2) (len + 1) 25 3 (cells ++ [Value.int .u8 t2.op, .string (str t2.name), .slice y30.2.1 t2.kids.length y30.2.2]), ownL (Fb ++ y30.1) (acc ++ [t2]) (vs ++ [tv t2 y30.2.1 y30.2.2]), pt b5 [Value.string (str [124]), .int .u8 6, .string (str [94]), .int .u8 7, .string (str [38]), .int .u8 5] 146, pt b4 [Value.int .u8 0, .string (str []), .slice none 0 0] 25]) (fun w hS => ?_) ?_
          · have h2 := St.ownSnoc (St.pick (St.pick hS (c := own y30.1 t2 (tv t2 y30.2.1 y30.2.2)) (by repeat (first | exact Rem.here | apply Rem.there))) (c := ownL Fb acc vs) (by repeat (first | exact Rem.here | apply Rem.there)))
            exact ((St.pick (St.pick (St.pick h2 (c := ownL (Fb ++ y30.1) (acc ++ [t2]) (vs ++ [tv t2 y30.2.1 y30.2.2])) (by repeat (first | exact Rem.here | apply Rem.there))) (c := rowc (.slice ad2 (len + 1) cap2) (len + 1) 25 3 (cells ++ [Value.int .u8 t2.op, .string (str t2.name), .slice y30.2.1 t2.kids.length y30.2.2])) (by repeat (first | exact Rem.here | apply Rem.there))) (c := pt bp (pcell text a3 x3) 76) (by repeat (first | exact Rem.here | apply Rem.there)))).sublist (by repeat (first | exact List.Sublist.refl _ | apply List.Sublist.cons_cons | apply List.Sublist.cons))
          refine WQ.back (⟨m, acc ++ [t2], Fb ++ y30.1, vs ++ [tv t2 y30.2.1 y30.2.2], len + 1, cells ++ [Value.int .u8 t2.op, .string (str t2.name), .slice y30.2.1 t2.kids.length y30.2.2], ad2, cap2, a3, x3⟩) ?_ ?_ ?_ ?_
          · exact ⟨by show m ≤ n; omega, by have hw := takes_word ht; have hsl : (Fm.rowSign i).length = 1 := (by unfold Fm.rowSign; split; rfl; split <;> rfl); rw [hw, hsl] at g2; show (acc ++ [t2]).length ≤ a3 + 1; simp; omega, by show len + 1 = (acc ++ [t2]).length; simp [hlen], by show cells ++ _ = flat (vs ++ [_]); rw [hcs, flat_append]; simp [flat, tv, Value.cells], g3.2, hr3⟩
          · exact Nat.lt_succ_self m
          · exact ⟨rfl, rfl, rfl, rfl, rfl, trivial⟩
          · rfl
      · skip
        have hT := fun w hp => takes_c bp text xk (Fm.rowSign i) ak hle2 hmax w hp
        rw [ht] at hT
        refine WC.region ?_
        refine WL.step ?_
        refine WL.move rfl rfl ?_
        refine WL.step ?_
        refine WL.move rfl rfl ?_
        refine WL.step ?_
        refine WL.indexAddrA F.arT146 rfl rfl rfl hi3 ?_
        refine WL.step ?_
        refine WL.fieldAddr F.fld145_0 rfl rfl ?_
        refine WL.step ?_
        refine WL.loadP F.one9 rfl rfl (by repeat (first | exact List.Mem.head _ | apply List.Mem.tail)) hsg ?_
        refine WL.step ?_
        refine WL.call1P (bs := pcell text ak xk) F.fun86 (fun d h => by cases h; rfl) rfl (by repeat (first | exact Rem.here | apply Rem.there)) (fun w hS => hT w (hS.heap (by repeat (first | exact List.Mem.head _ | apply List.Mem.tail)))) (fun cs => ?_)
        refine WQ.then_panic ?_
        refine WQ.then_panic ?_
        refine WQ.then_panic ?_
        refine WQ.block_panic ?_
        refine WQ.then_panic ?_
        refine WQ.panicked (fun w hS => ?_)
        exact ⟨rfl, _, (St.pick hS (c := pt bp cs 76) (by repeat (first | exact Rem.here | apply Rem.there))).one1⟩

end Go.Proofs.Ytbippghgkbapnaa
