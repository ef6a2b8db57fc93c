import Derived.Test.YtbippghgkbapnaaM11
import Derived.Test.YtbippghgkbapnaaSpec
import Derived.Test.YtbippghgkbapnaaFacts
set_option linter.unusedSimpArgs false
set_option linter.unusedVariables false
namespace Go.Proofs.Ytbippghgkbapnaa
open Go Go.Eng Go.Proofs
theorem putS_ne : ∀ {lv : Nat} {t : Tree} {left l : Nat}, Fm.validT lv t left = some l → Fm.putS t ≠ []
  | lv, .mk op name [], left, l, h => by
    simp only [Fm.validT] at h
    split at h
    · cases h
    · rename_i hc
      have hr : Fm.rightB (.mk op name []) = true := by
        cases hh : Fm.rightB (.mk op name []) with
        | true => rfl
        | false => exact absurd (.inr (.inr hh)) hc
      simp only [Fm.putS]
      split
      · simp
      split
      · simp
      split
      · rename_i h3
        have := Fm.rightB_name hr h3
        intro hn
        simp only [Tree.name] at this
        rw [hn] at this
        simp at this
      split
      · simp
      · exfalso
        rename_i h1 h2 h3 h4
        have hb : Fm.kidsBad op 0 = true := by
          simp only [Fm.kidsBad, Fm.kidsOf]
          rw [if_neg (by omega), if_neg (by omega)]
          split
          · rfl
          split
          · rfl
          split <;> rfl
        simp [Fm.rightB, Tree.op, Tree.kids, hb] at hr
  | lv, .mk op name (k :: ks), left, l, h => by
    simp only [Fm.validT] at h
    split at h
    · cases h
    · rename_i hc
      simp only [Fm.validL] at h
      split at h
      · cases h
      · rename_i j hj
        have hk := putS_ne hj
        have hr : Fm.rightB (.mk op name (k :: ks)) = true := by
          cases hh : Fm.rightB (.mk op name (k :: ks)) with
          | true => rfl
          | false => exact absurd (.inr (.inr hh)) hc
        simp only [Fm.putS]
        split
        · simp
        split
        · simp
        split
        · rename_i h3
          have := Fm.rightB_name hr h3
          intro hn
          simp only [Tree.name] at this
          rw [hn] at this
          simp at this
        split
        · simp
        · simp only [Fm.putK]
          intro hn
          have h1 := (List.append_eq_nil_iff.1 (List.append_eq_nil_iff.1 hn).1).2
          revert h1
          split <;> simp [hk]
def printS (t : Tree) : List UInt8 := if Fm.validB t then Fm.putS t else []

theorem Print_c (t : Tree) (G : List Nat) (a : Option Addr) (c : Nat) (w : World) (hr : rdT w t G (tv t a c)) : Pure Try.prog 19 [tv t a c] w (.tuple #[.string (str (printS t)), .int .i64 (if Fm.validB t then 0 else 2)]) := by
  refine enter Try.func19 rfl Try.ntmps19 rfl (St.init _) ?_
  refine WC.seq ?_
  refine WC.region ?_
  refine WL.step ?_
  refine WL.boxN rfl rfl (fun b1 => ?_)
  refine WL.step ?_
  refine WL.assign rfl rfl ?_
  refine WL.step ?_
  refine WL.assign rfl rfl ?_
  refine WL.nil ?_
  refine WQ.then_normal ?_
  refine WC.seq ?_
  refine WC.seq ?_
  refine WC.region ?_
  refine WL.step ?_
  refine WL.loadW F.agg25 rfl rfl (by repeat (first | exact List.Mem.head _ | apply List.Mem.tail)) rfl ?_
  refine WL.step ?_
  refine WL.callV F.fun30 rfl rfl (fun w hS => Valid_c t G a c w (hS.oldT hr (fun k hk => ⟨rdT_lt hr k hk, by simp⟩))) ?_
  refine WL.step ?_
  refine WL.not rfl rfl ?_
  refine WL.nil ?_
  refine WQ.then_normal ?_
  refine WC.cond rfl (fun h9 => ?_) (fun h9 => ?_)
  · skip
    have hv : Fm.validB t = false := by simpa using h9
    refine WC.seq ?_
    refine WC.region ?_
    refine WL.step ?_
    refine WL.assign rfl rfl ?_
    refine WL.step ?_
    refine WL.assign rfl rfl ?_
    refine WL.nil ?_
    refine WQ.then_normal ?_
    refine WC.ret ?_
    refine WQ.then_ret ?_
    refine WQ.ret (rs := [.tmp 2, .tmp 3]) rfl (.tmp rfl (.tmp rfl .nil)) (fun w hS => ⟨?_, hS.drop⟩)
    simp [printS, hv, tup, str]
  · skip
    have hv : Fm.validB t = true := by simpa using h9
    obtain ⟨lf, hlf⟩ : ∃ lf, Fm.validT 64 t 1000 = some lf := Option.isSome_iff_exists.1 hv
    have hlen := Fm.putS_len hlf
    have hne := putS_ne hlf
    have hno := Fm.notOk_valid hlf
    refine WC.skip ?_
    refine WQ.then_normal ?_
    refine WC.seq ?_
    refine WC.region ?_
    refine WL.step ?_
    refine WL.alloc F.zero91 rfl (fun b4 => ?_)
    refine WL.nil ?_
    refine WQ.then_normal ?_
    refine WC.seq ?_
    refine WC.region ?_
    refine WL.step ?_
    refine WL.alloc F.zero69 rfl (fun b5 => ?_)
    refine WL.nil ?_
    refine WQ.then_normal ?_
    refine WC.seq ?_
    refine WC.region ?_
    refine WL.step ?_
    refine WL.makeFunc rfl rfl rfl ?_
    refine WL.step ?_
    refine WL.alloc F.zero97 rfl (fun b6 => ?_)
    refine WL.step ?_
    refine WL.store1 F.one97 rfl rfl rfl (by repeat (first | exact Upd.here | apply Upd.there)) (by repeat constructor) ?_
    refine WL.nil ?_
    refine WQ.then_normal ?_
    refine WC.seq ?_
    refine WC.region ?_
    refine WL.step ?_
    refine WL.makeFunc rfl rfl rfl ?_
    refine WL.step ?_
    refine WL.store1 F.one69 rfl rfl rfl (by repeat (first | exact Upd.here | apply Upd.there)) (by repeat constructor) ?_
    refine WL.nil ?_
    refine WQ.then_normal ?_
    refine WC.seq ?_
    refine WC.region ?_
    refine WL.step ?_
    refine WL.loadP F.one69 rfl rfl (by repeat (first | exact List.Mem.head _ | apply List.Mem.tail)) rfl ?_
    refine WL.step ?_
    refine WL.loadW F.agg25 rfl rfl (by repeat (first | exact List.Mem.head _ | apply List.Mem.tail)) rfl ?_
    refine WA.chunks (fun w hS => hS.rowNil 5 1) ?_
    refine WL.step ?_
    refine WL.callFB (β := PX b4) (res := fun _ => .tuple #[]) (c1 := fun x => pt b4 [x.1.1, .slice x.1.2.1 (Fm.putS t).length x.1.2.2] 91) (c2 := fun x => rowc (.slice x.1.2.1 (Fm.putS t).length x.1.2.2) (Fm.putS t).length 5 1 (bcells (Fm.putS t))) (q := .pointer none) (v := .slice none 0 0) (l := []) (b := b4) (us := []) (cap := [pp b4, pp b6]) F.fun54 rfl rfl rfl (by repeat (first | exact Rem.here | apply Rem.there)) (by repeat (first | exact Rem.here | apply Rem.there)) (fun w hS hS2 => put_c t G a c (.pointer none) none 0 [] (Fm.putS t) b4 b5 b6 w rfl ⟨hS.oldT hr (fun k hk => ⟨rdT_lt hr k hk, by simp⟩), fun k hk hk2 => ?_, hS.heap (cs := [Value.func (.func 54) [].toArray [pp b4, pp b6].toArray]) (by repeat (first | exact List.Mem.head _ | apply List.Mem.tail)), hS.heap (cs := [Value.func (.func 51) [].toArray [pp b5, pp b4].toArray]) (by repeat (first | exact List.Mem.head _ | apply List.Mem.tail)), ?_, ?_⟩ hno (.inl rfl) (by simp only [List.length_nil]; omega) hS2) (fun x14 => ?_)
    · have hk3 : k = b4 := by simpa [ob, Value.ownBlock] using hk2
      subst hk3
      have h1 := (hS.bnd (pt k [.pointer none, .slice none 0 0] 91) (by repeat (first | exact List.Mem.head _ | apply List.Mem.tail)) k rfl).2 (rdT_lt hr k hk)
      cases h1
    · have h1 := St.ne2 (St.pick (St.pick hS (c := pt b4 [.pointer none, .slice none 0 0] 91) (by repeat (first | exact Rem.here | apply Rem.there))) (c := pt b5 [Value.func (.func 54) [].toArray [pp b4, pp b6].toArray] 69) (by repeat (first | exact Rem.here | apply Rem.there)))
      simpa [ob, Value.ownBlock] using h1
    · have h1 := St.ne2 (St.pick (St.pick hS (c := pt b4 [.pointer none, .slice none 0 0] 91) (by repeat (first | exact Rem.here | apply Rem.there))) (c := pt b6 [Value.func (.func 51) [].toArray [pp b5, pp b4].toArray] 97) (by repeat (first | exact Rem.here | apply Rem.there)))
      simpa [ob, Value.ownBlock] using h1
    refine WL.nil ?_
    refine WQ.then_normal ?_
    refine WC.seq ?_
    refine WC.region ?_
    refine WL.step ?_
    refine WL.callC (β := Unit) (res := fun _ => .string (str (Fm.putS t))) (cs := fun _ => [pt b4 [x14.1.1, .slice x14.1.2.1 (Fm.putS t).length x14.1.2.2] 91]) (Cs := [pt b4 [x14.1.1, .slice x14.1.2.1 (Fm.putS t).length x14.1.2.2] 91, rowc (.slice x14.1.2.1 (Fm.putS t).length x14.1.2.2) (Fm.putS t).length 5 1 (bcells (Fm.putS t))]) (O' := b4 :: ob (.slice x14.1.2.1 (Fm.putS t).length x14.1.2.2)) F.fun57 (fun d h => by cases h; rfl) rfl (List.Perm.refl _) bld_fp1 bld_fp2 (fun w hS hS2 => (String_c b4 _ _ _ (Fm.putS t) hne (by omega) w hS2).mono (fun e w2 h => ⟨(), h⟩)) (fun _ => ?_)
    refine WL.step ?_
    refine WL.assign rfl rfl ?_
    refine WL.step ?_
    refine WL.assign rfl rfl ?_
    refine WL.nil ?_
    refine WQ.then_normal ?_
    refine WC.ret ?_
    refine WQ.ret (rs := [.tmp 2, .tmp 3]) rfl (.tmp rfl (.tmp rfl .nil)) (fun w hS => ⟨?_, hS.sublist (List.nil_sublist _)⟩)
    simp [printS, hv, tup]

end Go.Proofs.Ytbippghgkbapnaa
