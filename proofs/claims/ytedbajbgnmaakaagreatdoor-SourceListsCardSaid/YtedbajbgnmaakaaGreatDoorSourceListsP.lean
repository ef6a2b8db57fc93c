/-
 PROVED: the tied card of 'motleylaw06.SourceLists': the law returns true for every input, and leaves its arguments as they were; the library's tables lie as the program's text lays them.
-/
import Derived.Test.YtedbajbgnmaakaaGreatDoorPaSourceLists13
import Derived.Test.YtedbajbgnmaakaaGreatDoorTie
import Derived.Test.YtedbajbgnmaakaaGreatDoorCards
import Derived.LaidMore
import Derived.OpenShut
import Derived.Stop.Joined
import Derived.Stop.LaidErr
import Derived.SevenTiedAt
import Derived.Lay
import Derived.Shelf.Vars
import Derived.LaidLaws
set_option linter.unusedVariables false
namespace Go.Proofs.YtedbajbgnmaakaaGreatDoor
open Go Go.Eng Go.Proofs Go.ChangeShapes Go.WideShapes Go.ChangeAt Go.RowKit Go.ChangeMaps

theorem star_err : "*" ++ "errors.errorString" = "*errors.errorString" := by decide
theorem rowE_ptr (u : TypeId) (h : Tryz.prog.typeName? 3 u = some "*errors.errorString") : u = 420 :=
 typeName_ptr_named (nm := "errors.errorString") (by rw [star_err]; kernel_rfl) (by kernel_rfl) (by decide) u (by rw [star_err]; exact h)
theorem door_met (os:Os) (args:Array Value):laidMetH Tryz.prog Rows.sourceListsRow.laid ((World.laidAll Tryz.prog os Rows.sourceListsRow.laid).forCall (fun _ _=>0) ⟨#[],args,[]⟩).memory:=by
 rw [MakeChecks.laidMetH_plain _ _ _ (by kernel_rfl)]
 exact laidMet_laidAll _ (by kernel_rfl) (by kernel_rfl)
theorem lib_of {W:World} (h:laidMetH Tryz.prog Rows.sourceListsRow.laid W) (hsh:W.ShapedOpen Tryz.prog):LibW W:=by
 rw [MakeChecks.laidMetH_plain _ _ _ (by kernel_rfl)] at h
 have hL:=h
 have hes:∃ ev,W.cell? ⟨4,0,none⟩=some ev∧(ev= .nilIface∨∃ te pe,ev= .iface te pe):=by
  obtain ⟨a0,s0,hv,_⟩:=laid_sentinel (g:=4) (ti:=370) (tp:=420) (te:=422) (ts:=9) hL.tail.tail.tail.tail.tail (by kernel_rfl) (by kernel_rfl) Tryz.underlying370 rowE_ptr Tryz.underlying420 Tryz.underlying422 (by kernel_rfl) (by kernel_rfl) (by kernel_rfl) (by kernel_rfl) (by kernel_rfl)
  refine ⟨_,(World.var?_cell (by kernel_rfl) hv 0).trans rfl,.inr ⟨_,_,rfl⟩⟩
 have her:∃ ev,W.cell? ⟨5,0,none⟩=some ev∧(ev= .nilIface∨∃ te pe,ev= .iface te pe):=by
  obtain ⟨a0,s0,hv,_⟩:=laid_sentinel (g:=5) (ti:=370) (tp:=420) (te:=422) (ts:=9) hL.tail.tail.tail.tail (by kernel_rfl) (by kernel_rfl) Tryz.underlying370 rowE_ptr Tryz.underlying420 Tryz.underlying422 (by kernel_rfl) (by kernel_rfl) (by kernel_rfl) (by kernel_rfl) (by kernel_rfl)
  refine ⟨_,(World.var?_cell (by kernel_rfl) hv 0).trans rfl,.inr ⟨_,_,rfl⟩⟩
 exact ⟨Lib.tabIs_of_head (g:=6) (t:=424) (e:=237) (n:=20) (by kernel_rfl) (by kernel_rfl) (by kernel_rfl) (by kernel_rfl) (by kernel_rfl) (by kernel_rfl) hL.tail.tail,
  hes,her⟩
theorem sg_of {W:World} (h:laidMetH Tryz.prog Rows.sourceListsRow.laid W):SgW W:=by
 rw [MakeChecks.laidMetH_plain _ _ _ (by kernel_rfl)] at h
 have hL:=h
 exact strs_of_head (zs:=Fm.signsL) (g:=0) (t:=352) (e:=9) (n:=22) (by kernel_rfl) (by kernel_rfl) (by kernel_rfl) (by kernel_rfl) (by kernel_rfl) (by kernel_rfl) hL.tail.tail.tail.tail.tail.tail
/-- The builder of a row that lists variables,the world's shape kept. -/
theorem rih_shaped {H:Type} {enc:TypeId×Value→H} {a:Assume} {C:Checked} {os:Os} {f:FuncId} {fn:Func} {s:ChangeSpec} {conds:List PathCond} {apart fresh handsOn again:Bool} {X:World→Prop}
  (hX:∀ w w':World,w.heap=w'.heap→X w→X w') (own:ownKnob C.prog.godebug=none) (started:os.Started) (noInit:C.prog.inits.idxOf? f=none) (hfn:C.prog.funcs[f]?=some fn)
  (witness:∃ (w:World) (tape:Tape) (i:Input),w.os=os∧(w.forCall tape i).Shaped C.prog∧i.vars=[]∧Input.okWide C.prog (w.forCall tape i) .any w.heap.size f i∧
   ((s.pre enc C.prog fn conds apart (w.forCall tape i).memory i.args∧X (w.forCall tape i).memory)∧sizedMet enc C.prog fn (OpenSpec.ofChange s) apart (w.forCall tape i).memory i.args)∧a.holds C.prog (lone (Frame.enter C.prog f i.args .normal) [] (w.forCall tape i)))
  (walk:∀ (W:World) (base:Nat) (args:Array Value) (ds gs:List (DataW H)) (before:List MemPlace),
   (∀ (j:Nat) t v,fn.params[j]?=some t→args[j]?=some v→Value.okWide C.prog W .any base t v)→DataW.Whole enc C.prog fn.params.toList s.vars apart W args.toList ds gs before→(DataW.weightsEach C.prog (fn.params.toList++s.plain.varTypes C.prog) (ds++gs)).all (· ≤reachBytes)=true→X W→W.ShapedOpen C.prog→
   Calls C.prog f args W fun e W'=>∃ v,e= .returned v∧s.post enc C.prog fn apart fresh handsOn again W args v W'):
  ReturnsInHanded a C os f .any (fun w args=>(s.pre enc C.prog fn conds apart w args∧X w)∧sizedMet enc C.prog fn (OpenSpec.ofChange s) apart w args) (s.post enc C.prog fn apart fresh handsOn again):=by
 refine returnsInHanded_of_calls own started noInit witness ?_
 intro w tape i _ hsh _ hok hpre _
 obtain ⟨_,_,_,fn',hfn',_,_,_,_,hval⟩:=hok
 cases hfn'.symm.trans hfn
 obtain ⟨⟨⟨ds,gs,before,hw,_⟩,hx⟩,hz⟩:=hpre
 refine (walk (w.forCall tape i) w.heap.size i.args ds gs before hval (DataW.Whole.of_heap (w':=w.forCall tape i) (by rfl) hw) (hz.weights hw) (hX _ _ (by rfl) hx) hsh).mono fun e W' ⟨v,he,hp⟩=>?_
 subst he
 exact ChangeSpec.post_blind hp
set_option maxRecDepth 100000 in
theorem sourceLists_lifted (os:Os) (started:os.Started) (H:Type) (enc:TypeId×Value→H):
  ReturnsInHanded {} Tryz.checked os 3 .any (fun w args=>(Rows.sourceListsSpec.pre enc Tryz.prog Tryz.f3 [] false w args∧laidMetH Tryz.prog Rows.sourceListsRow.laid w)∧sizedMet enc Tryz.prog Tryz.f3 (OpenSpec.ofChange Rows.sourceListsSpec) false w args) (Rows.sourceListsSpec.post enc Tryz.prog Tryz.f3 false true false false):=by
 refine rih_shaped (C:=Tryz.checked) (X:=fun w=>laidMetH Tryz.prog Rows.sourceListsRow.laid w) (fun _ _ hh h=>h.of_heap hh) ownKnob_none started (by kernel_rfl) Tryz.func3
  (ChangeSpec.witness_shaped (enc:=enc) (C:=Tryz.checked) (os:=os) (X:=fun w _=>laidMetH Tryz.prog Rows.sourceListsRow.laid w) false (World.laidAll Tryz.prog os Rows.sourceListsRow.laid) #[.slice none 0 0,.slice none 0 0,.int .u32 0] 8 (World.laidAll_os _ _ _) (World.shaped_of_ZipB (by kernel_rfl) (by kernel_rfl)) (by kernel_rfl) (by kernel_rfl) (by kernel_rfl) (door_met os _)) ?_
 intro W base args ds gs before hval0 hW hsz hL hsh
 have hval:∀ (j:Nat) t v,Tryz.f3.params[j]?=some t→args[j]?=some v→Value.okWide Tryz.prog W .any base t v:=hval0
 have hW':=hW
 obtain ⟨p,q,hA0,hV,rfl,hfz,hnd⟩:=hW
 have hA:DataW.TrodAll enc Tryz.prog W 0 (fun _=>true) true Tryz.f3.params.toList args.toList ds p:=hA0
 have hpar:Tryz.f3.params=#[22,23,24]:=by kernel_rfl
 rw [hpar] at hA hval hsz
 obtain ⟨v0,v1,v2,d0,d1,d2,p0,p1,p2,rfl,rfl,rfl,h0,h1,h2⟩:=trodAll_three hA
 obtain ⟨rfl,rfl⟩:=trodVars_none hV
 have hl:=lib_of hL hsh
 have hg:=sg_of hL
 obtain ⟨l0,a0,k0,rfl,hl0,hr0,ho0⟩:=open_rrA (hval 0 22 v0 rfl rfl) h0 (wt_of hsz (j:=0) rfl rfl)
 obtain ⟨l1,a1,k1,rfl,hl1,hr1,ho1⟩:=open_cubesA (hval 1 23 v1 rfl rfl) h1 (wt_of hsz (j:=1) rfl rfl)
 obtain ⟨n2,rfl,hu2⟩:=open_u32 (hval 2 24 v2 rfl rfl) h2
 have hw:=SourceListsW_c l0 a0 k0 l1 a1 k1 n2 W hl hg hl0 hr0 ho0 hl1 hr1 ho1 hu2
 refine hw.mono fun e W' ⟨he,hSt⟩=>?_
 subst he
 exact ⟨_,rfl,law_post' (by kernel_rfl) (by rw [hpar];decide) rfl hW' rfl rfl rfl hSt⟩

theorem jf0 :(Rows.sourceListsRow.wf (OpenSpec.ofChange Rows.sourceListsSpec)&&laidOutB Tryz.prog&&mapsRowed Tryz.prog)=true:=by decide+kernel
theorem jf1 :(Rows.sourceListsRow.inPlace==Tryz.prog.inPlace 3)=true:=by decide+kernel
theorem jf2 :(Rows.sourceListsRow.unfollowed==Tryz.prog.unfollowed 3)=true:=by decide+kernel
theorem jf3 :(Rows.sourceListsRow.recurses==Tryz.prog.recurses 3)=true:=by decide+kernel
theorem jf4 :(Rows.sourceListsRow.named==Tryz.prog.varsNamed 3)=true:=by decide+kernel
theorem jf5 :(Rows.sourceListsRow.pinned==Rows.sourceListsRow.pinnedBy)=true:=by decide+kernel
theorem jf6 :(Rows.sourceListsRow.lifted==Tryz.prog.liftsFinal)=true:=by decide+kernel
theorem jf7 :Tryz.prog.stopsHeard=true:=by decide+kernel
theorem jf8 :Tryz.prog.mayEnter=true:=by decide+kernel
theorem jf9 :(Rows.sourceListsRow.plainKeys==Tryz.prog.plainKeys)=true:=by decide+kernel
theorem jfs :joinedFacts Tryz.prog 3 Tryz.f3 Rows.sourceListsSpec Rows.sourceListsRow=true:=by
 unfold joinedFacts
 rw [jf0,jf1,jf2,jf3,jf4,jf5,jf6,jf7,jf8,jf9]
 decide+kernel
theorem sourceLists_holds :Rows.SourceListsSaid:=
 OpenClaim.holds_of_wide 3 Tryz.f3 rfl rfl rfl rfl rfl rfl rfl ⟨rfl,rfl,rfl,rfl,rfl⟩ rfl rfl rfl rfl rfl (by kernel_rfl) Tryz.func3 jfs
  (of_decide_eq_true (by kernel_rfl)) (by unfold Func.isWrapper;first | (rw [if_pos (by decide+kernel)];kernel_rfl) | (rw [if_neg (by decide+kernel)];exact ⟨rfl,rfl⟩))
  (fun os started H enc _=>sourceLists_lifted os started H enc)
set_option maxRecDepth 100000 in
theorem sourceListsCard_holds :Rows.SourceListsCardSaid:=
 Claim7.holds_tied_plain_at .later [] [.data, .data, .data, .data, .sentinel, .sentinel, .data, .pinned] true (true, "5c408d01856005e0ead388d535194a7445dad9ba248942633f6cf848cb2f0ffb") true
  sourceLists_holds (fun _ h=>by cases h) (by kernel_rfl) (fun _ h=>by cases h) sourceLists_row_tie rfl ⟨rfl,rfl⟩ (by kernel_rfl) (by kernel_rfl)
  (fun f fn hf hfn=>by
   obtain rfl : f = 3 := Option.some.inj ((show Tryz.prog.funcNamed "motley/motleylaw06.SourceLists" = some 3 by kernel_rfl).symm.trans hf) |>.symm
   obtain rfl:fn=Tryz.f3:=(Option.some.inj (Tryz.func3.symm.trans hfn)).symm
   exact ⟨by kernel_rfl,fun j t ht=>by
    rw [show Tryz.f3.params=#[22,23,24] by kernel_rfl] at ht
    have hm:t∈[22,23,24]:=by simpa using Array.mem_of_getElem? ht
    have hall:([22,23,24].all fun u=> !Tryz.prog.wantsStandIn u)=true:=by kernel_rfl
    exact (show Tryz.prog.wantsStandIn t=false by simpa using List.all_eq_true.1 hall t hm)⟩)
  (by kernel_rfl)
#print axioms sourceListsCard_holds
end Go.Proofs.YtedbajbgnmaakaaGreatDoor
