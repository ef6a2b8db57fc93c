/-
 PROVED: the tied card of 'motleylaw06.SourceProducts': the law returns true for every input, and leaves its arguments as they were; the library's tables lie as the program's text lays them.
-/
import Derived.Test.YtedbajbgnmaakaaGreatDoorPaSourceProducts9
import Derived.Test.YtedbajbgnmaakaaGreatDoorTie
import Derived.Test.YtedbajbgnmaakaaGreatDoorCards
import Derived.LaidMore
import Derived.OpenShut
import Derived.Stop.Joined
import Derived.Stop.LaidErr
import Derived.SevenTiedAt
import Derived.Lay
import Derived.Shelf.Vars
import Derived.LaidLaws
set_option linter.unusedVariables false
namespace Go.Proofs.YtedbajbgnmaakaaGreatDoor
open Go Go.Eng Go.Proofs Go.ChangeShapes Go.WideShapes Go.ChangeAt Go.RowKit Go.ChangeMaps

theorem star_err : "*" ++ "errors.errorString" = "*errors.errorString" := by decide
theorem rowE_ptr (u : TypeId) (h : Tryz.prog.typeName? 3 u = some "*errors.errorString") : u = 420 :=
 typeName_ptr_named (nm := "errors.errorString") (by rw [star_err]; kernel_rfl) (by kernel_rfl) (by decide) u (by rw [star_err]; exact h)
theorem door_met (os:Os) (args:Array Value):laidMetH Tryz.prog Rows.sourceProductsRow.laid ((World.laidAll Tryz.prog os Rows.sourceProductsRow.laid).forCall (fun _ _=>0) ⟨#[],args,[]⟩).memory:=by
 rw [MakeChecks.laidMetH_plain _ _ _ (by kernel_rfl)]
 exact laidMet_laidAll _ (by kernel_rfl) (by kernel_rfl)
theorem lib_of {W:World} (h:laidMetH Tryz.prog Rows.sourceProductsRow.laid W) (hsh:W.ShapedOpen Tryz.prog):LibW W:=by
 rw [MakeChecks.laidMetH_plain _ _ _ (by kernel_rfl)] at h
 have hL:=h
 have hes:∃ ev,W.cell? ⟨4,0,none⟩=some ev∧(ev= .nilIface∨∃ te pe,ev= .iface te pe):=by
  obtain ⟨a0,s0,hv,_⟩:=laid_sentinel (g:=4) (ti:=370) (tp:=420) (te:=422) (ts:=9) hL.tail.tail.tail.tail.tail (by kernel_rfl) (by kernel_rfl) Tryz.underlying370 rowE_ptr Tryz.underlying420 Tryz.underlying422 (by kernel_rfl) (by kernel_rfl) (by kernel_rfl) (by kernel_rfl) (by kernel_rfl)
  refine ⟨_,(World.var?_cell (by kernel_rfl) hv 0).trans rfl,.inr ⟨_,_,rfl⟩⟩
 have her:∃ ev,W.cell? ⟨5,0,none⟩=some ev∧(ev= .nilIface∨∃ te pe,ev= .iface te pe):=by
  obtain ⟨a0,s0,hv,_⟩:=laid_sentinel (g:=5) (ti:=370) (tp:=420) (te:=422) (ts:=9) hL.tail.tail.tail.tail (by kernel_rfl) (by kernel_rfl) Tryz.underlying370 rowE_ptr Tryz.underlying420 Tryz.underlying422 (by kernel_rfl) (by kernel_rfl) (by kernel_rfl) (by kernel_rfl) (by kernel_rfl)
  refine ⟨_,(World.var?_cell (by kernel_rfl) hv 0).trans rfl,.inr ⟨_,_,rfl⟩⟩
 exact ⟨Lib.tabIs_of_head (g:=6) (t:=424) (e:=237) (n:=20) (by kernel_rfl) (by kernel_rfl) (by kernel_rfl) (by kernel_rfl) (by kernel_rfl) (by kernel_rfl) hL.tail.tail,
  hes,her⟩
theorem sg_of {W:World} (h:laidMetH Tryz.prog Rows.sourceProductsRow.laid W):SgW W:=by
 rw [MakeChecks.laidMetH_plain _ _ _ (by kernel_rfl)] at h
 have hL:=h
 exact strs_of_head (zs:=Fm.signsL) (g:=0) (t:=352) (e:=9) (n:=22) (by kernel_rfl) (by kernel_rfl) (by kernel_rfl) (by kernel_rfl) (by kernel_rfl) (by kernel_rfl) hL.tail.tail.tail.tail.tail.tail
/-- The builder of a row that lists variables,the world's shape kept. -/
theorem rih_shaped {H:Type} {enc:TypeId×Value→H} {a:Assume} {C:Checked} {os:Os} {f:FuncId} {fn:Func} {s:ChangeSpec} {conds:List PathCond} {apart fresh handsOn again:Bool} {X:World→Prop}
  (hX:∀ w w':World,w.heap=w'.heap→X w→X w') (own:ownKnob C.prog.godebug=none) (started:os.Started) (noInit:C.prog.inits.idxOf? f=none) (hfn:C.prog.funcs[f]?=some fn)
  (witness:∃ (w:World) (tape:Tape) (i:Input),w.os=os∧(w.forCall tape i).Shaped C.prog∧i.vars=[]∧Input.okWide C.prog (w.forCall tape i) .any w.heap.size f i∧
   ((s.pre enc C.prog fn conds apart (w.forCall tape i).memory i.args∧X (w.forCall tape i).memory)∧sizedMet enc C.prog fn (OpenSpec.ofChange s) apart (w.forCall tape i).memory i.args)∧a.holds C.prog (lone (Frame.enter C.prog f i.args .normal) [] (w.forCall tape i)))
  (walk:∀ (W:World) (base:Nat) (args:Array Value) (ds gs:List (DataW H)) (before:List MemPlace),
   (∀ (j:Nat) t v,fn.params[j]?=some t→args[j]?=some v→Value.okWide C.prog W .any base t v)→DataW.Whole enc C.prog fn.params.toList s.vars apart W args.toList ds gs before→(DataW.weightsEach C.prog (fn.params.toList++s.plain.varTypes C.prog) (ds++gs)).all (· ≤reachBytes)=true→X W→W.ShapedOpen C.prog→
   Calls C.prog f args W fun e W'=>∃ v,e= .returned v∧s.post enc C.prog fn apart fresh handsOn again W args v W'):
  ReturnsInHanded a C os f .any (fun w args=>(s.pre enc C.prog fn conds apart w args∧X w)∧sizedMet enc C.prog fn (OpenSpec.ofChange s) apart w args) (s.post enc C.prog fn apart fresh handsOn again):=by
 refine returnsInHanded_of_calls own started noInit witness ?_
 intro w tape i _ hsh _ hok hpre _
 obtain ⟨_,_,_,fn',hfn',_,_,_,_,hval⟩:=hok
 cases hfn'.symm.trans hfn
 obtain ⟨⟨⟨ds,gs,before,hw,_⟩,hx⟩,hz⟩:=hpre
 refine (walk (w.forCall tape i) w.heap.size i.args ds gs before hval (DataW.Whole.of_heap (w':=w.forCall tape i) (by rfl) hw) (hz.weights hw) (hX _ _ (by rfl) hx) hsh).mono fun e W' ⟨v,he,hp⟩=>?_
 subst he
 exact ChangeSpec.post_blind hp
set_option maxRecDepth 100000 in
theorem sourceProducts_lifted (os:Os) (started:os.Started) (H:Type) (enc:TypeId×Value→H):
  ReturnsInHanded {} Tryz.checked os 4 .any (fun w args=>(Rows.sourceProductsSpec.pre enc Tryz.prog Tryz.f4 [] false w args∧laidMetH Tryz.prog Rows.sourceProductsRow.laid w)∧sizedMet enc Tryz.prog Tryz.f4 (OpenSpec.ofChange Rows.sourceProductsSpec) false w args) (Rows.sourceProductsSpec.post enc Tryz.prog Tryz.f4 false true false false):=by
 refine rih_shaped (C:=Tryz.checked) (X:=fun w=>laidMetH Tryz.prog Rows.sourceProductsRow.laid w) (fun _ _ hh h=>h.of_heap hh) ownKnob_none started (by kernel_rfl) Tryz.func4
  (ChangeSpec.witness_shaped (enc:=enc) (C:=Tryz.checked) (os:=os) (X:=fun w _=>laidMetH Tryz.prog Rows.sourceProductsRow.laid w) false (World.laidAll Tryz.prog os Rows.sourceProductsRow.laid) #[.agg #[.slice none 0 0,.slice none 0 0],.slice none 0 0,.int .i64 0] 8 (World.laidAll_os _ _ _) (World.shaped_of_ZipB (by kernel_rfl) (by kernel_rfl)) (by kernel_rfl) (by kernel_rfl) (by kernel_rfl) (door_met os _)) ?_
 intro W base args ds gs before hval0 hW hsz hL hsh
 have hval:∀ (j:Nat) t v,Tryz.f4.params[j]?=some t→args[j]?=some v→Value.okWide Tryz.prog W .any base t v:=hval0
 have hW':=hW
 obtain ⟨p,q,hA0,hV,rfl,hfz,hnd⟩:=hW
 have hA:DataW.TrodAll enc Tryz.prog W 0 (fun _=>true) true Tryz.f4.params.toList args.toList ds p:=hA0
 have hpar:Tryz.f4.params=#[43,23,3]:=by kernel_rfl
 rw [hpar] at hA hval hsz
 obtain ⟨v0,v1,v2,d0,d1,d2,p0,p1,p2,rfl,rfl,rfl,h0,h1,h2⟩:=trodAll_three hA
 obtain ⟨rfl,rfl⟩:=trodVars_none hV
 have hl:=lib_of hL hsh
 have hg:=sg_of hL
 obtain ⟨x0,rfl,hx0⟩:=open_rowsA (hval 0 43 v0 rfl rfl) h0 (wt_of hsz (j:=0) rfl rfl)
 obtain ⟨l1,a1,k1,rfl,hl1,hr1,ho1⟩:=open_cubesA (hval 1 23 v1 rfl rfl) h1 (wt_of hsz (j:=1) rfl rfl)
 obtain ⟨n2,rfl,hn2⟩:=open_i64 (hval 2 3 v2 rfl rfl) h2
 have hw:=SourceProductsW_c x0 l1 a1 k1 n2 W hl hg hx0 hl1 hr1 ho1
 refine hw.mono fun e W' ⟨he,hSt⟩=>?_
 subst he
 exact ⟨_,rfl,law_post' (by kernel_rfl) (by rw [hpar];decide) rfl hW' rfl rfl rfl hSt⟩

theorem jf0 :(Rows.sourceProductsRow.wf (OpenSpec.ofChange Rows.sourceProductsSpec)&&laidOutB Tryz.prog&&mapsRowed Tryz.prog)=true:=by decide+kernel
theorem jf1 :(Rows.sourceProductsRow.inPlace==Tryz.prog.inPlace 4)=true:=by decide+kernel
theorem jf2 :(Rows.sourceProductsRow.unfollowed==Tryz.prog.unfollowed 4)=true:=by decide+kernel
theorem jf3 :(Rows.sourceProductsRow.recurses==Tryz.prog.recurses 4)=true:=by decide+kernel
theorem jf4 :(Rows.sourceProductsRow.named==Tryz.prog.varsNamed 4)=true:=by decide+kernel
theorem jf5 :(Rows.sourceProductsRow.pinned==Rows.sourceProductsRow.pinnedBy)=true:=by decide+kernel
theorem jf6 :(Rows.sourceProductsRow.lifted==Tryz.prog.liftsFinal)=true:=by decide+kernel
theorem jf7 :Tryz.prog.stopsHeard=true:=by decide+kernel
theorem jf8 :Tryz.prog.mayEnter=true:=by decide+kernel
theorem jf9 :(Rows.sourceProductsRow.plainKeys==Tryz.prog.plainKeys)=true:=by decide+kernel
theorem jfs :joinedFacts Tryz.prog 4 Tryz.f4 Rows.sourceProductsSpec Rows.sourceProductsRow=true:=by
 unfold joinedFacts
 rw [jf0,jf1,jf2,jf3,jf4,jf5,jf6,jf7,jf8,jf9]
 decide+kernel
theorem sourceProducts_holds :Rows.SourceProductsSaid:=
 OpenClaim.holds_of_wide 4 Tryz.f4 rfl rfl rfl rfl rfl rfl rfl ⟨rfl,rfl,rfl,rfl,rfl⟩ rfl rfl rfl rfl rfl (by kernel_rfl) Tryz.func4 jfs
  (of_decide_eq_true (by kernel_rfl)) (by unfold Func.isWrapper;first | (rw [if_pos (by decide+kernel)];kernel_rfl) | (rw [if_neg (by decide+kernel)];exact ⟨rfl,rfl⟩))
  (fun os started H enc _=>sourceProducts_lifted os started H enc)
set_option maxRecDepth 100000 in
theorem sourceProductsCard_holds :Rows.SourceProductsCardSaid:=
 Claim7.holds_tied_plain_at .later [] [.data, .data, .data, .data, .sentinel, .sentinel, .data, .pinned] true (true, "5c408d01856005e0ead388d535194a7445dad9ba248942633f6cf848cb2f0ffb") true
  sourceProducts_holds (fun _ h=>by cases h) (by kernel_rfl) (fun _ h=>by cases h) sourceProducts_row_tie rfl ⟨rfl,rfl⟩ (by kernel_rfl) (by kernel_rfl)
  (fun f fn hf hfn=>by
   obtain rfl : f = 4 := Option.some.inj ((show Tryz.prog.funcNamed "motley/motleylaw06.SourceProducts" = some 4 by kernel_rfl).symm.trans hf) |>.symm
   obtain rfl:fn=Tryz.f4:=(Option.some.inj (Tryz.func4.symm.trans hfn)).symm
   exact ⟨by kernel_rfl,fun j t ht=>by
    rw [show Tryz.f4.params=#[43,23,3] by kernel_rfl] at ht
    have hm:t∈[43,23,3]:=by simpa using Array.mem_of_getElem? ht
    have hall:([43,23,3].all fun u=> !Tryz.prog.wantsStandIn u)=true:=by kernel_rfl
    exact (show Tryz.prog.wantsStandIn t=false by simpa using List.all_eq_true.1 hall t hm)⟩)
  (by kernel_rfl)
#print axioms sourceProductsCard_holds
end Go.Proofs.YtedbajbgnmaakaaGreatDoor
